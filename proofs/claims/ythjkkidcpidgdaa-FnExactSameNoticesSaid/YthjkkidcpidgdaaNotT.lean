/-
  Contracts of the equality of aids and notices: the reference's. Each under the conditions that it states.
-/
import Derived.Test.YthjkkidcpidgdaaNotS
set_option linter.unusedVariables false
set_option linter.unnecessarySimpa false
set_option maxRecDepth 100000
set_option linter.unusedSimpArgs false
namespace Go.Proofs.Ythjkkidcpidgdaa
open Go.RowKit BigFrame Go.Deep


theorem spec_secS (L M : List RSector) (A A2 : Option Addr) (c c2 B : Nat) (w : World) (hs : Sl w B A (flat RSector.cells L)) (hs2 : Sl w B A2 (flat RSector.cells M)) (hB : B ≤ w.heap.size) (hl : L.length ≤ 1048576) (hl2 : M.length ≤ 1048576) (t : Bool) (ht : sameSectorM L M = t) : Calls Try.prog 73 #[.slice A L.length c, .slice A2 M.length c2] w fun e w' => e = .returned (.bool t) ∧ Below w.heap.size w w' := by
  subst ht
  exact spec_sameSector L M A A2 c c2 B w hs hs2 hB hl hl2
/-- An aid in memory: sixteen cells from o on; a notice: twenty. -/
def Ad (w : World) (g o : Nat) (a : RAid) : Prop := g < w.heap.size ∧ ∀ (j : Nat) (u : Value), a.cells[j]? = some u → w.cell? ⟨g, o + j, none⟩ = some u
def Nd (w : World) (g o : Nat) (n : RNotice) : Prop := g < w.heap.size ∧ ∀ (j : Nat) (u : Value), n.cells[j]? = some u → w.cell? ⟨g, o + j, none⟩ = some u
theorem Ad.on {w w' : World} {g o : Nat} {a : RAid} (h : Ad w g o a) (hb : Below w.heap.size w w') : Ad w' g o a := ⟨Nat.lt_of_lt_of_le h.1 hb.size, fun j u hu => (hb.cell (p := ⟨g, o + j, none⟩) h.1).trans (h.2 j u hu)⟩
theorem Nd.on {w w' : World} {g o : Nat} {a : RNotice} (h : Nd w g o a) (hb : Below w.heap.size w w') : Nd w' g o a := ⟨Nat.lt_of_lt_of_le h.1 hb.size, fun j u hu => (hb.cell (p := ⟨g, o + j, none⟩) h.1).trans (h.2 j u hu)⟩
theorem Ch.on {w w' : World} {g o : Nat} {a : RAid} (h : Ch w g o a) (hb : Below w.heap.size w w') : Ch w' g o a := by
  obtain ⟨hg, c0, c1, c2, c3, c4⟩ := h
  obtain ⟨hc, _⟩ := bcell hb
  exact ⟨Nat.lt_of_lt_of_le hg hb.size, (hc _ _ hg).trans c0, (hc _ _ hg).trans c1, (hc _ _ hg).trans c2, (hc _ _ hg).trans c3, (hc _ _ hg).trans c4⟩
theorem Ad.ch {w : World} {g o : Nat} {a : RAid} (h : Ad w g o a) : Ch w g (o + 9) a := ⟨h.1, h.2 9 _ rfl, h.2 10 _ rfl, h.2 11 _ rfl, h.2 12 _ rfl, h.2 13 _ rfl⟩
theorem Nd.ad {w : World} {g o : Nat} {n : RNotice} (h : Nd w g o n) : Ad w g (o + 4) n.a := ⟨h.1, fun j u hu => by
  have h1 : n.cells[j + 4]? = some u := hu
  have := h.2 (j + 4) u h1
  rwa [show o + (j + 4) = o + 4 + j by omega] at this⟩
set_option maxHeartbeats 12800000 in
theorem spec_aidSame (a b : RAid) (g o g2 o2 B : Nat) (w : World) (ha : Ad w g o a) (hb : Ad w g2 o2 b) (oka : a.ok w B) (okb : b.ok w B) (hB : B ≤ w.heap.size) (hl : a.fits) (hl2 : b.fits) (t : Bool) (ht : a.same b = t) : Calls Try.prog 51 #[.pointer (some ⟨g, o, none⟩), .pointer (some ⟨g2, o2, none⟩)] w fun e w' => e = .returned (.bool t) ∧ Below w.heap.size w w' := by
  subst ht
  have hga' := Lib.hid oka.2.1.1
  have hgb' := Lib.hid okb.2.1.1
  have hsa' := Lib.hid oka.2.2.1
  have hsb' := Lib.hid okb.2.2.1
  clear oka okb
  have hca := Lib.hid ha.ch
  have hcb := Lib.hid hb.ch
  have hg := ha.1
  have hg2 := hb.1
  have ca0 : w.cell? ⟨g, o, none⟩ = some (.int .i64 a.n) := ha.2 0 _ rfl
  have ca1 : w.cell? ⟨g, o + 1, none⟩ = some (.string a.name) := ha.2 1 _ rfl
  have ca2 : w.cell? ⟨g, o + 2, none⟩ = some (.int .i64 a.x) := ha.2 2 _ rfl
  have ca3 : w.cell? ⟨g, o + 3, none⟩ = some (.int .i64 a.y) := ha.2 3 _ rfl
  have ca4 : w.cell? ⟨g, o + 4, none⟩ = some (.int .i64 a.h) := ha.2 4 _ rfl
  have ca5 : w.cell? ⟨g, o + 5, none⟩ = some (.int .i64 a.md) := ha.2 5 _ rfl
  have ca6 : w.cell? ⟨g, o + 6, none⟩ = some (.string a.mc) := ha.2 6 _ rfl
  have ca7 : w.cell? ⟨g, o + 7, none⟩ = some (.string a.ms) := ha.2 7 _ rfl
  have ca8 : w.cell? ⟨g, o + 8, none⟩ = some (.string a.mt) := ha.2 8 _ rfl
  have ca14 : w.cell? ⟨g, o + 14, none⟩ = some (.slice a.s.A a.s.L.length a.s.c) := ha.2 14 _ rfl
  have ca15 : w.cell? ⟨g, o + 15, none⟩ = some (.int .i64 a.i) := ha.2 15 _ rfl
  have cb0 : w.cell? ⟨g2, o2, none⟩ = some (.int .i64 b.n) := hb.2 0 _ rfl
  have cb1 : w.cell? ⟨g2, o2 + 1, none⟩ = some (.string b.name) := hb.2 1 _ rfl
  have cb2 : w.cell? ⟨g2, o2 + 2, none⟩ = some (.int .i64 b.x) := hb.2 2 _ rfl
  have cb3 : w.cell? ⟨g2, o2 + 3, none⟩ = some (.int .i64 b.y) := hb.2 3 _ rfl
  have cb4 : w.cell? ⟨g2, o2 + 4, none⟩ = some (.int .i64 b.h) := hb.2 4 _ rfl
  have cb5 : w.cell? ⟨g2, o2 + 5, none⟩ = some (.int .i64 b.md) := hb.2 5 _ rfl
  have cb6 : w.cell? ⟨g2, o2 + 6, none⟩ = some (.string b.mc) := hb.2 6 _ rfl
  have cb7 : w.cell? ⟨g2, o2 + 7, none⟩ = some (.string b.ms) := hb.2 7 _ rfl
  have cb8 : w.cell? ⟨g2, o2 + 8, none⟩ = some (.string b.mt) := hb.2 8 _ rfl
  have cb14 : w.cell? ⟨g2, o2 + 14, none⟩ = some (.slice b.s.A b.s.L.length b.s.c) := hb.2 14 _ rfl
  have cb15 : w.cell? ⟨g2, o2 + 15, none⟩ = some (.int .i64 b.i) := hb.2 15 _ rfl
  clear ha hb
  go_enter Try.func51, Try.ntmps51
  go_wp2_with fail
  simp only [List.append_eq, List.cons_append, List.nil_append]
  refine wp_region_grew (by kernel_rfl) (by kernel_rfl) ?_
  by_cases h0 : a.n = b.n
  rotate_left
  · have hm : Hid (a.same b = false) := Lib.hid (by unfold RAid.same; rw [decide_eq_false h0]; rfl)
    have hx := (show (a.n == b.n) = false from beq_eq_false_iff_ne.2 h0)
    clear h0
    repeat (first | (go_big_quiet_step ((first | fail))) | (quiet_step ((first | fail))))
    refine wpQuiet_nil ?_
    rintro w1 ⟨⟨w8, hb1⟩, rfl⟩
    try dsimp only
    obtain ⟨hc1, hf1⟩ := bcell hb1
    go_wp2
    go_ret
    exact ⟨ret_bool hm.out.symm, hb1⟩
  by_cases h1 : a.name = b.name
  rotate_left
  · have hm : Hid (a.same b = false) := Lib.hid (by unfold RAid.same; rw [decide_eq_true h0, decide_eq_false h1]; rfl)
    have hx := bytes_ne h1
    clear h1
    rw [← h0] at cb0
    clear h0
    repeat (first | (go_big_quiet_step ((first | fail))) | (quiet_step ((first | fail))))
    refine wpQuiet_nil ?_
    rintro w1 ⟨⟨w8, hb1⟩, rfl⟩
    try dsimp only
    obtain ⟨hc1, hf1⟩ := bcell hb1
    go_wp2
    go_ret
    exact ⟨ret_bool hm.out.symm, hb1⟩
  by_cases h2 : a.x = b.x
  rotate_left
  · have hm : Hid (a.same b = false) := Lib.hid (by unfold RAid.same; rw [decide_eq_true h0, decide_eq_true h1, decide_eq_false h2]; rfl)
    have hx := (show (a.x == b.x) = false from beq_eq_false_iff_ne.2 h2)
    clear h2
    rw [← h0] at cb0
    rw [← h1] at cb1
    clear h0 h1
    repeat (first | (go_big_quiet_step ((first | fail))) | (quiet_step ((first | fail))))
    refine wpQuiet_nil ?_
    rintro w1 ⟨⟨w8, hb1⟩, rfl⟩
    try dsimp only
    obtain ⟨hc1, hf1⟩ := bcell hb1
    go_wp2
    go_ret
    exact ⟨ret_bool hm.out.symm, hb1⟩
  by_cases h3 : a.y = b.y
  rotate_left
  · have hm : Hid (a.same b = false) := Lib.hid (by unfold RAid.same; rw [decide_eq_true h0, decide_eq_true h1, decide_eq_true h2, decide_eq_false h3]; rfl)
    have hx := (show (a.y == b.y) = false from beq_eq_false_iff_ne.2 h3)
    clear h3
    rw [← h0] at cb0
    rw [← h1] at cb1
    rw [← h2] at cb2
    clear h0 h1 h2
    repeat (first | (go_big_quiet_step ((first | fail))) | (quiet_step ((first | fail))))
    refine wpQuiet_nil ?_
    rintro w1 ⟨⟨w8, hb1⟩, rfl⟩
    try dsimp only
    obtain ⟨hc1, hf1⟩ := bcell hb1
    go_wp2
    go_ret
    exact ⟨ret_bool hm.out.symm, hb1⟩
  by_cases h4 : a.h = b.h
  rotate_left
  · have hm : Hid (a.same b = false) := Lib.hid (by unfold RAid.same; rw [decide_eq_true h0, decide_eq_true h1, decide_eq_true h2, decide_eq_true h3, decide_eq_false h4]; rfl)
    have hx := (show (a.h == b.h) = false from beq_eq_false_iff_ne.2 h4)
    clear h4
    rw [← h0] at cb0
    rw [← h1] at cb1
    rw [← h2] at cb2
    rw [← h3] at cb3
    clear h0 h1 h2 h3
    repeat (first | (go_big_quiet_step ((first | fail))) | (quiet_step ((first | fail))))
    refine wpQuiet_nil ?_
    rintro w1 ⟨⟨w8, hb1⟩, rfl⟩
    try dsimp only
    obtain ⟨hc1, hf1⟩ := bcell hb1
    go_wp2
    go_ret
    exact ⟨ret_bool hm.out.symm, hb1⟩
  by_cases h5 : a.md = b.md
  rotate_left
  · have hm : Hid (a.same b = false) := Lib.hid (by unfold RAid.same; rw [decide_eq_true h0, decide_eq_true h1, decide_eq_true h2, decide_eq_true h3, decide_eq_true h4, decide_eq_false h5]; rfl)
    have hx := (show (a.md == b.md) = false from beq_eq_false_iff_ne.2 h5)
    clear h5
    rw [← h0] at cb0
    rw [← h1] at cb1
    rw [← h2] at cb2
    rw [← h3] at cb3
    rw [← h4] at cb4
    clear h0 h1 h2 h3 h4
    repeat (first | (go_big_quiet_step ((first | fail))) | (quiet_step ((first | fail))))
    refine wpQuiet_nil ?_
    rintro w1 ⟨⟨w8, hb1⟩, rfl⟩
    try dsimp only
    obtain ⟨hc1, hf1⟩ := bcell hb1
    go_wp2
    go_ret
    exact ⟨ret_bool hm.out.symm, hb1⟩
  by_cases h6 : a.mc = b.mc
  rotate_left
  · have hm : Hid (a.same b = false) := Lib.hid (by unfold RAid.same; rw [decide_eq_true h0, decide_eq_true h1, decide_eq_true h2, decide_eq_true h3, decide_eq_true h4, decide_eq_true h5, decide_eq_false h6]; rfl)
    have hx := bytes_ne h6
    clear h6
    rw [← h0] at cb0
    rw [← h1] at cb1
    rw [← h2] at cb2
    rw [← h3] at cb3
    rw [← h4] at cb4
    rw [← h5] at cb5
    clear h0 h1 h2 h3 h4 h5
    repeat (first | (go_big_quiet_step ((first | fail))) | (quiet_step ((first | fail))))
    refine wpQuiet_nil ?_
    rintro w1 ⟨⟨w8, hb1⟩, rfl⟩
    try dsimp only
    obtain ⟨hc1, hf1⟩ := bcell hb1
    go_wp2
    go_ret
    exact ⟨ret_bool hm.out.symm, hb1⟩
  by_cases h7 : a.ms = b.ms
  rotate_left
  · have hm : Hid (a.same b = false) := Lib.hid (by unfold RAid.same; rw [decide_eq_true h0, decide_eq_true h1, decide_eq_true h2, decide_eq_true h3, decide_eq_true h4, decide_eq_true h5, decide_eq_true h6, decide_eq_false h7]; rfl)
    have hx := bytes_ne h7
    clear h7
    rw [← h0] at cb0
    rw [← h1] at cb1
    rw [← h2] at cb2
    rw [← h3] at cb3
    rw [← h4] at cb4
    rw [← h5] at cb5
    rw [← h6] at cb6
    clear h0 h1 h2 h3 h4 h5 h6
    repeat (first | (go_big_quiet_step ((first | fail))) | (quiet_step ((first | fail))))
    refine wpQuiet_nil ?_
    rintro w1 ⟨⟨w8, hb1⟩, rfl⟩
    try dsimp only
    obtain ⟨hc1, hf1⟩ := bcell hb1
    go_wp2
    go_ret
    exact ⟨ret_bool hm.out.symm, hb1⟩
  by_cases h8 : a.mt = b.mt
  rotate_left
  · have hm : Hid (a.same b = false) := Lib.hid (by unfold RAid.same; rw [decide_eq_true h0, decide_eq_true h1, decide_eq_true h2, decide_eq_true h3, decide_eq_true h4, decide_eq_true h5, decide_eq_true h6, decide_eq_true h7, decide_eq_false h8]; rfl)
    have hx := bytes_ne h8
    clear h8
    rw [← h0] at cb0
    rw [← h1] at cb1
    rw [← h2] at cb2
    rw [← h3] at cb3
    rw [← h4] at cb4
    rw [← h5] at cb5
    rw [← h6] at cb6
    rw [← h7] at cb7
    clear h0 h1 h2 h3 h4 h5 h6 h7
    repeat (first | (go_big_quiet_step ((first | fail))) | (quiet_step ((first | fail))))
    refine wpQuiet_nil ?_
    rintro w1 ⟨⟨w8, hb1⟩, rfl⟩
    try dsimp only
    obtain ⟨hc1, hf1⟩ := bcell hb1
    go_wp2
    go_ret
    exact ⟨ret_bool hm.out.symm, hb1⟩
  cases h9 : chSame a b
  · have hm : Hid (a.same b = false) := Lib.hid (by unfold RAid.same; rw [decide_eq_true h0, decide_eq_true h1, decide_eq_true h2, decide_eq_true h3, decide_eq_true h4, decide_eq_true h5, decide_eq_true h6, decide_eq_true h7, decide_eq_true h8, h9]; rfl)
    rw [← h0] at cb0
    rw [← h1] at cb1
    rw [← h2] at cb2
    rw [← h3] at cb3
    rw [← h4] at cb4
    rw [← h5] at cb5
    rw [← h6] at cb6
    rw [← h7] at cb7
    rw [← h8] at cb8
    have hI := Lib.hid h9
    clear h0 h1 h2 h3 h4 h5 h6 h7 h8 h9
    repeat (first | (go_big_quiet_step ((first | (go_at_call 72; exact grew_of (spec_chSame a b _ _ _ _ B _ (hca.out.on (Grew.below _)) (hcb.out.on (Grew.below _)) (hga'.out.below ((Grew.below _).mono hB)) (hgb'.out.below ((Grew.below _).mono hB)) (Nat.le_trans hB (Grew.below _).size) hl.1 hl2.1 _ hI.out))))) | (quiet_step ((first | (go_at_call 72; exact grew_of (spec_chSame a b _ _ _ _ B _ (hca.out.on (Grew.below _)) (hcb.out.on (Grew.below _)) (hga'.out.below ((Grew.below _).mono hB)) (hgb'.out.below ((Grew.below _).mono hB)) (Nat.le_trans hB (Grew.below _).size) hl.1 hl2.1 _ hI.out))))))
    refine wpQuiet_nil ?_
    rintro w1 ⟨⟨w8, hb1⟩, rfl⟩
    try dsimp only
    obtain ⟨hc1, hf1⟩ := bcell hb1
    go_wp2
    go_ret
    exact ⟨ret_bool hm.out.symm, hb1⟩
  cases h10 : sameSectorM a.s.L b.s.L
  · have hm : Hid (a.same b = false) := Lib.hid (by unfold RAid.same; rw [decide_eq_true h0, decide_eq_true h1, decide_eq_true h2, decide_eq_true h3, decide_eq_true h4, decide_eq_true h5, decide_eq_true h6, decide_eq_true h7, decide_eq_true h8, h9, h10]; rfl)
    rw [← h0] at cb0
    rw [← h1] at cb1
    rw [← h2] at cb2
    rw [← h3] at cb3
    rw [← h4] at cb4
    rw [← h5] at cb5
    rw [← h6] at cb6
    rw [← h7] at cb7
    rw [← h8] at cb8
    have hI := Lib.hid h9
    have hJ := Lib.hid h10
    clear h0 h1 h2 h3 h4 h5 h6 h7 h8 h9 h10
    repeat (first | (go_big_quiet_step ((first | (go_at_call 72; exact grew_of (spec_chSame a b _ _ _ _ B _ (hca.out.on (Grew.below _)) (hcb.out.on (Grew.below _)) (hga'.out.below ((Grew.below _).mono hB)) (hgb'.out.below ((Grew.below _).mono hB)) (Nat.le_trans hB (Grew.below _).size) hl.1 hl2.1 _ hI.out)) | (go_at_call 73; exact grew_of (spec_secS a.s.L b.s.L _ _ _ _ B _ (hsa'.out.below ((Grew.below _).mono hB)) (hsb'.out.below ((Grew.below _).mono hB)) (Nat.le_trans hB (Grew.below _).size) hl.2 hl2.2 _ hJ.out))))) | (quiet_step ((first | (go_at_call 72; exact grew_of (spec_chSame a b _ _ _ _ B _ (hca.out.on (Grew.below _)) (hcb.out.on (Grew.below _)) (hga'.out.below ((Grew.below _).mono hB)) (hgb'.out.below ((Grew.below _).mono hB)) (Nat.le_trans hB (Grew.below _).size) hl.1 hl2.1 _ hI.out)) | (go_at_call 73; exact grew_of (spec_secS a.s.L b.s.L _ _ _ _ B _ (hsa'.out.below ((Grew.below _).mono hB)) (hsb'.out.below ((Grew.below _).mono hB)) (Nat.le_trans hB (Grew.below _).size) hl.2 hl2.2 _ hJ.out))))))
    refine wpQuiet_nil ?_
    rintro w1 ⟨⟨w8, hb1⟩, rfl⟩
    try dsimp only
    obtain ⟨hc1, hf1⟩ := bcell hb1
    go_wp2
    go_ret
    exact ⟨ret_bool hm.out.symm, hb1⟩
  by_cases h11 : a.i = b.i
  rotate_left
  · have hm : Hid (a.same b = false) := Lib.hid (by unfold RAid.same; rw [decide_eq_true h0, decide_eq_true h1, decide_eq_true h2, decide_eq_true h3, decide_eq_true h4, decide_eq_true h5, decide_eq_true h6, decide_eq_true h7, decide_eq_true h8, h9, h10, decide_eq_false h11]; rfl)
    have hx := (show (a.i == b.i) = false from beq_eq_false_iff_ne.2 h11)
    clear h11
    rw [← h0] at cb0
    rw [← h1] at cb1
    rw [← h2] at cb2
    rw [← h3] at cb3
    rw [← h4] at cb4
    rw [← h5] at cb5
    rw [← h6] at cb6
    rw [← h7] at cb7
    rw [← h8] at cb8
    have hI := Lib.hid h9
    have hJ := Lib.hid h10
    clear h0 h1 h2 h3 h4 h5 h6 h7 h8 h9 h10
    repeat (first | (go_big_quiet_step ((first | (go_at_call 72; exact grew_of (spec_chSame a b _ _ _ _ B _ (hca.out.on (Grew.below _)) (hcb.out.on (Grew.below _)) (hga'.out.below ((Grew.below _).mono hB)) (hgb'.out.below ((Grew.below _).mono hB)) (Nat.le_trans hB (Grew.below _).size) hl.1 hl2.1 _ hI.out)) | (go_at_call 73; exact grew_of (spec_secS a.s.L b.s.L _ _ _ _ B _ (hsa'.out.below ((Grew.below _).mono hB)) (hsb'.out.below ((Grew.below _).mono hB)) (Nat.le_trans hB (Grew.below _).size) hl.2 hl2.2 _ hJ.out))))) | (quiet_step ((first | (go_at_call 72; exact grew_of (spec_chSame a b _ _ _ _ B _ (hca.out.on (Grew.below _)) (hcb.out.on (Grew.below _)) (hga'.out.below ((Grew.below _).mono hB)) (hgb'.out.below ((Grew.below _).mono hB)) (Nat.le_trans hB (Grew.below _).size) hl.1 hl2.1 _ hI.out)) | (go_at_call 73; exact grew_of (spec_secS a.s.L b.s.L _ _ _ _ B _ (hsa'.out.below ((Grew.below _).mono hB)) (hsb'.out.below ((Grew.below _).mono hB)) (Nat.le_trans hB (Grew.below _).size) hl.2 hl2.2 _ hJ.out))))))
    refine wpQuiet_nil ?_
    rintro w1 ⟨⟨w8, hb1⟩, rfl⟩
    try dsimp only
    obtain ⟨hc1, hf1⟩ := bcell hb1
    go_wp2
    go_ret
    exact ⟨ret_bool hm.out.symm, hb1⟩
  have hm : Hid (a.same b = true) := Lib.hid (by unfold RAid.same; rw [decide_eq_true h0, decide_eq_true h1, decide_eq_true h2, decide_eq_true h3, decide_eq_true h4, decide_eq_true h5, decide_eq_true h6, decide_eq_true h7, decide_eq_true h8, h9, h10, decide_eq_true h11]; rfl)
  rw [← h0] at cb0
  rw [← h1] at cb1
  rw [← h2] at cb2
  rw [← h3] at cb3
  rw [← h4] at cb4
  rw [← h5] at cb5
  rw [← h6] at cb6
  rw [← h7] at cb7
  rw [← h8] at cb8
  rw [← h11] at cb15
  have hI := Lib.hid h9
  have hJ := Lib.hid h10
  clear h0 h1 h2 h3 h4 h5 h6 h7 h8 h11 h9 h10
  repeat (first | (go_big_quiet_step ((first | (go_at_call 72; exact grew_of (spec_chSame a b _ _ _ _ B _ (hca.out.on (Grew.below _)) (hcb.out.on (Grew.below _)) (hga'.out.below ((Grew.below _).mono hB)) (hgb'.out.below ((Grew.below _).mono hB)) (Nat.le_trans hB (Grew.below _).size) hl.1 hl2.1 _ hI.out)) | (go_at_call 73; exact grew_of (spec_secS a.s.L b.s.L _ _ _ _ B _ (hsa'.out.below ((Grew.below _).mono hB)) (hsb'.out.below ((Grew.below _).mono hB)) (Nat.le_trans hB (Grew.below _).size) hl.2 hl2.2 _ hJ.out))))) | (quiet_step ((first | (go_at_call 72; exact grew_of (spec_chSame a b _ _ _ _ B _ (hca.out.on (Grew.below _)) (hcb.out.on (Grew.below _)) (hga'.out.below ((Grew.below _).mono hB)) (hgb'.out.below ((Grew.below _).mono hB)) (Nat.le_trans hB (Grew.below _).size) hl.1 hl2.1 _ hI.out)) | (go_at_call 73; exact grew_of (spec_secS a.s.L b.s.L _ _ _ _ B _ (hsa'.out.below ((Grew.below _).mono hB)) (hsb'.out.below ((Grew.below _).mono hB)) (Nat.le_trans hB (Grew.below _).size) hl.2 hl2.2 _ hJ.out))))))
  refine wpQuiet_nil ?_
  rintro w1 ⟨⟨w8, hb1⟩, rfl⟩
  try dsimp only
  obtain ⟨hc1, hf1⟩ := bcell hb1
  go_wp2
  go_ret
  exact ⟨ret_bool hm.out.symm, hb1⟩
end Go.Proofs.Ythjkkidcpidgdaa
