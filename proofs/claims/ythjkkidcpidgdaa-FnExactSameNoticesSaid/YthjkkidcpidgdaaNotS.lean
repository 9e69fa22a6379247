/-
  Contracts of the equality of notices, aids and characters: the program's and the reference's. Each under the conditions that it states.
-/
import Derived.Test.YthjkkidcpidgdaaNotA
set_option linter.unusedVariables false
set_option linter.unnecessarySimpa false
set_option maxRecDepth 100000
set_option linter.unusedSimpArgs false
namespace Go.Proofs.Ythjkkidcpidgdaa
open Go.RowKit BigFrame Go.Deep


/-- A row of sectors in memory. -/
structure SRow where
  A : Option Addr
  c : Nat
  L : List RSector
instance : Inhabited SRow := ⟨⟨none, 0, []⟩⟩
structure GRow where
  A : Option Addr
  c : Nat
  L : List Int
instance : Inhabited GRow := ⟨⟨none, 0, []⟩⟩
def SRow.ok (w : World) (B : Nat) (r : SRow) : Prop := Sl w B r.A (flat RSector.cells r.L) ∧ (∀ a ∈ r.L, a.ok) ∧ r.L.length ≤ maxLen
def GRow.ok (w : World) (B : Nat) (r : GRow) : Prop := Sl w B r.A (ints r.L) ∧ r.L.length ≤ maxLen
structure RAid where
  n : Int
  name : ByteArray
  x : Int
  y : Int
  h : Int
  md : Int
  mc : ByteArray
  ms : ByteArray
  mt : ByteArray
  lk : Int
  g : GRow
  ll : ByteArray
  lc : ByteArray
  lp : Int
  s : SRow
  i : Int
instance : Inhabited RAid := ⟨⟨0, ⟨#[]⟩, 0, 0, 0, 0, ⟨#[]⟩, ⟨#[]⟩, ⟨#[]⟩, 0, default, ⟨#[]⟩, ⟨#[]⟩, 0, default, 0⟩⟩
structure RNotice where
  f0 : Int
  f1 : Int
  f2 : Int
  f3 : Int
  a : RAid
instance : Inhabited RNotice := ⟨⟨0, 0, 0, 0, default⟩⟩
def RAid.cells (a : RAid) : List Value := [.int .i64 a.n, .string a.name, .int .i64 a.x, .int .i64 a.y, .int .i64 a.h, .int .i64 a.md, .string a.mc, .string a.ms, .string a.mt, .int .i64 a.lk, .slice a.g.A a.g.L.length a.g.c, .string a.ll, .string a.lc, .int .i64 a.lp, .slice a.s.A a.s.L.length a.s.c, .int .i64 a.i]
def RNotice.cells (n : RNotice) : List Value := [.int .i64 n.f0, .int .i64 n.f1, .int .i64 n.f2, .int .i64 n.f3, .int .i64 n.a.n, .string n.a.name, .int .i64 n.a.x, .int .i64 n.a.y, .int .i64 n.a.h, .int .i64 n.a.md, .string n.a.mc, .string n.a.ms, .string n.a.mt, .int .i64 n.a.lk, .slice n.a.g.A n.a.g.L.length n.a.g.c, .string n.a.ll, .string n.a.lc, .int .i64 n.a.lp, .slice n.a.s.A n.a.s.L.length n.a.s.c, .int .i64 n.a.i]
theorem RAid.len (a : RAid) : a.cells.length = 16 := rfl
theorem RNotice.len (n : RNotice) : n.cells.length = 20 := rfl
def RAid.ok (w : World) (B : Nat) (a : RAid) : Prop := (a.name.size ≤ maxLen ∧ a.mc.size ≤ maxLen ∧ a.ms.size ≤ maxLen ∧ a.mt.size ≤ maxLen ∧ a.ll.size ≤ maxLen ∧ a.lc.size ≤ maxLen) ∧ a.g.ok w B ∧ a.s.ok w B
theorem RAid.ok_below {w w' : World} {B : Nat} {a : RAid} (h : a.ok w B) (hb : Below B w w') : a.ok w' B := ⟨h.1, ⟨h.2.1.1.below hb, h.2.1.2⟩, ⟨h.2.2.1.below hb, h.2.2.2⟩⟩
def RAid.fits (a : RAid) : Prop := a.g.L.length ≤ 1048576 ∧ a.s.L.length ≤ 1048576
def chSame (a b : RAid) : Bool := decide (a.lk = b.lk) && (decide (a.g.L = b.g.L) && (decide (a.ll = b.ll) && (decide (a.lc = b.lc) && (decide (a.lp = b.lp)))))
def RAid.same (a b : RAid) : Bool := decide (a.n = b.n) && (decide (a.name = b.name) && (decide (a.x = b.x) && (decide (a.y = b.y) && (decide (a.h = b.h) && (decide (a.md = b.md) && (decide (a.mc = b.mc) && (decide (a.ms = b.ms) && (decide (a.mt = b.mt) && (chSame a b && (sameSectorM a.s.L b.s.L && (decide (a.i = b.i))))))))))))
def RNotice.same (a b : RNotice) : Bool := decide (a.f0 = b.f0) && (decide (a.f1 = b.f1) && (decide (a.f2 = b.f2) && (decide (a.f3 = b.f3) && (a.a.same b.a))))
def eqTo (G M : List Int) (k : Nat) : Prop := ∀ (j : Nat) (h : j < G.length) (h2 : j < M.length), j < k → G[j] = M[j]
theorem eqTo_step {G M : List Int} {k : Nat} (h : eqTo G M k) (h1 : k < G.length) (h2 : k < M.length) (e : G[k] = M[k]) : eqTo G M (k + 1) := fun j hj hj2 hjk => by
  rcases (by omega : j < k ∨ j = k) with h3 | rfl
  · exact h j hj hj2 h3
  · exact e
theorem eqTo_all {G M : List Int} (h : eqTo G M G.length) (hl : G.length = M.length) : decide (G = M) = true :=
  decide_eq_true (List.ext_getElem hl fun j h1 h2 => h j h1 h2 h1)
theorem eqTo_no {G M : List Int} {k : Nat} (h1 : k < G.length) (h2 : k < M.length) (e : ¬ G[k] = M[k]) : decide (G = M) = false := decide_eq_false fun h => e (by subst h; rfl)
set_option maxHeartbeats 800000 in
theorem spec_sameI (G M : List Int) (A A2 : Option Addr) (c c2 B : Nat) (w : World) (hs : Sl w B A (ints G)) (hs2 : Sl w B A2 (ints M)) (hB : B ≤ w.heap.size) (hl : G.length ≤ 1048576) (hl2 : M.length ≤ 1048576) (t : Bool) (ht : decide (G = M) = t) : Calls Try.prog 86 #[.slice A G.length c, .slice A2 M.length c2] w fun e w' => e = .returned (.bool t) ∧ Below w.heap.size w w' := by
  have hs' := Lib.hid hs
  have hs2' := Lib.hid hs2
  clear hs hs2
  subst ht
  by_cases hlen : G.length = M.length
  rotate_left
  · have hm : Hid (decide (G = M) = false) := Lib.hid (decide_eq_false fun e => hlen (by rw [e]))
    have hne : ((G.length : Int) == (M.length : Int)) = false := beq_eq_false_iff_ne.2 (by omega)
    clear hlen
    go_enter Try.func86, Try.ntmps86
    go_wp2
    go_ret
    exact ⟨ret_bool hm.out.symm, by go_grown⟩
  have hlen' := Lib.hid hlen
  rw [← hlen]
  clear hlen
  go_enter Try.func86, Try.ntmps86
  go_wp2
  go_loopw [5] (fun i wr => ∃ k : Nat, i = .int .i64 k ∧ k ≤ G.length ∧ eqTo G M k ∧ Below w.heap.size w wr) (fun i _ => G.length - (intOf i).toNat)
  case atStart => exact ⟨0, rfl, Nat.zero_le _, fun j _ _ h => absurd h (Nat.not_lt_zero _), by go_grown⟩
  case round =>
    obtain ⟨k, rfl, hk, hv, hB1⟩ := hrel
    have hv' := Lib.hid hv
    clear hv
    by_cases hlt : k < G.length
    · have hltM : k < M.length := by have := hlen'.out; omega
      obtain ⟨bp, op, rfl, hbp, dp⟩ := Sl.int (hs'.out.below (hB1.mono hB)) hlt
      obtain ⟨bq, oq, rfl, hbq, dq⟩ := Sl.int (hs2'.out.below (hB1.mono hB)) hltM
      have hwp : bp < wr.heap.size := by have := hB1.size; omega
      have hwq : bq < wr.heap.size := by have := hB1.size; omega
      by_cases hab : G[k] = M[k]
      · have hst := Lib.hid (eqTo_step hv'.out hlt hltM hab)
        rw [← hab] at dq
        obtain ⟨a, ha⟩ : ∃ a, G[k] = a := ⟨_, rfl⟩
        rw [ha] at dp dq
        clear hab ha
        go_wp2_with fail
        refine wp_region_grew (by kernel_rfl) (by kernel_rfl) ?_
        repeat (first | (go_big_quiet_step (fail)) | (quiet_step (fail)))
        refine wpQuiet_nil ?_
        rintro _ ⟨⟨w9, hb9⟩, rfl⟩
        try dsimp only
        obtain ⟨hc9, hf9⟩ := bcell hb9
        go_wp2
        go_roundw
        case rel => exact ⟨k + 1, by go_num, by omega, hst.out, bnext hB1 hb9⟩
        case measure => simp [intOf]; omega
      · have hm := Lib.hid (eqTo_no hlt hltM hab)
        have hx : (G[k] == M[k]) = false := beq_eq_false_iff_ne.2 hab
        obtain ⟨a, ha⟩ : ∃ a, G[k] = a := ⟨_, rfl⟩
        obtain ⟨b, hb⟩ : ∃ b, M[k] = b := ⟨_, rfl⟩
        rw [ha] at dp hx
        rw [hb] at dq hx
        clear hab ha hb
        go_wp2_with fail
        refine wp_region_grew (by kernel_rfl) (by kernel_rfl) ?_
        repeat (first | (go_big_quiet_step (fail)) | (quiet_step (fail)))
        refine wpQuiet_nil ?_
        rintro _ ⟨⟨w9, hb9⟩, rfl⟩
        try dsimp only
        obtain ⟨hc9, hf9⟩ := bcell hb9
        go_wp2
        go_ret
        exact ⟨ret_bool hm.out.symm, bnext hB1 hb9⟩
    · obtain rfl : k = G.length := by omega
      have hm := Lib.hid (eqTo_all hv'.out hlen'.out)
      go_wp2
      go_ret
      exact ⟨ret_bool hm.out.symm, hB1⟩
set_option maxHeartbeats 800000 in
theorem impl_sameI (G M : List Int) (A A2 : Option Addr) (c c2 B : Nat) (w : World) (hs : Sl w B A (ints G)) (hs2 : Sl w B A2 (ints M)) (hB : B ≤ w.heap.size) (hl : G.length ≤ 1048576) (hl2 : M.length ≤ 1048576) (t : Bool) (ht : decide (G = M) = t) : Calls Try.prog 56 #[.slice A G.length c, .slice A2 M.length c2] w fun e w' => e = .returned (.bool t) ∧ Below w.heap.size w w' := by
  have hs' := Lib.hid hs
  have hs2' := Lib.hid hs2
  clear hs hs2
  subst ht
  by_cases hlen : G.length = M.length
  rotate_left
  · have hm : Hid (decide (G = M) = false) := Lib.hid (decide_eq_false fun e => hlen (by rw [e]))
    have hne : ((G.length : Int) == (M.length : Int)) = false := beq_eq_false_iff_ne.2 (by omega)
    clear hlen
    go_enter Try.func56, Try.ntmps56
    go_wp2
    go_ret
    exact ⟨ret_bool hm.out.symm, by go_grown⟩
  have hlen' := Lib.hid hlen
  rw [← hlen]
  clear hlen
  go_enter Try.func56, Try.ntmps56
  go_wp2
  go_loopw [13] (fun i wr => ∃ k : Nat, i = .int .i64 k ∧ k ≤ G.length ∧ eqTo G M k ∧ Below w.heap.size w wr) (fun i _ => G.length - (intOf i).toNat)
  case atStart => exact ⟨0, rfl, Nat.zero_le _, fun j _ _ h => absurd h (Nat.not_lt_zero _), by go_grown⟩
  case round =>
    obtain ⟨k, rfl, hk, hv, hB1⟩ := hrel
    have hv' := Lib.hid hv
    clear hv
    by_cases hlt : k < G.length
    · have hltM : k < M.length := by have := hlen'.out; omega
      obtain ⟨bp, op, rfl, hbp, dp⟩ := Sl.int (hs'.out.below (hB1.mono hB)) hlt
      obtain ⟨bq, oq, rfl, hbq, dq⟩ := Sl.int (hs2'.out.below (hB1.mono hB)) hltM
      have hwp : bp < wr.heap.size := by have := hB1.size; omega
      have hwq : bq < wr.heap.size := by have := hB1.size; omega
      by_cases hab : G[k] = M[k]
      · have hst := Lib.hid (eqTo_step hv'.out hlt hltM hab)
        rw [← hab] at dq
        obtain ⟨a, ha⟩ : ∃ a, G[k] = a := ⟨_, rfl⟩
        rw [ha] at dp dq
        clear hab ha
        go_wp2_with fail
        refine wp_region_grew (by kernel_rfl) (by kernel_rfl) ?_
        repeat (first | (go_big_quiet_step (fail)) | (quiet_step (fail)))
        refine wpQuiet_nil ?_
        rintro _ ⟨⟨w9, hb9⟩, rfl⟩
        try dsimp only
        obtain ⟨hc9, hf9⟩ := bcell hb9
        go_wp2
        go_roundw
        case rel => exact ⟨k + 1, by go_num, by omega, hst.out, bnext hB1 hb9⟩
        case measure => simp [intOf]; omega
      · have hm := Lib.hid (eqTo_no hlt hltM hab)
        have hx : (G[k] == M[k]) = false := beq_eq_false_iff_ne.2 hab
        obtain ⟨a, ha⟩ : ∃ a, G[k] = a := ⟨_, rfl⟩
        obtain ⟨b, hb⟩ : ∃ b, M[k] = b := ⟨_, rfl⟩
        rw [ha] at dp hx
        rw [hb] at dq hx
        clear hab ha hb
        go_wp2_with fail
        refine wp_region_grew (by kernel_rfl) (by kernel_rfl) ?_
        repeat (first | (go_big_quiet_step (fail)) | (quiet_step (fail)))
        refine wpQuiet_nil ?_
        rintro _ ⟨⟨w9, hb9⟩, rfl⟩
        try dsimp only
        obtain ⟨hc9, hf9⟩ := bcell hb9
        go_wp2
        go_ret
        exact ⟨ret_bool hm.out.symm, bnext hB1 hb9⟩
    · obtain rfl : k = G.length := by omega
      have hm := Lib.hid (eqTo_all hv'.out hlen'.out)
      go_wp2
      go_ret
      exact ⟨ret_bool hm.out.symm, hB1⟩

/-- A character in memory: five cells from o on. -/
def Ch (w : World) (g o : Nat) (a : RAid) : Prop := g < w.heap.size ∧ (w.cell? ⟨g, o, none⟩ = some (.int .i64 a.lk) ∧ w.cell? ⟨g, o + 1, none⟩ = some (.slice a.g.A a.g.L.length a.g.c) ∧ w.cell? ⟨g, o + 2, none⟩ = some (.string a.ll) ∧ w.cell? ⟨g, o + 3, none⟩ = some (.string a.lc) ∧ w.cell? ⟨g, o + 4, none⟩ = some (.int .i64 a.lp))
set_option maxHeartbeats 3200000 in
theorem spec_chSame (a b : RAid) (g o g2 o2 B : Nat) (w : World) (ha : Ch w g o a) (hb : Ch w g2 o2 b) (hga : Sl w B a.g.A (ints a.g.L)) (hgb : Sl w B b.g.A (ints b.g.L)) (hB : B ≤ w.heap.size) (hl : a.g.L.length ≤ 1048576) (hl2 : b.g.L.length ≤ 1048576) (t : Bool) (ht : chSame a b = t) : Calls Try.prog 72 #[.pointer (some ⟨g, o, none⟩), .pointer (some ⟨g2, o2, none⟩)] w fun e w' => e = .returned (.bool t) ∧ Below w.heap.size w w' := by
  subst ht
  have hga' := Lib.hid hga
  have hgb' := Lib.hid hgb
  obtain ⟨hg, ca0, ca1, ca2, ca3, ca4⟩ := ha
  obtain ⟨hg2, cb0, cb1, cb2, cb3, cb4⟩ := hb
  clear hga hgb
  by_cases h0 : a.lk = b.lk
  rotate_left
  · have hm : Hid (chSame a b = false) := Lib.hid (by unfold chSame; rw [decide_eq_false h0]; simp)
    have hx := (show (a.lk == b.lk) = false from beq_eq_false_iff_ne.2 h0)
    clear h0
    go_enter Try.func72, Try.ntmps72
    go_wp2_with fail
    refine wp_region_grew (by kernel_rfl) (by kernel_rfl) ?_
    repeat (first | (go_big_quiet_step ((first | fail))) | (quiet_step ((first | fail))))
    refine wpQuiet_nil ?_
    rintro _ ⟨⟨w1, hb1⟩, rfl⟩
    try dsimp only
    obtain ⟨hc1, hf1⟩ := bcell hb1
    go_wp2
    go_ret
    exact ⟨ret_bool hm.out.symm, hb1⟩
  cases h1 : decide (a.g.L = b.g.L)
  · have hm : Hid (chSame a b = false) := Lib.hid (by unfold chSame; rw [decide_eq_true h0, h1]; simp)
    rw [← h0] at cb0
    have hI := Lib.hid h1
    clear h0 h1
    go_enter Try.func72, Try.ntmps72
    go_wp2_with fail
    refine wp_region_grew (by kernel_rfl) (by kernel_rfl) ?_
    repeat (first | (go_big_quiet_step ((first | (go_at_call 86; exact grew_of (spec_sameI a.g.L b.g.L _ _ _ _ B _ (hga'.out.below ((Grew.below _).mono hB)) (hgb'.out.below ((Grew.below _).mono hB)) (Nat.le_trans hB (Grew.below _).size) hl hl2 _ hI.out))))) | (quiet_step ((first | (go_at_call 86; exact grew_of (spec_sameI a.g.L b.g.L _ _ _ _ B _ (hga'.out.below ((Grew.below _).mono hB)) (hgb'.out.below ((Grew.below _).mono hB)) (Nat.le_trans hB (Grew.below _).size) hl hl2 _ hI.out))))))
    refine wpQuiet_nil ?_
    rintro _ ⟨⟨w1, hb1⟩, rfl⟩
    try dsimp only
    obtain ⟨hc1, hf1⟩ := bcell hb1
    go_wp2
    go_ret
    exact ⟨ret_bool hm.out.symm, hb1⟩
  by_cases h2 : a.ll = b.ll
  rotate_left
  · have hm : Hid (chSame a b = false) := Lib.hid (by unfold chSame; rw [decide_eq_true h0, h1, decide_eq_false h2]; simp)
    have hx := bytes_ne h2
    clear h2
    rw [← h0] at cb0
    have hI := Lib.hid h1
    clear h0 h1
    go_enter Try.func72, Try.ntmps72
    go_wp2_with fail
    refine wp_region_grew (by kernel_rfl) (by kernel_rfl) ?_
    repeat (first | (go_big_quiet_step ((first | (go_at_call 86; exact grew_of (spec_sameI a.g.L b.g.L _ _ _ _ B _ (hga'.out.below ((Grew.below _).mono hB)) (hgb'.out.below ((Grew.below _).mono hB)) (Nat.le_trans hB (Grew.below _).size) hl hl2 _ hI.out))))) | (quiet_step ((first | (go_at_call 86; exact grew_of (spec_sameI a.g.L b.g.L _ _ _ _ B _ (hga'.out.below ((Grew.below _).mono hB)) (hgb'.out.below ((Grew.below _).mono hB)) (Nat.le_trans hB (Grew.below _).size) hl hl2 _ hI.out))))))
    refine wpQuiet_nil ?_
    rintro _ ⟨⟨w1, hb1⟩, rfl⟩
    try dsimp only
    obtain ⟨hc1, hf1⟩ := bcell hb1
    go_wp2
    go_ret
    exact ⟨ret_bool hm.out.symm, hb1⟩
  by_cases h3 : a.lc = b.lc
  rotate_left
  · have hm : Hid (chSame a b = false) := Lib.hid (by unfold chSame; rw [decide_eq_true h0, h1, decide_eq_true h2, decide_eq_false h3]; simp)
    have hx := bytes_ne h3
    clear h3
    rw [← h0] at cb0
    rw [← h2] at cb2
    have hI := Lib.hid h1
    clear h0 h2 h1
    go_enter Try.func72, Try.ntmps72
    go_wp2_with fail
    refine wp_region_grew (by kernel_rfl) (by kernel_rfl) ?_
    repeat (first | (go_big_quiet_step ((first | (go_at_call 86; exact grew_of (spec_sameI a.g.L b.g.L _ _ _ _ B _ (hga'.out.below ((Grew.below _).mono hB)) (hgb'.out.below ((Grew.below _).mono hB)) (Nat.le_trans hB (Grew.below _).size) hl hl2 _ hI.out))))) | (quiet_step ((first | (go_at_call 86; exact grew_of (spec_sameI a.g.L b.g.L _ _ _ _ B _ (hga'.out.below ((Grew.below _).mono hB)) (hgb'.out.below ((Grew.below _).mono hB)) (Nat.le_trans hB (Grew.below _).size) hl hl2 _ hI.out))))))
    refine wpQuiet_nil ?_
    rintro _ ⟨⟨w1, hb1⟩, rfl⟩
    try dsimp only
    obtain ⟨hc1, hf1⟩ := bcell hb1
    go_wp2
    go_ret
    exact ⟨ret_bool hm.out.symm, hb1⟩
  by_cases h4 : a.lp = b.lp
  rotate_left
  · have hm : Hid (chSame a b = false) := Lib.hid (by unfold chSame; rw [decide_eq_true h0, h1, decide_eq_true h2, decide_eq_true h3, decide_eq_false h4]; simp)
    have hx := (show (a.lp == b.lp) = false from beq_eq_false_iff_ne.2 h4)
    clear h4
    rw [← h0] at cb0
    rw [← h2] at cb2
    rw [← h3] at cb3
    have hI := Lib.hid h1
    clear h0 h2 h3 h1
    go_enter Try.func72, Try.ntmps72
    go_wp2_with fail
    refine wp_region_grew (by kernel_rfl) (by kernel_rfl) ?_
    repeat (first | (go_big_quiet_step ((first | (go_at_call 86; exact grew_of (spec_sameI a.g.L b.g.L _ _ _ _ B _ (hga'.out.below ((Grew.below _).mono hB)) (hgb'.out.below ((Grew.below _).mono hB)) (Nat.le_trans hB (Grew.below _).size) hl hl2 _ hI.out))))) | (quiet_step ((first | (go_at_call 86; exact grew_of (spec_sameI a.g.L b.g.L _ _ _ _ B _ (hga'.out.below ((Grew.below _).mono hB)) (hgb'.out.below ((Grew.below _).mono hB)) (Nat.le_trans hB (Grew.below _).size) hl hl2 _ hI.out))))))
    refine wpQuiet_nil ?_
    rintro _ ⟨⟨w1, hb1⟩, rfl⟩
    try dsimp only
    obtain ⟨hc1, hf1⟩ := bcell hb1
    go_wp2
    go_ret
    exact ⟨ret_bool hm.out.symm, hb1⟩
  have hm : Hid (chSame a b = true) := Lib.hid (by unfold chSame; rw [decide_eq_true h0, h1, decide_eq_true h2, decide_eq_true h3, decide_eq_true h4]; rfl)
  rw [← h0] at cb0
  rw [← h2] at cb2
  rw [← h3] at cb3
  rw [← h4] at cb4
  have hI := Lib.hid h1
  clear h0 h2 h3 h4 h1
  go_enter Try.func72, Try.ntmps72
  go_wp2_with fail
  refine wp_region_grew (by kernel_rfl) (by kernel_rfl) ?_
  repeat (first | (go_big_quiet_step ((first | (go_at_call 86; exact grew_of (spec_sameI a.g.L b.g.L _ _ _ _ B _ (hga'.out.below ((Grew.below _).mono hB)) (hgb'.out.below ((Grew.below _).mono hB)) (Nat.le_trans hB (Grew.below _).size) hl hl2 _ hI.out))))) | (quiet_step ((first | (go_at_call 86; exact grew_of (spec_sameI a.g.L b.g.L _ _ _ _ B _ (hga'.out.below ((Grew.below _).mono hB)) (hgb'.out.below ((Grew.below _).mono hB)) (Nat.le_trans hB (Grew.below _).size) hl hl2 _ hI.out))))))
  refine wpQuiet_nil ?_
  rintro _ ⟨⟨w1, hb1⟩, rfl⟩
  try dsimp only
  obtain ⟨hc1, hf1⟩ := bcell hb1
  go_wp2
  go_ret
  exact ⟨ret_bool hm.out.symm, hb1⟩
set_option maxHeartbeats 3200000 in
theorem impl_chSame (a b : RAid) (B : Nat) (w : World) (hga : Sl w B a.g.A (ints a.g.L)) (hgb : Sl w B b.g.A (ints b.g.L)) (hB : B ≤ w.heap.size) (hl : a.g.L.length ≤ 1048576) (hl2 : b.g.L.length ≤ 1048576) (t : Bool) (ht : chSame a b = t) : Calls Try.prog 34 #[.agg #[.int .i64 a.lk, .slice a.g.A a.g.L.length a.g.c, .string a.ll, .string a.lc, .int .i64 a.lp], .agg #[.int .i64 b.lk, .slice b.g.A b.g.L.length b.g.c, .string b.ll, .string b.lc, .int .i64 b.lp]] w fun e w' => e = .returned (.bool t) ∧ Below w.heap.size w w' := by
  subst ht
  have hga' := Lib.hid hga
  have hgb' := Lib.hid hgb
  clear hga hgb
  by_cases h0 : a.lk = b.lk
  rotate_left
  · have hm : Hid (chSame a b = false) := Lib.hid (by unfold chSame; rw [decide_eq_false h0]; simp)
    have hx := (show (a.lk == b.lk) = false from beq_eq_false_iff_ne.2 h0)
    clear h0
    go_enter Try.func34, Try.ntmps34
    go_wp2
    go_ret
    exact ⟨ret_bool hm.out.symm, by go_grown⟩
  cases h1 : decide (a.g.L = b.g.L)
  · have hm : Hid (chSame a b = false) := Lib.hid (by unfold chSame; rw [decide_eq_true h0, h1]; simp)
    rw [← h0]
    have hI := Lib.hid h1
    clear h0 h1
    go_enter Try.func34, Try.ntmps34
    go_wp2_with (go_at_call 56; refine (impl_sameI a.g.L b.g.L _ _ _ _ B _ (hga'.out.below ((show Below w.heap.size w _ by go_grown).mono hB)) (hgb'.out.below ((show Below w.heap.size w _ by go_grown).mono hB)) (by (try simp); (try omega)) hl hl2 _ hI.out).mono ?_; rintro e w1 ⟨rfl, hb1⟩; have hB1 := bnext (w := w) (by go_grown) hb1; have hS1 := hB1.size; ((have hz1 : w.heap.size < w1.heap.size := by have := hb1.size; (try simp only [World.size_alloc, World.size_setCell, World.size_drew] at this); omega); (have hy1 : w.heap.size + 1 < w1.heap.size := by have := hb1.size; (try simp only [World.size_alloc, World.size_setCell, World.size_drew] at this); omega)); obtain ⟨hc1, hf1⟩ := bcell hb1; clear hb1)
    go_ret
    exact ⟨ret_bool hm.out.symm, by go_grown⟩
  by_cases h2 : a.ll = b.ll
  rotate_left
  · have hm : Hid (chSame a b = false) := Lib.hid (by unfold chSame; rw [decide_eq_true h0, h1, decide_eq_false h2]; simp)
    have hx := bytes_ne h2
    clear h2
    rw [← h0]
    have hI := Lib.hid h1
    clear h0 h1
    go_enter Try.func34, Try.ntmps34
    go_wp2_with (go_at_call 56; refine (impl_sameI a.g.L b.g.L _ _ _ _ B _ (hga'.out.below ((show Below w.heap.size w _ by go_grown).mono hB)) (hgb'.out.below ((show Below w.heap.size w _ by go_grown).mono hB)) (by (try simp); (try omega)) hl hl2 _ hI.out).mono ?_; rintro e w1 ⟨rfl, hb1⟩; have hB1 := bnext (w := w) (by go_grown) hb1; have hS1 := hB1.size; ((have hz1 : w.heap.size < w1.heap.size := by have := hb1.size; (try simp only [World.size_alloc, World.size_setCell, World.size_drew] at this); omega); (have hy1 : w.heap.size + 1 < w1.heap.size := by have := hb1.size; (try simp only [World.size_alloc, World.size_setCell, World.size_drew] at this); omega)); obtain ⟨hc1, hf1⟩ := bcell hb1; clear hb1)
    go_ret
    exact ⟨ret_bool hm.out.symm, by go_grown⟩
  by_cases h3 : a.lc = b.lc
  rotate_left
  · have hm : Hid (chSame a b = false) := Lib.hid (by unfold chSame; rw [decide_eq_true h0, h1, decide_eq_true h2, decide_eq_false h3]; simp)
    have hx := bytes_ne h3
    clear h3
    rw [← h0]
    rw [← h2]
    have hI := Lib.hid h1
    clear h0 h2 h1
    go_enter Try.func34, Try.ntmps34
    go_wp2_with (go_at_call 56; refine (impl_sameI a.g.L b.g.L _ _ _ _ B _ (hga'.out.below ((show Below w.heap.size w _ by go_grown).mono hB)) (hgb'.out.below ((show Below w.heap.size w _ by go_grown).mono hB)) (by (try simp); (try omega)) hl hl2 _ hI.out).mono ?_; rintro e w1 ⟨rfl, hb1⟩; have hB1 := bnext (w := w) (by go_grown) hb1; have hS1 := hB1.size; ((have hz1 : w.heap.size < w1.heap.size := by have := hb1.size; (try simp only [World.size_alloc, World.size_setCell, World.size_drew] at this); omega); (have hy1 : w.heap.size + 1 < w1.heap.size := by have := hb1.size; (try simp only [World.size_alloc, World.size_setCell, World.size_drew] at this); omega)); obtain ⟨hc1, hf1⟩ := bcell hb1; clear hb1)
    go_ret
    exact ⟨ret_bool hm.out.symm, by go_grown⟩
  by_cases h4 : a.lp = b.lp
  rotate_left
  · have hm : Hid (chSame a b = false) := Lib.hid (by unfold chSame; rw [decide_eq_true h0, h1, decide_eq_true h2, decide_eq_true h3, decide_eq_false h4]; simp)
    have hx := (show (a.lp == b.lp) = false from beq_eq_false_iff_ne.2 h4)
    clear h4
    rw [← h0]
    rw [← h2]
    rw [← h3]
    have hI := Lib.hid h1
    clear h0 h2 h3 h1
    go_enter Try.func34, Try.ntmps34
    go_wp2_with (go_at_call 56; refine (impl_sameI a.g.L b.g.L _ _ _ _ B _ (hga'.out.below ((show Below w.heap.size w _ by go_grown).mono hB)) (hgb'.out.below ((show Below w.heap.size w _ by go_grown).mono hB)) (by (try simp); (try omega)) hl hl2 _ hI.out).mono ?_; rintro e w1 ⟨rfl, hb1⟩; have hB1 := bnext (w := w) (by go_grown) hb1; have hS1 := hB1.size; ((have hz1 : w.heap.size < w1.heap.size := by have := hb1.size; (try simp only [World.size_alloc, World.size_setCell, World.size_drew] at this); omega); (have hy1 : w.heap.size + 1 < w1.heap.size := by have := hb1.size; (try simp only [World.size_alloc, World.size_setCell, World.size_drew] at this); omega)); obtain ⟨hc1, hf1⟩ := bcell hb1; clear hb1)
    go_ret
    exact ⟨ret_bool hm.out.symm, by go_grown⟩
  have hm : Hid (chSame a b = true) := Lib.hid (by unfold chSame; rw [decide_eq_true h0, h1, decide_eq_true h2, decide_eq_true h3, decide_eq_true h4]; rfl)
  rw [← h0]
  rw [← h2]
  rw [← h3]
  rw [← h4]
  have hI := Lib.hid h1
  clear h0 h2 h3 h4 h1
  go_enter Try.func34, Try.ntmps34
  go_wp2_with (go_at_call 56; refine (impl_sameI a.g.L b.g.L _ _ _ _ B _ (hga'.out.below ((show Below w.heap.size w _ by go_grown).mono hB)) (hgb'.out.below ((show Below w.heap.size w _ by go_grown).mono hB)) (by (try simp); (try omega)) hl hl2 _ hI.out).mono ?_; rintro e w1 ⟨rfl, hb1⟩; have hB1 := bnext (w := w) (by go_grown) hb1; have hS1 := hB1.size; ((have hz1 : w.heap.size < w1.heap.size := by have := hb1.size; (try simp only [World.size_alloc, World.size_setCell, World.size_drew] at this); omega); (have hy1 : w.heap.size + 1 < w1.heap.size := by have := hb1.size; (try simp only [World.size_alloc, World.size_setCell, World.size_drew] at this); omega)); obtain ⟨hc1, hf1⟩ := bcell hb1; clear hb1)
  go_ret
  exact ⟨ret_bool hm.out.symm, by go_grown⟩
end Go.Proofs.Ythjkkidcpidgdaa
