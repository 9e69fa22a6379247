/-
  Contracts of the equality of notices and of rows of notices: the reference's. Each under the conditions that it states.
-/
import Derived.Test.YthjkkidcpidgdaaNotT
set_option linter.unusedVariables false
set_option linter.unnecessarySimpa false
set_option maxRecDepth 100000
set_option linter.unusedSimpArgs false
namespace Go.Proofs.Ythjkkidcpidgdaa
open Go.RowKit BigFrame Go.Deep


set_option maxHeartbeats 6400000 in
theorem spec_notSame (a b : RNotice) (g o g2 o2 B : Nat) (w : World) (ha : Nd w g o a) (hb : Nd w g2 o2 b) (oka : a.a.ok w B) (okb : b.a.ok w B) (hB : B ≤ w.heap.size) (hl : a.a.fits) (hl2 : b.a.fits) (t : Bool) (ht : a.same b = t) : Calls Try.prog 32 #[.pointer (some ⟨g, o, none⟩), .pointer (some ⟨g2, o2, none⟩)] w fun e w' => e = .returned (.bool t) ∧ Below w.heap.size w w' := by
  subst ht
  have oka' := Lib.hid oka
  have okb' := Lib.hid okb
  clear oka okb
  have hca := Lib.hid ha.ad
  have hcb := Lib.hid hb.ad
  have hg := ha.1
  have hg2 := hb.1
  have ca0 : w.cell? ⟨g, o, none⟩ = some (.int .i64 a.f0) := ha.2 0 _ rfl
  have ca1 : w.cell? ⟨g, o + 1, none⟩ = some (.int .i64 a.f1) := ha.2 1 _ rfl
  have ca2 : w.cell? ⟨g, o + 2, none⟩ = some (.int .i64 a.f2) := ha.2 2 _ rfl
  have ca3 : w.cell? ⟨g, o + 3, none⟩ = some (.int .i64 a.f3) := ha.2 3 _ rfl
  have cb0 : w.cell? ⟨g2, o2, none⟩ = some (.int .i64 b.f0) := hb.2 0 _ rfl
  have cb1 : w.cell? ⟨g2, o2 + 1, none⟩ = some (.int .i64 b.f1) := hb.2 1 _ rfl
  have cb2 : w.cell? ⟨g2, o2 + 2, none⟩ = some (.int .i64 b.f2) := hb.2 2 _ rfl
  have cb3 : w.cell? ⟨g2, o2 + 3, none⟩ = some (.int .i64 b.f3) := hb.2 3 _ rfl
  clear ha hb
  by_cases h0 : a.f0 = b.f0
  rotate_left
  · have hm : Hid (a.same b = false) := Lib.hid (by unfold RNotice.same; rw [decide_eq_false h0]; rfl)
    have hx := (show (a.f0 == b.f0) = false from beq_eq_false_iff_ne.2 h0)
    clear h0
    go_enter Try.func32, Try.ntmps32
    go_wp2_with fail
    refine wp_region_grew (by kernel_rfl) (by kernel_rfl) ?_
    repeat (first | (go_big_quiet_step ((first | fail))) | (quiet_step ((first | fail))))
    refine wpQuiet_nil ?_
    rintro _ ⟨⟨w1, hb1⟩, rfl⟩
    try dsimp only
    obtain ⟨hc1, hf1⟩ := bcell hb1
    go_wp2
    go_ret
    exact ⟨ret_bool hm.out.symm, hb1⟩
  by_cases h1 : a.f1 = b.f1
  rotate_left
  · have hm : Hid (a.same b = false) := Lib.hid (by unfold RNotice.same; rw [decide_eq_true h0, decide_eq_false h1]; rfl)
    have hx := (show (a.f1 == b.f1) = false from beq_eq_false_iff_ne.2 h1)
    clear h1
    rw [← h0] at cb0
    clear h0
    go_enter Try.func32, Try.ntmps32
    go_wp2_with fail
    refine wp_region_grew (by kernel_rfl) (by kernel_rfl) ?_
    repeat (first | (go_big_quiet_step ((first | fail))) | (quiet_step ((first | fail))))
    refine wpQuiet_nil ?_
    rintro _ ⟨⟨w1, hb1⟩, rfl⟩
    try dsimp only
    obtain ⟨hc1, hf1⟩ := bcell hb1
    go_wp2
    go_ret
    exact ⟨ret_bool hm.out.symm, hb1⟩
  by_cases h2 : a.f2 = b.f2
  rotate_left
  · have hm : Hid (a.same b = false) := Lib.hid (by unfold RNotice.same; rw [decide_eq_true h0, decide_eq_true h1, decide_eq_false h2]; rfl)
    have hx := (show (a.f2 == b.f2) = false from beq_eq_false_iff_ne.2 h2)
    clear h2
    rw [← h0] at cb0
    rw [← h1] at cb1
    clear h0 h1
    go_enter Try.func32, Try.ntmps32
    go_wp2_with fail
    refine wp_region_grew (by kernel_rfl) (by kernel_rfl) ?_
    repeat (first | (go_big_quiet_step ((first | fail))) | (quiet_step ((first | fail))))
    refine wpQuiet_nil ?_
    rintro _ ⟨⟨w1, hb1⟩, rfl⟩
    try dsimp only
    obtain ⟨hc1, hf1⟩ := bcell hb1
    go_wp2
    go_ret
    exact ⟨ret_bool hm.out.symm, hb1⟩
  by_cases h3 : a.f3 = b.f3
  rotate_left
  · have hm : Hid (a.same b = false) := Lib.hid (by unfold RNotice.same; rw [decide_eq_true h0, decide_eq_true h1, decide_eq_true h2, decide_eq_false h3]; rfl)
    have hx := (show (a.f3 == b.f3) = false from beq_eq_false_iff_ne.2 h3)
    clear h3
    rw [← h0] at cb0
    rw [← h1] at cb1
    rw [← h2] at cb2
    clear h0 h1 h2
    go_enter Try.func32, Try.ntmps32
    go_wp2_with fail
    refine wp_region_grew (by kernel_rfl) (by kernel_rfl) ?_
    repeat (first | (go_big_quiet_step ((first | fail))) | (quiet_step ((first | fail))))
    refine wpQuiet_nil ?_
    rintro _ ⟨⟨w1, hb1⟩, rfl⟩
    try dsimp only
    obtain ⟨hc1, hf1⟩ := bcell hb1
    go_wp2
    go_ret
    exact ⟨ret_bool hm.out.symm, hb1⟩
  cases h4 : a.a.same b.a
  · have hm : Hid (a.same b = false) := Lib.hid (by unfold RNotice.same; rw [decide_eq_true h0, decide_eq_true h1, decide_eq_true h2, decide_eq_true h3, h4]; rfl)
    rw [← h0] at cb0
    rw [← h1] at cb1
    rw [← h2] at cb2
    rw [← h3] at cb3
    have hI := Lib.hid h4
    clear h0 h1 h2 h3 h4
    go_enter Try.func32, Try.ntmps32
    go_wp2_with fail
    refine wp_region_grew (by kernel_rfl) (by kernel_rfl) ?_
    repeat (first | (go_big_quiet_step ((first | (go_at_call 51; exact grew_of (spec_aidSame a.a b.a _ _ _ _ B _ (hca.out.on (Grew.below _)) (hcb.out.on (Grew.below _)) (RAid.ok_below oka'.out ((Grew.below _).mono hB)) (RAid.ok_below okb'.out ((Grew.below _).mono hB)) (Nat.le_trans hB (Grew.below _).size) hl hl2 _ hI.out))))) | (quiet_step ((first | (go_at_call 51; exact grew_of (spec_aidSame a.a b.a _ _ _ _ B _ (hca.out.on (Grew.below _)) (hcb.out.on (Grew.below _)) (RAid.ok_below oka'.out ((Grew.below _).mono hB)) (RAid.ok_below okb'.out ((Grew.below _).mono hB)) (Nat.le_trans hB (Grew.below _).size) hl hl2 _ hI.out))))))
    refine wpQuiet_nil ?_
    rintro _ ⟨⟨w1, hb1⟩, rfl⟩
    try dsimp only
    obtain ⟨hc1, hf1⟩ := bcell hb1
    go_wp2
    go_ret
    exact ⟨ret_bool hm.out.symm, hb1⟩
  have hm : Hid (a.same b = true) := Lib.hid (by unfold RNotice.same; rw [decide_eq_true h0, decide_eq_true h1, decide_eq_true h2, decide_eq_true h3, h4]; rfl)
  rw [← h0] at cb0
  rw [← h1] at cb1
  rw [← h2] at cb2
  rw [← h3] at cb3
  have hI := Lib.hid h4
  clear h0 h1 h2 h3 h4
  go_enter Try.func32, Try.ntmps32
  go_wp2_with fail
  refine wp_region_grew (by kernel_rfl) (by kernel_rfl) ?_
  repeat (first | (go_big_quiet_step ((first | (go_at_call 51; exact grew_of (spec_aidSame a.a b.a _ _ _ _ B _ (hca.out.on (Grew.below _)) (hcb.out.on (Grew.below _)) (RAid.ok_below oka'.out ((Grew.below _).mono hB)) (RAid.ok_below okb'.out ((Grew.below _).mono hB)) (Nat.le_trans hB (Grew.below _).size) hl hl2 _ hI.out))))) | (quiet_step ((first | (go_at_call 51; exact grew_of (spec_aidSame a.a b.a _ _ _ _ B _ (hca.out.on (Grew.below _)) (hcb.out.on (Grew.below _)) (RAid.ok_below oka'.out ((Grew.below _).mono hB)) (RAid.ok_below okb'.out ((Grew.below _).mono hB)) (Nat.le_trans hB (Grew.below _).size) hl hl2 _ hI.out))))))
  refine wpQuiet_nil ?_
  rintro _ ⟨⟨w1, hb1⟩, rfl⟩
  try dsimp only
  obtain ⟨hc1, hf1⟩ := bcell hb1
  go_wp2
  go_ret
  exact ⟨ret_bool hm.out.symm, hb1⟩
def alike (L M : List RNotice) (k : Nat) : Bool := (L.getD k default).same (M.getD k default)
def sameNM (L M : List RNotice) : Bool := decide (L.length = M.length) && allTo (alike L M) L.length
theorem alike_at {L M : List RNotice} {k : Nat} (h1 : k < L.length) (h2 : k < M.length) : alike L M k = (L[k]).same (M[k]) := by
  unfold alike
  rw [getD_at h1, getD_at h2]
def okNs (w : World) (B : Nat) (L : List RNotice) : Prop := ∀ n ∈ L, n.a.ok w B
def fitsNs (L : List RNotice) : Prop := L.length ≤ 1048576 ∧ ∀ n ∈ L, n.a.fits
theorem elem_nd {w wr : World} {B : Nat} {A : Option Addr} {L : List RNotice} (hs : Sl w B A (flat RNotice.cells L)) (hb : Below B w wr) (hB : B ≤ wr.heap.size) {k : Nat} (hk : k < L.length) : ∃ b o : Nat, A = some ⟨b, o, none⟩ ∧ b < wr.heap.size ∧ Nd wr b (o + k * 20) (L[k]) := by
  obtain ⟨b, o, rfl, hlt, he⟩ := Sl.elem RNotice.len (by decide) (hs.below hb) hk
  exact ⟨b, o, rfl, by omega, by omega, fun j v hv => by have := he j v hv; rwa [← Nat.add_assoc] at this⟩
set_option maxHeartbeats 1600000 in
theorem spec_sameN (L M : List RNotice) (A A2 : Option Addr) (c c2 B : Nat) (w : World) (hs : Sl w B A (flat RNotice.cells L)) (hs2 : Sl w B A2 (flat RNotice.cells M)) (hB : B ≤ w.heap.size) (ok : okNs w B L) (ok2 : okNs w B M) (hf : fitsNs L) (hf2 : fitsNs M) : Calls Try.prog 16 #[.slice A L.length c, .slice A2 M.length c2] w fun e w' => e = .returned (.bool (sameNM L M)) ∧ Below w.heap.size w w' := by
  have hl := hf.1
  have hl2 := hf2.1
  have hs' := Lib.hid hs
  have hs2' := Lib.hid hs2
  have ok' := Lib.hid ok
  have ok2' := Lib.hid ok2
  have hf' := Lib.hid hf.2
  have hf2' := Lib.hid hf2.2
  clear hs hs2 ok ok2 hf hf2
  by_cases hlen : L.length = M.length
  rotate_left
  · have hm : Hid (sameNM L M = false) := by apply Lib.hid; unfold sameNM; rw [decide_eq_false hlen]; rfl
    have hne : ((L.length : Int) == (M.length : Int)) = false := beq_eq_false_iff_ne.2 (by omega)
    clear hlen
    go_enter Try.func16, Try.ntmps16
    go_wp2
    go_ret
    exact ⟨ret_bool hm.out.symm, by go_grown⟩
  have hm : Hid (sameNM L M = allTo (alike L M) L.length) := by apply Lib.hid; unfold sameNM; rw [decide_eq_true hlen]; rfl
  have hlen' := Lib.hid hlen
  rw [← hlen]
  clear hlen
  go_enter Try.func16, Try.ntmps16
  go_wp2
  go_loopw [5] (fun i wr => ∃ k : Nat, i = .int .i64 k ∧ k ≤ L.length ∧ allTo (alike L M) k = true ∧ Below w.heap.size w wr) (fun i _ => L.length - (intOf i).toNat)
  case atStart => exact ⟨0, rfl, Nat.zero_le _, rfl, by go_grown⟩
  case round =>
    obtain ⟨k, rfl, hk, hv, hB1⟩ := hrel
    have hv' := Lib.hid hv
    clear hv
    by_cases hlt : k < L.length
    · have hltM : k < M.length := by have := hlen'.out; omega
      obtain ⟨bp, op, rfl, hwp, hnp⟩ := elem_nd hs'.out (hB1.mono hB) (Nat.le_trans hB hB1.size) hlt
      obtain ⟨bq, oq, rfl, hwq, hnq⟩ := elem_nd hs2'.out (hB1.mono hB) (Nat.le_trans hB hB1.size) hltM
      have hnp' := Lib.hid hnp
      have hnq' := Lib.hid hnq
      have oka := Lib.hid (RAid.ok_below (ok'.out _ (List.getElem_mem hlt)) (hB1.mono hB))
      have okb := Lib.hid (RAid.ok_below (ok2'.out _ (List.getElem_mem hltM)) (hB1.mono hB))
      have fa := hf'.out _ (List.getElem_mem hlt)
      have fb := hf2'.out _ (List.getElem_mem hltM)
      have hBr : B ≤ wr.heap.size := Nat.le_trans hB hB1.size
      have hq := Lib.hid (alike_at hlt hltM)
      clear hnp hnq
      cases hab : (L[k]).same (M[k])
      · have hf2 := Lib.hid (allTo_hit (f := alike L M) hlt (hq.out.trans hab))
        have hI := Lib.hid hab
        clear hab
        go_wp2_with fail
        refine wp_region_grew (by kernel_rfl) (by kernel_rfl) ?_
        repeat (first | (go_big_quiet_step ((first | (go_at_call 32; exact grew_of (spec_notSame _ _ _ _ _ _ B _ (hnp'.out.on (Grew.below _)) (hnq'.out.on (Grew.below _)) (RAid.ok_below oka.out ((Grew.below _).mono hBr)) (RAid.ok_below okb.out ((Grew.below _).mono hBr)) (Nat.le_trans hBr (Grew.below _).size) fa fb _ hI.out))))) | (quiet_step ((first | (go_at_call 32; exact grew_of (spec_notSame _ _ _ _ _ _ B _ (hnp'.out.on (Grew.below _)) (hnq'.out.on (Grew.below _)) (RAid.ok_below oka.out ((Grew.below _).mono hBr)) (RAid.ok_below okb.out ((Grew.below _).mono hBr)) (Nat.le_trans hBr (Grew.below _).size) fa fb _ hI.out))))))
        refine wpQuiet_nil ?_
        rintro _ ⟨⟨w9, hb9⟩, rfl⟩
        try dsimp only
        obtain ⟨hc9, hf9⟩ := bcell hb9
        go_wp2
        go_ret
        exact ⟨ret_bool (hm.out.trans hf2.out).symm, bnext hB1 hb9⟩
      · have hf2 := Lib.hid (allTo_step (f := alike L M) hv'.out (hq.out.trans hab))
        have hI := Lib.hid hab
        clear hab
        go_wp2_with fail
        refine wp_region_grew (by kernel_rfl) (by kernel_rfl) ?_
        repeat (first | (go_big_quiet_step ((first | (go_at_call 32; exact grew_of (spec_notSame _ _ _ _ _ _ B _ (hnp'.out.on (Grew.below _)) (hnq'.out.on (Grew.below _)) (RAid.ok_below oka.out ((Grew.below _).mono hBr)) (RAid.ok_below okb.out ((Grew.below _).mono hBr)) (Nat.le_trans hBr (Grew.below _).size) fa fb _ hI.out))))) | (quiet_step ((first | (go_at_call 32; exact grew_of (spec_notSame _ _ _ _ _ _ B _ (hnp'.out.on (Grew.below _)) (hnq'.out.on (Grew.below _)) (RAid.ok_below oka.out ((Grew.below _).mono hBr)) (RAid.ok_below okb.out ((Grew.below _).mono hBr)) (Nat.le_trans hBr (Grew.below _).size) fa fb _ hI.out))))))
        refine wpQuiet_nil ?_
        rintro _ ⟨⟨w9, hb9⟩, rfl⟩
        try dsimp only
        obtain ⟨hc9, hf9⟩ := bcell hb9
        go_wp2
        go_roundw
        case rel => exact ⟨k + 1, by go_num, by omega, hf2.out, bnext hB1 hb9⟩
        case measure => simp [intOf]; omega
    · obtain rfl : k = L.length := by omega
      go_wp2
      go_ret
      exact ⟨ret_bool (hm.out.trans hv'.out).symm, by go_grown⟩
theorem spec_SameN (L M : List RNotice) (A A2 : Option Addr) (c c2 B : Nat) (w : World) (hs : Sl w B A (flat RNotice.cells L)) (hs2 : Sl w B A2 (flat RNotice.cells M)) (hB : B ≤ w.heap.size) (ok : okNs w B L) (ok2 : okNs w B M) (hf : fitsNs L) (hf2 : fitsNs M) : Calls Try.prog 6 #[.slice A L.length c, .slice A2 M.length c2] w fun e w' => e = .returned (.bool (sameNM L M)) ∧ Below w.heap.size w w' := by
  go_enter Try.func6, Try.ntmps6
  go_wp2_with (go_at_call 16; refine (spec_sameN L M _ _ _ _ B _ hs hs2 hB ok ok2 hf hf2).mono ?_; rintro e w1 ⟨rfl, hb1⟩)
  go_ret
  exact ⟨rfl, hb1⟩
end Go.Proofs.Ythjkkidcpidgdaa
