/-
  Contracts of lines: their length, the piece that reaches a distance: the program's and the reference's. Under the conditions that each states.
-/
import Derived.Test.YtbikppndhidbpaaDoorBuoy
import Derived.Test.YtbikppndhidbpaaDoorBtw
import Derived.Test.YtbikppndhidbpaaDoorGateP
set_option linter.unusedVariables false
set_option linter.unnecessarySimpa false
set_option maxRecDepth 100000
set_option linter.unusedSimpArgs false
namespace Go.Proofs.YtbikppndhidbpaaDoor
open Go.RowKit BigFrame

theorem dist_le {a b c d : Int} (h1 : 0 ≤ a ∧ a ≤ 200000) (h2 : 0 ≤ b ∧ b ≤ 200000) (h3 : 0 ≤ c ∧ c ≤ 200000) (h4 : 0 ≤ d ∧ d ≤ 200000) : distM a b c d ≤ 282843 := by
  unfold distM sqM
  have e1 := sq_bd (x := a - c) (B := 200000) (by omega) (by omega)
  have e2 := sq_bd (x := b - d) (B := 200000) (by omega) (by omega)
  exact rootM_bd (by omega) (by omega)
theorem getD_out {α : Type} [Inhabited α] {L : List α} {k : Nat} (h : L.length ≤ k) : L.getD k default = default := by
  rw [List.getD_eq_getElem?_getD, List.getElem?_eq_none h]; rfl
theorem line_in {P : List RPoint} (hvl : vLine P = true) (k : Nat) : (0 ≤ (P.getD k default).f0 ∧ (P.getD k default).f0 ≤ 200000) ∧ 0 ≤ (P.getD k default).f1 ∧ (P.getD k default).f1 ≤ 200000 := by
  by_cases h : k < P.length
  · exact vPoint_yes (line_pt hvl rfl h)
  · rw [getD_out (by omega)]
    exact ⟨⟨Int.le_refl _, by decide⟩, Int.le_refl _, by decide⟩
theorem seg_le {P : List RPoint} (hvl : vLine P = true) (k : Nat) : segD P k ≤ 282843 := by
  have h1 := line_in hvl k
  have h2 := line_in hvl (k + 1)
  exact dist_le h1.1 h1.2 h2.1 h2.2
theorem len_bd {P : List RPoint} (hvl : vLine P = true) {k : Nat} (hk : k ≤ 1048576) : 0 ≤ lenTo P k ∧ lenTo P k ≤ 300000000000 := by
  have h := lenTo_le P (seg_le hvl) k
  have h0 := lenTo_mono P (Nat.zero_le k)
  rw [lenTo] at h0
  omega
theorem seg_is {P : List RPoint} {k : Nat} {p a : RPoint} (hp : P.getD k default = p) (hg : P.getD (k + 1) default = a) : segD P k = distM p.f0 p.f1 a.f0 a.f1 := by unfold segD; rw [hp, hg]
theorem line_ne {P : List RPoint} (h : vLine P = true) {k : Nat} (hk : k + 1 < P.length) : 1 ≤ segD P k := by
  have h1 : okPt P (k + 1) = true := by
    rw [← Bool.not_eq_false]
    intro hf
    unfold vLine at h
    rw [allTo_hit hk hf] at h
    cases h
  unfold okPt at h1
  rw [Bool.and_eq_true] at h1
  have h2 := h1.2
  rcases (by omega : segD P k ≤ 0 ∨ 1 ≤ segD P k) with h3 | h3
  · have := distM_zero h3
    simp only [Nat.add_sub_cancel, this.1, this.2, beq_self_eq_true, Bool.and_self, Bool.not_true, Bool.or_false, decide_eq_true_eq] at h2
    omega
  · exact h3
theorem line_pos {P : List RPoint} (h : vLine P = true) : ∀ j, j < P.length - 1 → 1 ≤ segD P j := fun j hj => line_ne h (by omega)
theorem fnd_stop {P : List RPoint} {f k : Nat} {d n : Int} (hs : segD P k = n) (h : ¬ n < d) : fndN P f k d = (k, d) := by
  cases f with
  | zero => rfl
  | succ f => rw [fndN, hs, if_neg h]
theorem fnd_go {P : List RPoint} {f k : Nat} {d n : Int} (hs : segD P k = n) (h : n < d) : fndN P (f + 1) k d = fndN P f (k + 1) (d - n) := by rw [fndN, hs, if_pos h]
set_option maxHeartbeats 1600000 in
theorem impl_Len (s : ByteArray) (P : List RPoint) (A : Option Addr) (c B : Nat) (wd : Int) (w : World) (hP : Sl w B A (flat RPoint.cells P)) (hB : B ≤ w.heap.size) (hl : P.length ≤ 1048576) (h1 : 1 ≤ P.length) (hvl : vLine P = true) :
    Calls Tryd.prog 95 #[.agg #[.string s, .slice A P.length c, .int .i64 wd]] w fun e w' => e = .returned (.int .i64 (lenM P)) ∧ Below w.heap.size w w' := by
  obtain ⟨b, o, rfl, hbB, _⟩ := Sl.elem RPoint.len (by decide) hP (show 0 < P.length by omega)
  have hP' := Lib.hid hP
  have hvl' := Lib.hid hvl
  have hR : Hid (lenM P = lenTo P (P.length - 1)) := Lib.hid rfl
  have hZ0 := Lib.hid (Cz.new w s (some ⟨b, o, none⟩) P.length c wd 71)
  clear hP hvl
  go_enter Tryd.func95, Tryd.ntmps95
  go_wp2
  go_loopw [3, 4] (fun s' i wr => ∃ (q : Nat) (z : Int), s' = .int .i64 z ∧ i = .int .i64 ((q : Int) + 1) ∧ lenTo P q = z ∧ q + 1 ≤ P.length ∧ Below w.heap.size w wr ∧ Cz wr w.heap.size s (some ⟨b, o, none⟩) P.length c wd) (fun _ i _ => P.length + 1 - (intOf i).toNat)
  case atStart => exact ⟨0, 0, rfl, by go_num, rfl, h1, by go_grown, hZ0.out⟩
  case round =>
    clear hZ0
    obtain ⟨m, z, rfl, rfl, hz, hml, hB1, hZ⟩ := hrel
    have hS1 := hB1.size
    have hz' := Lib.hid hz
    have hzb := len_bd hvl'.out (show m ≤ 1048576 by omega)
    rw [hz] at hzb
    obtain ⟨hzl, hc0, hc1, hc2⟩ := id hZ
    clear hz
    by_cases hlt : m + 1 < P.length
    · obtain ⟨b1, o1, e1, hb, he⟩ := Sl.elem RPoint.len (by decide) (hP'.out.below (hB1.mono hB)) hlt
      cases e1
      have hg := Lib.hid (getD_at hlt)
      obtain ⟨a, ha⟩ : ∃ a, P[m + 1] = a := ⟨_, rfl⟩
      rw [ha] at hg he
      clear ha
      have d0 : wr.cell? ⟨b, o + (m + 1) * 2, none⟩ = some (.int .i64 a.f0) := by have := he 0 _ rfl; simpa [Nat.add_assoc] using this
      have d1 : wr.cell? ⟨b, o + (m + 1) * 2 + 1, none⟩ = some (.int .i64 a.f1) := by have := he 1 _ rfl; simpa [Nat.add_assoc] using this
      clear he
      obtain ⟨b2, o2, e2, hb2, he2⟩ := Sl.elem RPoint.len (by decide) (hP'.out.below (hB1.mono hB)) (show m < P.length by omega)
      cases e2
      have hp := Lib.hid (getD_at (show m < P.length by omega))
      obtain ⟨p, hp'⟩ : ∃ p, P[m] = p := ⟨_, rfl⟩
      rw [hp'] at hp he2
      clear hp'
      have n0 : wr.cell? ⟨b, o + m * 2, none⟩ = some (.int .i64 p.f0) := by have := he2 0 _ rfl; simpa [Nat.add_assoc] using this
      have n1 : wr.cell? ⟨b, o + m * 2 + 1, none⟩ = some (.int .i64 p.f1) := by have := he2 1 _ rfl; simpa [Nat.add_assoc] using this
      clear he2
      have hseg := Lib.hid (seg_is hp.out hg.out)
      have hva := vPoint_yes (line_pt hvl'.out hg.out hlt)
      have hvp := vPoint_yes (line_pt hvl'.out hp.out (by omega))
      have hbw : b < wr.heap.size := by omega
      have hdb := dist_le hvp.1 hvp.2 hva.1 hva.2
      have hd0 := distM_nonneg p.f0 p.f1 a.f0 a.f1
      have hq := fun w => impl_Distance p.f0 p.f1 a.f0 a.f1 w hvp.1 hvp.2 hva.1 hva.2
      generalize distM p.f0 p.f1 a.f0 a.f1 = n at hseg hdb hd0 hq
      have hnew : Hid (lenTo P (m + 1) = z + n) := Lib.hid (by rw [lenTo, hz'.out, hseg.out])
      go_wp2_with fail
      refine wp_region_grew (by kernel_rfl) (by kernel_rfl) ?_
      repeat (first | (go_big_quiet_step ((go_at_call 19; exact grew_of (hq _)))) | (quiet_step ((go_at_call 19; exact grew_of (hq _)))))
      refine wpQuiet_nil ?_
      rintro w9 ⟨⟨w8, hb9⟩, rfl⟩
      try dsimp only
      obtain ⟨hc9, hf9⟩ := bcell hb9
      have hB9 := bnext hB1 hb9
      have hZ9 := hZ.on hb9
      clear hc9 hf9 hb9 n0 n1 d0 d1 hc0 hc1 hc2
      go_wp2
      go_roundw
      case rel => exact ⟨m + 1, _, rfl, by go_num, hnew.out, by omega, hB9, hZ9⟩
      case measure => simp [intOf]; omega
    · have e : m = P.length - 1 := by omega
      have hmi : ¬ (m : Int) + 1 < (P.length : Int) := by omega
      have hz2 : Hid (z = lenM P) := Lib.hid (by rw [hR.out, ← hz'.out, e])
      go_wp2
      go_ret
      exact ⟨ret_int hz2.out, hB1⟩
end Go.Proofs.YtbikppndhidbpaaDoor
