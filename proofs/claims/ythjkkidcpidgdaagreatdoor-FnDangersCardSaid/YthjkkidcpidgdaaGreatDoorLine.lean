/-
  Contracts of lines: their length, the piece that reaches a distance: the program's and the reference's. Under the conditions that each states.
-/
import Derived.Test.YthjkkidcpidgdaaGreatDoorBuoy
import Derived.Test.YthjkkidcpidgdaaGreatDoorBtw
import Derived.Test.YthjkkidcpidgdaaGreatDoorGateP
set_option linter.unusedVariables false
set_option linter.unnecessarySimpa false
set_option maxRecDepth 100000
set_option linter.unusedSimpArgs false
namespace Go.Proofs.YthjkkidcpidgdaaGreatDoor
open Go.RowKit BigFrame

theorem dist_le {a b c d : Int} (h1 : 0 ≤ a ∧ a ≤ 200000) (h2 : 0 ≤ b ∧ b ≤ 200000) (h3 : 0 ≤ c ∧ c ≤ 200000) (h4 : 0 ≤ d ∧ d ≤ 200000) : distM a b c d ≤ 282843 := by
  unfold distM sqM
  have e1 := sq_bd (x := a - c) (B := 200000) (by omega) (by omega)
  have e2 := sq_bd (x := b - d) (B := 200000) (by omega) (by omega)
  exact rootM_bd (by omega) (by omega)
theorem getD_out {α : Type} [Inhabited α] {L : List α} {k : Nat} (h : L.length ≤ k) : L.getD k default = default := by
  rw [List.getD_eq_getElem?_getD, List.getElem?_eq_none h]; rfl
theorem line_in {P : List RPoint} (hvl : vLine P = true) (k : Nat) : (0 ≤ (P.getD k default).f0 ∧ (P.getD k default).f0 ≤ 200000) ∧ 0 ≤ (P.getD k default).f1 ∧ (P.getD k default).f1 ≤ 200000 := by
  by_cases h : k < P.length
  · exact vPoint_yes (line_pt hvl rfl h)
  · rw [getD_out (by omega)]
    exact ⟨⟨Int.le_refl _, by decide⟩, Int.le_refl _, by decide⟩
theorem seg_le {P : List RPoint} (hvl : vLine P = true) (k : Nat) : segD P k ≤ 282843 := by
  have h1 := line_in hvl k
  have h2 := line_in hvl (k + 1)
  exact dist_le h1.1 h1.2 h2.1 h2.2
theorem len_bd {P : List RPoint} (hvl : vLine P = true) {k : Nat} (hk : k ≤ 1048576) : 0 ≤ lenTo P k ∧ lenTo P k ≤ 300000000000 := by
  have h := lenTo_le P (seg_le hvl) k
  have h0 := lenTo_mono P (Nat.zero_le k)
  rw [lenTo] at h0
  omega
theorem seg_is {P : List RPoint} {k : Nat} {p a : RPoint} (hp : P.getD k default = p) (hg : P.getD (k + 1) default = a) : segD P k = distM p.f0 p.f1 a.f0 a.f1 := by unfold segD; rw [hp, hg]
theorem line_ne {P : List RPoint} (h : vLine P = true) {k : Nat} (hk : k + 1 < P.length) : 1 ≤ segD P k := by
  have h1 : okPt P (k + 1) = true := by
    rw [← Bool.not_eq_false]
    intro hf
    unfold vLine at h
    rw [allTo_hit hk hf] at h
    cases h
  unfold okPt at h1
  rw [Bool.and_eq_true] at h1
  have h2 := h1.2
  rcases (by omega : segD P k ≤ 0 ∨ 1 ≤ segD P k) with h3 | h3
  · have := distM_zero h3
    simp only [Nat.add_sub_cancel, this.1, this.2, beq_self_eq_true, Bool.and_self, Bool.not_true, Bool.or_false, decide_eq_true_eq] at h2
    omega
  · exact h3
theorem line_pos {P : List RPoint} (h : vLine P = true) : ∀ j, j < P.length - 1 → 1 ≤ segD P j := fun j hj => line_ne h (by omega)
theorem fnd_stop {P : List RPoint} {f k : Nat} {d n : Int} (hs : segD P k = n) (h : ¬ n < d) : fndN P f k d = (k, d) := by
  cases f with
  | zero => rfl
  | succ f => rw [fndN, hs, if_neg h]
theorem fnd_go {P : List RPoint} {f k : Nat} {d n : Int} (hs : segD P k = n) (h : n < d) : fndN P (f + 1) k d = fndN P f (k + 1) (d - n) := by rw [fndN, hs, if_pos h]
end Go.Proofs.YthjkkidcpidgdaaGreatDoor
