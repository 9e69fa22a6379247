/-
  Contracts of the side of a line and of the nearest piece of a channel's line: the program's and the reference's. Under the conditions that each states.
-/
import Derived.Test.YthjkkidcpidgdaaGreatDoorChan
import Derived.Test.YthjkkidcpidgdaaGreatDoorGap
set_option linter.unusedVariables false
set_option linter.unnecessarySimpa false
set_option maxRecDepth 100000
set_option linter.unusedSimpArgs false
namespace Go.Proofs.YthjkkidcpidgdaaGreatDoor
open Go.RowKit BigFrame

def sideM (c : Int) : Int := if 0 < c then 1 else if c < 0 then -1 else 0
theorem line_pt {P : List RPoint} (h : vLine P = true) {k : Nat} {a : RPoint} (hg : P.getD k default = a) (hk : k < P.length) : vPoint a.f0 a.f1 = true := by
  have h1 : okPt P k = true := by
    rw [← Bool.not_eq_false]
    intro hf
    have h' := allTo_hit hk hf
    unfold vLine at h
    rw [h'] at h
    cases h
  unfold okPt at h1
  rw [hg, Bool.and_eq_true] at h1
  exact h1.1
/-- The distance of piece k of a line from a place. -/
def segM (P : List RPoint) (x y : Int) (k : Nat) : Int := gapM (P.getD k default).f0 (P.getD k default).f1 (P.getD (k + 1) default).f0 (P.getD (k + 1) default).f1 x y
theorem segM_is {P : List RPoint} {x y : Int} {k : Nat} {p a : RPoint} (hp : P.getD k default = p) (ha : P.getD (k + 1) default = a) : segM P x y k = gapM p.f0 p.f1 a.f0 a.f1 x y := by unfold segM; rw [hp, ha]
/-- The nearest of the pieces 0 .. k, and its distance. -/
def nearTo (P : List RPoint) (x y : Int) : Nat → Nat × Int
  | 0 => (0, segM P x y 0)
  | k + 1 => if segM P x y (k + 1) < (nearTo P x y k).2 then (k + 1, segM P x y (k + 1)) else nearTo P x y k
theorem nearTo_zero (P : List RPoint) (x y : Int) : nearTo P x y 0 = (0, segM P x y 0) := rfl
theorem nearTo_yes {P : List RPoint} {x y d n : Int} {k m : Nat} (hd : segM P x y (k + 1) = d) (hn : nearTo P x y k = (m, n)) (h : d < n) : nearTo P x y (k + 1) = (k + 1, d) := by
  rw [nearTo, hd, hn, if_pos h]
theorem nearTo_no {P : List RPoint} {x y d n : Int} {k m : Nat} (hd : segM P x y (k + 1) = d) (hn : nearTo P x y k = (m, n)) (h : ¬ d < n) : nearTo P x y (k + 1) = (m, n) := by
  rw [nearTo, hd, hn, if_neg h]
theorem nearTo_yesQ {P : List RPoint} {x y d n : Int} {q m : Nat} (h1 : 1 ≤ q) (hd : segM P x y q = d) (hn : nearTo P x y (q - 1) = (m, n)) (h : d < n) : nearTo P x y q = (q, d) := by
  obtain ⟨k, rfl⟩ : ∃ k, q = k + 1 := ⟨q - 1, by omega⟩
  exact nearTo_yes hd hn h
theorem nearTo_noQ {P : List RPoint} {x y d n : Int} {q m : Nat} (h1 : 1 ≤ q) (hd : segM P x y q = d) (hn : nearTo P x y (q - 1) = (m, n)) (h : ¬ d < n) : nearTo P x y q = (m, n) := by
  obtain ⟨k, rfl⟩ : ∃ k, q = k + 1 := ⟨q - 1, by omega⟩
  exact nearTo_no hd hn h
theorem nearTo_le (P : List RPoint) (x y : Int) : ∀ k, (nearTo P x y k).1 ≤ k
  | 0 => Nat.le_refl _
  | k + 1 => by
    have ih := nearTo_le P x y k
    rw [nearTo]
    split
    · exact Nat.le_refl _
    · omega
theorem distM_nonneg (a b c d : Int) : 0 ≤ distM a b c d := rootM_nonneg _
theorem gapM_nonneg (a b c d x y : Int) : 0 ≤ gapM a b c d x y := by
  unfold gapM
  split
  · exact distM_nonneg _ _ _ _
  · split
    · exact distM_nonneg _ _ _ _
    · exact farM_nonneg _ _
theorem segM_nonneg (P : List RPoint) (x y : Int) (k : Nat) : 0 ≤ segM P x y k := gapM_nonneg _ _ _ _ _ _
theorem nearTo_nonneg (P : List RPoint) (x y : Int) : ∀ k, 0 ≤ (nearTo P x y k).2
  | 0 => segM_nonneg _ _ _ _
  | k + 1 => by
    have ih := nearTo_nonneg P x y k
    rw [nearTo]
    split
    · exact segM_nonneg _ _ _ _
    · exact ih
end Go.Proofs.YthjkkidcpidgdaaGreatDoor
