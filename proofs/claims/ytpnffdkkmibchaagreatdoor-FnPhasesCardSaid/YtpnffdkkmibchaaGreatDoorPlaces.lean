/-
  Contracts of points, roots, quotients, distances: the program's and the reference's. Each under the conditions that it states: coordinates and numbers in their bounds.
-/
import Derived.Test.YtpnffdkkmibchaaGreatDoorBase
import Derived.Test.YtpnffdkkmibchaaGreatDoorNum
set_option linter.unusedVariables false
set_option maxRecDepth 100000
set_option linter.unusedSimpArgs false
namespace Go.Proofs.YtpnffdkkmibchaaGreatDoor
open Go.RowKit BigFrame

def vPoint (x y : Int) : Bool := inB x 0 200000 && inB y 0 200000
theorem vPoint_yes {x y : Int} (h : vPoint x y = true) : (0 ≤ x ∧ x ≤ 200000) ∧ (0 ≤ y ∧ y ≤ 200000) := by
  unfold vPoint at h; rw [Bool.and_eq_true, inB_yes, inB_yes] at h; exact h
def sqM (ax ay bx by_ : Int) : Int := (ax - bx) * (ax - bx) + (ay - by_) * (ay - by_)
def distM (ax ay bx by_ : Int) : Int := rootM (sqM ax ay bx by_)
def crossM (ax ay bx by_ cx cy : Int) : Int := (bx - ax) * (cy - ay) - (by_ - ay) * (cx - ax)

end Go.Proofs.YtpnffdkkmibchaaGreatDoor
