/-
  Contracts of leading lines, on: off the line, ahead, open, in line, above: the program's and the reference's. Each under the conditions that it states.
-/
import Derived.Test.YthjkkidcpidgdaaGreatDoorLeading
import Derived.Test.YthjkkidcpidgdaaGreatDoorAngle
set_option linter.unusedVariables false
set_option maxRecDepth 100000
set_option linter.unusedSimpArgs false
namespace Go.Proofs.YthjkkidcpidgdaaGreatDoor
open Go.RowKit BigFrame

def okC (b : Bool) : Int := if b then 0 else 1
theorem okC_yes {b : Bool} (h : b = true) : okC b = 0 := by rw [h]; rfl
theorem okC_no {b : Bool} (h : b = false) : okC b = 1 := by rw [h]; rfl
theorem divR_lt {a b : Int} (hb : 1 ≤ b) (h : a < 0) : divR a b = -((b - 2 * a) / (2 * b)) := by
  unfold divR; rw [if_neg (by omega), if_pos h]
theorem divR_ge {a b : Int} (hb : 1 ≤ b) (h : ¬ a < 0) : divR a b = (2 * a + b) / (2 * b) := by
  unfold divR; rw [if_neg (by omega), if_neg h]
theorem divR_bd {a b A : Int} (hb : 1 ≤ b) (h1 : -A ≤ a) (h2 : a ≤ A) : -A - 1 ≤ divR a b ∧ divR a b ≤ A + 1 := by
  by_cases h : a < 0
  · rw [divR_lt hb h]
    have k1 := Int.ediv_nonneg (show 0 ≤ b - 2 * a by omega) (show 0 ≤ 2 * b by omega)
    have k2 : (b - 2 * a) / (2 * b) ≤ -a + 1 := by
      apply Int.ediv_le_of_le_mul (by omega)
      have := Int.mul_le_mul_of_nonneg_left hb (show 0 ≤ -a by omega)
      have e : (-a + 1) * (2 * b) = 2 * (-a * b) + 2 * b := by rw [Int.add_mul, Int.mul_left_comm]; omega
      omega
    omega
  · rw [divR_ge hb h]
    have k1 := Int.ediv_nonneg (show 0 ≤ 2 * a + b by omega) (show 0 ≤ 2 * b by omega)
    have k2 : (2 * a + b) / (2 * b) ≤ a + 1 := by
      apply Int.ediv_le_of_le_mul (by omega)
      have := Int.mul_le_mul_of_nonneg_left hb (show 0 ≤ a by omega)
      have e : (a + 1) * (2 * b) = 2 * (a * b) + 2 * b := by rw [Int.add_mul, Int.mul_left_comm]; omega
      omega
    omega
theorem divR_nonpos {a b : Int} (hb : 1 ≤ b) (h : a ≤ 0) : divR a b ≤ 0 := by
  by_cases h1 : a < 0
  · rw [divR_lt hb h1]
    have k1 := Int.ediv_nonneg (show 0 ≤ b - 2 * a by omega) (show 0 ≤ 2 * b by omega); omega
  · rw [divR_ge hb h1, Int.ediv_eq_zero_of_lt (by omega) (by omega)]; omega
theorem divR_nonneg {a b : Int} (hb : 1 ≤ b) (h : 0 ≤ a) : 0 ≤ divR a b := by
  rw [divR_ge hb (by omega)]
  exact Int.ediv_nonneg (by omega) (by omega)

def offV (x1 y1 x2 y2 lo hi p q : Int) : Int := if vLead x1 y1 x2 y2 lo hi && vPoint p q then divR (crossM x1 y1 x2 y2 p q) (distM x1 y1 x2 y2) else 0
def aheadN (x1 y1 x2 y2 p q : Int) : Int := (x1 - x2) * (p - x1) + (y1 - y2) * (q - y1)
def aheadM (x1 y1 x2 y2 p q : Int) : Int := divR (aheadN x1 y1 x2 y2 p q) (distM x1 y1 x2 y2)
def aheadV (x1 y1 x2 y2 lo hi p q : Int) : Int := if vLead x1 y1 x2 y2 lo hi && vPoint p q then aheadM x1 y1 x2 y2 p q else 0
theorem aheadN_bd {x1 y1 x2 y2 p q : Int} (h1 : 0 ≤ x1 ∧ x1 ≤ 200000) (h2 : 0 ≤ y1 ∧ y1 ≤ 200000) (h3 : 0 ≤ x2 ∧ x2 ≤ 200000) (h4 : 0 ≤ y2 ∧ y2 ≤ 200000) (h5 : 0 ≤ p ∧ p ≤ 200000) (h6 : 0 ≤ q ∧ q ≤ 200000) :
    -80000000000 ≤ aheadN x1 y1 x2 y2 p q ∧ aheadN x1 y1 x2 y2 p q ≤ 80000000000 := by
  have k1 := mul_bd (x := x1 - x2) (y := p - x1) (B := 200000) (C := 200000) (by omega) (by omega) (by omega) (by omega)
  have k2 := mul_bd (x := y1 - y2) (y := q - y1) (B := 200000) (C := 200000) (by omega) (by omega) (by omega) (by omega)
  unfold aheadN; omega

end Go.Proofs.YthjkkidcpidgdaaGreatDoor
