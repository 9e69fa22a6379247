/-
  Contracts of angles: an angle as a number from 0 to 359, the smaller angle between two: the program's and the reference's. Under no condition: for all numbers of 64 bits.
-/
import Derived.Test.YtbikppndhidbpaaDoorBase
set_option linter.unusedVariables false
set_option maxRecDepth 100000
set_option linter.unusedSimpArgs false
namespace Go.Proofs.YtbikppndhidbpaaDoor
open Go.RowKit BigFrame

theorem tmod_bd (a : Int) : -360 < a.tmod 360 ∧ a.tmod 360 < 360 := by
  constructor
  · exact Int.lt_tmod_of_pos a (by decide)
  · exact Int.tmod_lt_of_pos a (by decide)
theorem tmod_eq (a : Int) : (a.tmod 360 + 360) % 360 = a % 360 := by
  rw [Int.tmod_eq_emod]
  split <;> omega
def turnM (a b : Int) : Int := if 180 < (a - b) % 360 then 360 - (a - b) % 360 else (a - b) % 360
theorem turnM_bd (a b : Int) : 0 ≤ turnM a b ∧ turnM a b ≤ 180 := by unfold turnM; split <;> omega

theorem min_any (a b : Int) (w : World) :
    Calls Tryd.prog 143 #[.int .i64 a, .int .i64 b] w fun e w' => e = .returned (.int .i64 (min a b)) ∧ w = w' := by
  go_enter Tryd.func143, Tryd.ntmps143
  go_wp2
  all_goals (go_ret; exact ⟨ret_int (by omega), rfl⟩)

end Go.Proofs.YtbikppndhidbpaaDoor
