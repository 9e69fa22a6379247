/-
  Contracts of angles: an angle as a number from 0 to 359, the smaller angle between two: the program's and the reference's. Under no condition: for all numbers of 64 bits.
-/
import Derived.Test.YthjkkidcpidgdaaGreatDoorBase
set_option linter.unusedVariables false
set_option maxRecDepth 100000
set_option linter.unusedSimpArgs false
namespace Go.Proofs.YthjkkidcpidgdaaGreatDoor
open Go.RowKit BigFrame

theorem tmod_bd (a : Int) : -360 < a.tmod 360 ∧ a.tmod 360 < 360 := by
  constructor
  · exact Int.lt_tmod_of_pos a (by decide)
  · exact Int.tmod_lt_of_pos a (by decide)
theorem tmod_eq (a : Int) : (a.tmod 360 + 360) % 360 = a % 360 := by
  rw [Int.tmod_eq_emod]
  split <;> omega
def turnM (a b : Int) : Int := if 180 < (a - b) % 360 then 360 - (a - b) % 360 else (a - b) % 360
theorem turnM_bd (a b : Int) : 0 ≤ turnM a b ∧ turnM a b ≤ 180 := by unfold turnM; split <;> omega

theorem angle_any (a : Int) (w : World) :
    Calls Tryz.prog 128 #[.int .i64 a] w fun e w' => e = .returned (.int .i64 (a % 360)) ∧ w = w' := by
  obtain ⟨h1, h2⟩ := tmod_bd a
  have he := Lib.hid (tmod_eq a)
  go_enter Tryz.func128, Tryz.ntmps128
  go_wp2
  go_ret
  exact ⟨ret_int he.out, rfl⟩

theorem angle_is (a r : Int) (h : a % 360 = r) (w : World) : Calls Tryz.prog 128 #[.int .i64 a] w fun e w' => e = .returned (.int .i64 r) ∧ w = w' := by
  rw [← h]; exact angle_any a w

theorem min_any (a b : Int) (w : World) :
    Calls Tryz.prog 144 #[.int .i64 a, .int .i64 b] w fun e w' => e = .returned (.int .i64 (min a b)) ∧ w = w' := by
  go_enter Tryz.func144, Tryz.ntmps144
  go_wp2
  all_goals (go_ret; exact ⟨ret_int (by omega), rfl⟩)

end Go.Proofs.YthjkkidcpidgdaaGreatDoor
