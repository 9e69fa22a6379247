/-
  Contracts of the program's and the reference's smallest functions: ranges, names, angles. Under no condition but those that each theorem states.
-/
import Derived.Test.YtpnffdkkmibchaaGreatDoorRows
import Derived.Test.YtpnffdkkmibchaaGreatDoorKit
set_option linter.unusedVariables false
set_option maxRecDepth 100000
set_option linter.unusedSimpArgs false
namespace Go.Proofs.YtpnffdkkmibchaaGreatDoor
open Go.RowKit BigFrame

theorem within_any (n lo hi : Int) (w : World) :
    Calls Tryz.prog 45 #[.int .i64 n, .int .i64 lo, .int .i64 hi] w fun e w' => e = .returned (.bool (inB n lo hi)) ∧ w = w' := by
  unfold inB
  by_cases h1 : lo ≤ n
  · go_enter Tryz.func45, Tryz.ntmps45
    go_wp2
    all_goals (go_ret; exact ⟨by simp [*]; try omega, rfl⟩)
  · go_enter Tryz.func45, Tryz.ntmps45
    go_wp2
    all_goals (go_ret; exact ⟨by simp [*]; try omega, rfl⟩)

theorem in_any (n lo hi : Int) (w : World) :
    Calls Tryz.prog 100 #[.int .i64 n, .int .i64 lo, .int .i64 hi] w fun e w' => e = .returned (.bool (inB n lo hi)) ∧ w = w' := by
  unfold inB
  by_cases h1 : lo ≤ n
  · go_enter Tryz.func100, Tryz.ntmps100
    go_wp2
    all_goals (go_ret; exact ⟨by simp [*]; try omega, rfl⟩)
  · go_enter Tryz.func100, Tryz.ntmps100
    go_wp2
    all_goals (go_ret; exact ⟨by simp [*]; try omega, rfl⟩)

end Go.Proofs.YtpnffdkkmibchaaGreatDoor
