/-
  Contracts of the program's and the reference's smallest functions: ranges, names, angles. Under no condition but those that each theorem states.
-/
import Derived.Test.YthjkkidcpidgdaaGreatDoorRows
import Derived.Test.YthjkkidcpidgdaaGreatDoorKit
set_option linter.unusedVariables false
set_option maxRecDepth 100000
set_option linter.unusedSimpArgs false
namespace Go.Proofs.YthjkkidcpidgdaaGreatDoor
open Go.RowKit BigFrame

theorem within_any (n lo hi : Int) (w : World) :
    Calls Tryz.prog 74 #[.int .i64 n, .int .i64 lo, .int .i64 hi] w fun e w' => e = .returned (.bool (inB n lo hi)) ∧ w = w' := by
  unfold inB
  by_cases h1 : lo ≤ n
  · go_enter Tryz.func74, Tryz.ntmps74
    go_wp2
    all_goals (go_ret; exact ⟨by simp [*]; try omega, rfl⟩)
  · go_enter Tryz.func74, Tryz.ntmps74
    go_wp2
    all_goals (go_ret; exact ⟨by simp [*]; try omega, rfl⟩)

theorem in_any (n lo hi : Int) (w : World) :
    Calls Tryz.prog 87 #[.int .i64 n, .int .i64 lo, .int .i64 hi] w fun e w' => e = .returned (.bool (inB n lo hi)) ∧ w = w' := by
  unfold inB
  by_cases h1 : lo ≤ n
  · go_enter Tryz.func87, Tryz.ntmps87
    go_wp2
    all_goals (go_ret; exact ⟨by simp [*]; try omega, rfl⟩)
  · go_enter Tryz.func87, Tryz.ntmps87
    go_wp2
    all_goals (go_ret; exact ⟨by simp [*]; try omega, rfl⟩)

end Go.Proofs.YthjkkidcpidgdaaGreatDoor
