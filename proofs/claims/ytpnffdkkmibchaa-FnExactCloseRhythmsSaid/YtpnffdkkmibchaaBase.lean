/-
  Contracts of the program's and the reference's smallest functions: ranges, names, angles. Under no condition but those that each theorem states.
-/
import Derived.Test.YtpnffdkkmibchaaRows
import Derived.Test.YtpnffdkkmibchaaKit
set_option linter.unusedVariables false
set_option maxRecDepth 100000
set_option linter.unusedSimpArgs false
namespace Go.Proofs.Ytpnffdkkmibchaa
open Go.RowKit BigFrame

theorem within_any (n lo hi : Int) (w : World) :
    Calls Try.prog 21 #[.int .i64 n, .int .i64 lo, .int .i64 hi] w fun e w' => e = .returned (.bool (inB n lo hi)) ∧ w = w' := by
  unfold inB
  by_cases h1 : lo ≤ n
  · go_enter Try.func21, Try.ntmps21
    go_wp2
    all_goals (go_ret; exact ⟨by simp [*]; try omega, rfl⟩)
  · go_enter Try.func21, Try.ntmps21
    go_wp2
    all_goals (go_ret; exact ⟨by simp [*]; try omega, rfl⟩)

theorem in_any (n lo hi : Int) (w : World) :
    Calls Try.prog 18 #[.int .i64 n, .int .i64 lo, .int .i64 hi] w fun e w' => e = .returned (.bool (inB n lo hi)) ∧ w = w' := by
  unfold inB
  by_cases h1 : lo ≤ n
  · go_enter Try.func18, Try.ntmps18
    go_wp2
    all_goals (go_ret; exact ⟨by simp [*]; try omega, rfl⟩)
  · go_enter Try.func18, Try.ntmps18
    go_wp2
    all_goals (go_ret; exact ⟨by simp [*]; try omega, rfl⟩)

end Go.Proofs.Ytpnffdkkmibchaa
