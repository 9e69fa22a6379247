/-
  Contracts of the program's and the reference's smallest functions: ranges, names, angles. Under no condition but those that each theorem states.
-/
import Derived.Test.YtfogioflkehagaaRows
import Derived.Test.YtfogioflkehagaaKit
set_option linter.unusedVariables false
set_option maxRecDepth 100000
set_option linter.unusedSimpArgs false
namespace Go.Proofs.Ytfogioflkehagaa
open Go.RowKit BigFrame

theorem within_any (n lo hi : Int) (w : World) :
    Calls Try.prog 104 #[.int .i64 n, .int .i64 lo, .int .i64 hi] w fun e w' => e = .returned (.bool (inB n lo hi)) ∧ w = w' := by
  unfold inB
  by_cases h1 : lo ≤ n
  · go_enter Try.func104, Try.ntmps104
    go_wp2
    all_goals (go_ret; exact ⟨by simp [*]; try omega, rfl⟩)
  · go_enter Try.func104, Try.ntmps104
    go_wp2
    all_goals (go_ret; exact ⟨by simp [*]; try omega, rfl⟩)

theorem in_any (n lo hi : Int) (w : World) :
    Calls Try.prog 91 #[.int .i64 n, .int .i64 lo, .int .i64 hi] w fun e w' => e = .returned (.bool (inB n lo hi)) ∧ w = w' := by
  unfold inB
  by_cases h1 : lo ≤ n
  · go_enter Try.func91, Try.ntmps91
    go_wp2
    all_goals (go_ret; exact ⟨by simp [*]; try omega, rfl⟩)
  · go_enter Try.func91, Try.ntmps91
    go_wp2
    all_goals (go_ret; exact ⟨by simp [*]; try omega, rfl⟩)

end Go.Proofs.Ytfogioflkehagaa
