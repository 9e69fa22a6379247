/-
  Contracts of the program's and the reference's smallest functions: ranges, names, angles. Under no condition but those that each theorem states.
-/
import Derived.Test.YtpnffdkkmibchaaDoorRows
import Derived.Test.YtpnffdkkmibchaaDoorKit
set_option linter.unusedVariables false
set_option maxRecDepth 100000
set_option linter.unusedSimpArgs false
namespace Go.Proofs.YtpnffdkkmibchaaDoor
open Go.RowKit BigFrame

theorem within_any (n lo hi : Int) (w : World) :
    Calls Tryd.prog 35 #[.int .i64 n, .int .i64 lo, .int .i64 hi] w fun e w' => e = .returned (.bool (inB n lo hi)) ∧ w = w' := by
  unfold inB
  by_cases h1 : lo ≤ n
  · go_enter Tryd.func35, Tryd.ntmps35
    go_wp2
    all_goals (go_ret; exact ⟨by simp [*]; try omega, rfl⟩)
  · go_enter Tryd.func35, Tryd.ntmps35
    go_wp2
    all_goals (go_ret; exact ⟨by simp [*]; try omega, rfl⟩)

end Go.Proofs.YtpnffdkkmibchaaDoor
