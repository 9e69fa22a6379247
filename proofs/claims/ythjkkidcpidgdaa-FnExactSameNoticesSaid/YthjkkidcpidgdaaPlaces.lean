/-
  Contracts of points, roots, quotients, distances: the program's and the reference's. Each under the conditions that it states: coordinates and numbers in their bounds.
-/
import Derived.Test.YthjkkidcpidgdaaBase
import Derived.Test.YthjkkidcpidgdaaNum
set_option linter.unusedVariables false
set_option maxRecDepth 100000
set_option linter.unusedSimpArgs false
namespace Go.Proofs.Ythjkkidcpidgdaa
open Go.RowKit BigFrame

def vPoint (x y : Int) : Bool := inB x 0 200000 && inB y 0 200000
theorem vPoint_yes {x y : Int} (h : vPoint x y = true) : (0 ≤ x ∧ x ≤ 200000) ∧ (0 ≤ y ∧ y ≤ 200000) := by
  unfold vPoint at h; rw [Bool.and_eq_true, inB_yes, inB_yes] at h; exact h
def sqM (ax ay bx by_ : Int) : Int := (ax - bx) * (ax - bx) + (ay - by_) * (ay - by_)
def distM (ax ay bx by_ : Int) : Int := rootM (sqM ax ay bx by_)
def crossM (ax ay bx by_ cx cy : Int) : Int := (bx - ax) * (cy - ay) - (by_ - ay) * (cx - ax)

theorem toPoint_any (x y : Int) (w : World) :
    Calls Try.prog 52 #[.agg #[.int .i64 x, .int .i64 y]] w fun e w' => e = .returned (.agg #[.int .i64 x, .int .i64 y]) ∧ Below w.heap.size w w' := by
  go_enter Try.func52, Try.ntmps52
  go_wp2
  go_returns
  exact ⟨rfl, by go_grown⟩

theorem eqPoint_any (x y u v : Int) (w : World) :
    Calls Try.prog 57 #[.agg #[.int .i64 x, .int .i64 y], .agg #[.int .i64 u, .int .i64 v]] w fun e w' => e = .returned (.bool (x == u && y == v)) ∧ Below w.heap.size w w' := by
  go_enter Try.func57, Try.ntmps57
  go_wp2
  all_goals (go_ret; exact ⟨ret_bool (by simp_all), by go_grown⟩)

end Go.Proofs.Ythjkkidcpidgdaa
