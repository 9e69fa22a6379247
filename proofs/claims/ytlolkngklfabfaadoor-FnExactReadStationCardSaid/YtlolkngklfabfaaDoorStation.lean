/-
  Contracts of stations: what makes one valid, the copy that the laws make: the program's and the reference's. Under no condition: for all numbers.
-/
import Derived.Test.YtlolkngklfabfaaDoorBase
set_option linter.unusedVariables false
set_option maxRecDepth 100000
set_option linter.unusedSimpArgs false
namespace Go.Proofs.YtlolkngklfabfaaDoor
open Go.RowKit BigFrame

def vStation (a b c d e : Int) : Bool := inB a 1 1000000 && (inB b 1 10000 && (inB c 1 100000000 && (inB d 0 1000000 && inB e 0 1000)))

theorem impl_ValidStation (a b c d f : Int) (w : World) :
    Calls Tryd.prog 34 #[.agg #[.int .i64 a, .int .i64 b, .int .i64 c, .int .i64 d, .int .i64 f]] w fun e w' => e = .returned (.bool (vStation a b c d f)) ∧ Below w.heap.size w w' := by
  unfold vStation
  go_enter Tryd.func34, Tryd.ntmps34
  go_wp2_with (go_at_call 37; refine (within_any _ _ _ _).mono ?_; rintro e w' ⟨rfl, rfl⟩)
  all_goals (go_ret; exact ⟨ret_bool (by simp [*]), by go_grown⟩)

theorem spec_l19Ok (a b c d f : Int) (g : Nat) (w : World) (h0 : w.cell? ⟨g, 0, none⟩ = some (.int .i64 a)) (h1 : w.cell? ⟨g, 1, none⟩ = some (.int .i64 b)) (h2 : w.cell? ⟨g, 2, none⟩ = some (.int .i64 c)) (h3 : w.cell? ⟨g, 3, none⟩ = some (.int .i64 d)) (h4 : w.cell? ⟨g, 4, none⟩ = some (.int .i64 f)) :
    Calls Tryd.prog 60 #[.pointer (some ⟨g, 0, none⟩)] w fun e w' => e = .returned (.bool (vStation a b c d f)) ∧ w = w' := by
  unfold vStation
  go_enter Tryd.func60, Tryd.ntmps60
  go_wp2_with (go_at_call 85; refine (in_any _ _ _ _).mono ?_; rintro e w' ⟨rfl, rfl⟩)
  all_goals (go_ret; exact ⟨ret_bool (by simp [*]), rfl⟩)

end Go.Proofs.YtlolkngklfabfaaDoor
