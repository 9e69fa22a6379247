/-
  Contracts of the calendar: days of a month, the date of a day, the day of its year. Under the conditions that each states.
-/
import Derived.Test.YtbikppndhidbpaaCal
set_option linter.unusedVariables false
set_option linter.unnecessarySimpa false
set_option maxRecDepth 100000
set_option linter.unusedSimpArgs false
namespace Go.Proofs.Ytbikppndhidbpaa
open Go.RowKit BigFrame

/-- The days of month number m (from 0 on). -/
def monthD (y : Int) (m : Nat) : Int := if m = 1 ∧ leapB y = true then 29 else ([31, 28, 31, 30, 31, 30, 31, 31, 30, 31, 30, 31] : List Int).getD m 0
theorem month_zero (y : Int) (b : Bool) (v : Int) (w : World) (hL : ∀ w, Calls Try.prog 139 #[.int .i64 y] w fun e w' => e = .returned (.bool b) ∧ w = w') (hV : Hid (v = 31)) : Calls Try.prog 134 #[.int .i64 y, .int .i64 1] w fun e w' => e = .returned (.int .i64 v) ∧ w = w' := by
  go_enter Try.func134, Try.ntmps134
  go_wp2_with fail
  show Oper.upon _ _ _ _ _ (Result.ok (Next.value (.int .i64 31)) w)
  go_wp2
  go_ret
  exact ⟨by rw [hV.out]; rfl, rfl⟩
set_option maxHeartbeats 3200000 in
theorem impl_monthDays (y : Int) (m : Nat) (w : World) (h1 : 2000 ≤ y) (h2 : y ≤ 2273) (hm : m < 12) : Calls Try.prog 134 #[.int .i64 y, .int .i64 ((m : Int) + 1)] w fun e w' => e = .returned (.int .i64 (monthD y m)) ∧ w = w' := by
  have hL := fun w => impl_IsLeap y w h1 h2
  have hV : Hid (monthD y m = if m = 1 ∧ leapB y = true then 29 else ([31, 28, 31, 30, 31, 30, 31, 31, 30, 31, 30, 31] : List Int).getD m 0) := Lib.hid rfl
  generalize leapB y = b at hL hV
  rcases (by omega : m = 0 ∨ m = 1 ∨ m = 2 ∨ m = 3 ∨ m = 4 ∨ m = 5 ∨ m = 6 ∨ m = 7 ∨ m = 8 ∨ m = 9 ∨ m = 10 ∨ m = 11) with rfl | h
  · exact month_zero y b _ w hL (Lib.hid (by rw [hV.out, if_neg (by simp)]; rfl))
  rcases h with rfl | rfl | rfl | rfl | rfl | rfl | rfl | rfl | rfl | rfl | rfl
  · cases b
    · go_enter Try.func134, Try.ntmps134
      go_wp2_with (go_at_call 139; refine (hL _).mono ?_; rintro e w' ⟨rfl, rfl⟩)
      show Oper.upon _ _ _ _ _ (Result.ok (Next.value (.int .i64 (([31, 28, 31, 30, 31, 30, 31, 31, 30, 31, 30, 31] : List Int).getD 1 0))) w)
      go_wp2
      go_ret
      exact ⟨by rw [hV.out]; rfl, rfl⟩
    · go_enter Try.func134, Try.ntmps134
      go_wp2_with (go_at_call 139; refine (hL _).mono ?_; rintro e w' ⟨rfl, rfl⟩)
      go_ret
      exact ⟨by rw [hV.out]; rfl, rfl⟩
  · go_enter Try.func134, Try.ntmps134
    go_wp2_with (go_at_call 139; refine (hL _).mono ?_; rintro e w' ⟨rfl, rfl⟩)
    show Oper.upon _ _ _ _ _ (Result.ok (Next.value (.int .i64 (([31, 28, 31, 30, 31, 30, 31, 31, 30, 31, 30, 31] : List Int).getD 2 0))) w)
    go_wp2
    go_ret
    exact ⟨by rw [hV.out]; rfl, rfl⟩
  · go_enter Try.func134, Try.ntmps134
    go_wp2_with (go_at_call 139; refine (hL _).mono ?_; rintro e w' ⟨rfl, rfl⟩)
    show Oper.upon _ _ _ _ _ (Result.ok (Next.value (.int .i64 (([31, 28, 31, 30, 31, 30, 31, 31, 30, 31, 30, 31] : List Int).getD 3 0))) w)
    go_wp2
    go_ret
    exact ⟨by rw [hV.out]; rfl, rfl⟩
  · go_enter Try.func134, Try.ntmps134
    go_wp2_with (go_at_call 139; refine (hL _).mono ?_; rintro e w' ⟨rfl, rfl⟩)
    show Oper.upon _ _ _ _ _ (Result.ok (Next.value (.int .i64 (([31, 28, 31, 30, 31, 30, 31, 31, 30, 31, 30, 31] : List Int).getD 4 0))) w)
    go_wp2
    go_ret
    exact ⟨by rw [hV.out]; rfl, rfl⟩
  · go_enter Try.func134, Try.ntmps134
    go_wp2_with (go_at_call 139; refine (hL _).mono ?_; rintro e w' ⟨rfl, rfl⟩)
    show Oper.upon _ _ _ _ _ (Result.ok (Next.value (.int .i64 (([31, 28, 31, 30, 31, 30, 31, 31, 30, 31, 30, 31] : List Int).getD 5 0))) w)
    go_wp2
    go_ret
    exact ⟨by rw [hV.out]; rfl, rfl⟩
  · go_enter Try.func134, Try.ntmps134
    go_wp2_with (go_at_call 139; refine (hL _).mono ?_; rintro e w' ⟨rfl, rfl⟩)
    show Oper.upon _ _ _ _ _ (Result.ok (Next.value (.int .i64 (([31, 28, 31, 30, 31, 30, 31, 31, 30, 31, 30, 31] : List Int).getD 6 0))) w)
    go_wp2
    go_ret
    exact ⟨by rw [hV.out]; rfl, rfl⟩
  · go_enter Try.func134, Try.ntmps134
    go_wp2_with (go_at_call 139; refine (hL _).mono ?_; rintro e w' ⟨rfl, rfl⟩)
    show Oper.upon _ _ _ _ _ (Result.ok (Next.value (.int .i64 (([31, 28, 31, 30, 31, 30, 31, 31, 30, 31, 30, 31] : List Int).getD 7 0))) w)
    go_wp2
    go_ret
    exact ⟨by rw [hV.out]; rfl, rfl⟩
  · go_enter Try.func134, Try.ntmps134
    go_wp2_with (go_at_call 139; refine (hL _).mono ?_; rintro e w' ⟨rfl, rfl⟩)
    show Oper.upon _ _ _ _ _ (Result.ok (Next.value (.int .i64 (([31, 28, 31, 30, 31, 30, 31, 31, 30, 31, 30, 31] : List Int).getD 8 0))) w)
    go_wp2
    go_ret
    exact ⟨by rw [hV.out]; rfl, rfl⟩
  · go_enter Try.func134, Try.ntmps134
    go_wp2_with (go_at_call 139; refine (hL _).mono ?_; rintro e w' ⟨rfl, rfl⟩)
    show Oper.upon _ _ _ _ _ (Result.ok (Next.value (.int .i64 (([31, 28, 31, 30, 31, 30, 31, 31, 30, 31, 30, 31] : List Int).getD 9 0))) w)
    go_wp2
    go_ret
    exact ⟨by rw [hV.out]; rfl, rfl⟩
  · go_enter Try.func134, Try.ntmps134
    go_wp2_with (go_at_call 139; refine (hL _).mono ?_; rintro e w' ⟨rfl, rfl⟩)
    show Oper.upon _ _ _ _ _ (Result.ok (Next.value (.int .i64 (([31, 28, 31, 30, 31, 30, 31, 31, 30, 31, 30, 31] : List Int).getD 10 0))) w)
    go_wp2
    go_ret
    exact ⟨by rw [hV.out]; rfl, rfl⟩
  · go_enter Try.func134, Try.ntmps134
    go_wp2_with (go_at_call 139; refine (hL _).mono ?_; rintro e w' ⟨rfl, rfl⟩)
    show Oper.upon _ _ _ _ _ (Result.ok (Next.value (.int .i64 (([31, 28, 31, 30, 31, 30, 31, 31, 30, 31, 30, 31] : List Int).getD 11 0))) w)
    go_wp2
    go_ret
    exact ⟨by rw [hV.out]; rfl, rfl⟩
end Go.Proofs.Ytbikppndhidbpaa
