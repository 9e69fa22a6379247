/-
  Contracts of the calendar: leap years, days of a year. Under the conditions that each states.
-/
import Derived.Test.YtbikppndhidbpaaBase
set_option linter.unusedVariables false
set_option linter.unnecessarySimpa false
set_option maxRecDepth 100000
set_option linter.unusedSimpArgs false
namespace Go.Proofs.Ytbikppndhidbpaa
open Go.RowKit BigFrame

theorem impl_isYear (y : Int) (w : World) : Calls Try.prog 142 #[.int .i64 y] w fun e w' => e = .returned (.bool (inB y 2000 2273)) ∧ w = w' := by
  go_enter Try.func142, Try.ntmps142
  go_wp2_with (go_at_call 68; refine (within_any _ _ _ _).mono ?_; rintro e w' ⟨rfl, rfl⟩)
  go_ret
  exact ⟨rfl, rfl⟩
/-- A leap year, for years from 2000 on. -/
def leapB (y : Int) : Bool := (y % 4 == 0 && y % 100 != 0) || y % 400 == 0
theorem impl_IsLeap (y : Int) (w : World) (h1 : 2000 ≤ y) (h2 : y ≤ 2273) : Calls Try.prog 139 #[.int .i64 y] w fun e w' => e = .returned (.bool (leapB y)) ∧ w = w' := by
  have m4 : y.tmod 4 = y % 4 := Int.tmod_eq_emod_of_nonneg (by omega)
  have m1 : y.tmod 100 = y % 100 := Int.tmod_eq_emod_of_nonneg (by omega)
  have m5 : y.tmod 400 = y % 400 := Int.tmod_eq_emod_of_nonneg (by omega)
  have hV : Hid (leapB y = ((y % 4 == 0 && y % 100 != 0) || y % 400 == 0)) := Lib.hid rfl
  have hY := impl_isYear y
  rw [inB_mk h1 h2] at hY
  by_cases c4 : y % 4 = 0 <;> by_cases c1 : y % 100 = 0 <;> by_cases c5 : y % 400 = 0 <;>
    · go_enter Try.func139, Try.ntmps139
      go_wp2_with (go_at_call 142; refine (hY _).mono ?_; rintro e w' ⟨rfl, rfl⟩)
      all_goals try (exfalso; omega)
      all_goals go_ret
      all_goals exact ⟨by rw [hV.out]; simp [c4, c1, c5], rfl⟩
def yearD (y : Int) : Int := if leapB y = true then 366 else 365
theorem impl_yearDays (y : Int) (w : World) (h1 : 2000 ≤ y) (h2 : y ≤ 2273) : Calls Try.prog 133 #[.int .i64 y] w fun e w' => e = .returned (.int .i64 (yearD y)) ∧ w = w' := by
  have hL := fun w => impl_IsLeap y w h1 h2
  cases hl : leapB y
  · have hV : Hid (yearD y = 365) := Lib.hid (by unfold yearD; rw [hl]; rfl)
    rw [hl] at hL
    go_enter Try.func133, Try.ntmps133
    go_wp2_with (go_at_call 139; refine (hL _).mono ?_; rintro e w' ⟨rfl, rfl⟩)
    go_ret
    exact ⟨ret_int hV.out.symm, rfl⟩
  · have hV : Hid (yearD y = 366) := Lib.hid (by unfold yearD; rw [hl]; rfl)
    rw [hl] at hL
    go_enter Try.func133, Try.ntmps133
    go_wp2_with (go_at_call 139; refine (hL _).mono ?_; rintro e w' ⟨rfl, rfl⟩)
    go_ret
    exact ⟨ret_int hV.out.symm, rfl⟩
/-- The days of the n years from 2000 on. -/
def firstN : Nat → Int
  | 0 => 0
  | n + 1 => firstN n + yearD (2000 + (n : Int))
theorem firstN_bd : ∀ n : Nat, 365 * (n : Int) ≤ firstN n ∧ firstN n ≤ 366 * (n : Int)
  | 0 => ⟨by decide, by decide⟩
  | n + 1 => by
    have ih := firstN_bd n
    have hy : 365 ≤ yearD (2000 + (n : Int)) ∧ yearD (2000 + (n : Int)) ≤ 366 := by unfold yearD; split <;> omega
    rw [firstN]
    omega
theorem impl_firstDay (n : Nat) (w : World) (hn : n ≤ 273) : Calls Try.prog 129 #[.int .i64 (2000 + (n : Int))] w fun e w' => e = .returned (.int .i64 (firstN n)) ∧ w = w' := by
  go_enter Try.func129, Try.ntmps129
  go_wp2
  go_loop [3, 4] (fun s t => ∃ k : Nat, k ≤ n ∧ s = .int .i64 (firstN k) ∧ t = .int .i64 (2000 + (k : Int))) (fun _ t => n - (intOf t - 2000).toNat)
  case atStart => exact ⟨0, Nat.zero_le _, rfl, rfl⟩
  case round =>
    obtain ⟨k, hk, rfl, rfl⟩ := hrel
    have hb := firstN_bd k
    by_cases hlt : k < n
    · have hy : 365 ≤ yearD (2000 + (k : Int)) ∧ yearD (2000 + (k : Int)) ≤ 366 := by unfold yearD; split <;> omega
      have hyd := fun w => impl_yearDays (2000 + (k : Int)) w (by omega) (by omega)
      have hst : Hid (firstN (k + 1) = firstN k + yearD (2000 + (k : Int))) := Lib.hid rfl
      generalize yearD (2000 + (k : Int)) = d at hy hyd hst
      generalize hf : firstN k = f at hb hst
      clear hf
      go_wp2_with (go_at_call 133; refine (hyd _).mono ?_; rintro e w' ⟨rfl, rfl⟩)
      go_round
      case rel => exact ⟨k + 1, hlt, by rw [hst.out], by go_num⟩
      case measure => simp [intOf]; omega
    · obtain rfl : k = n := by omega
      go_wp2
      go_ret
      exact ⟨rfl, rfl⟩
end Go.Proofs.Ytbikppndhidbpaa
