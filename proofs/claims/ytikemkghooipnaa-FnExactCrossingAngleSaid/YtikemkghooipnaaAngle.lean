/-
  Contracts of angles: an angle as a number from 0 to 359, the smaller angle between two: the program's and the reference's. Under no condition: for all numbers of 64 bits.
-/
import Derived.Test.YtikemkghooipnaaBase
namespace Go.Proofs.Ytikemkghooipnaa
open Go.RowKit

theorem tmod_bd (a : Int) : -360 < a.tmod 360 ∧ a.tmod 360 < 360 := by
  constructor
  · exact Int.lt_tmod_of_pos a (by decide)
  · exact Int.tmod_lt_of_pos a (by decide)
theorem tmod_eq (a : Int) : (a.tmod 360 + 360) % 360 = a % 360 := by
  rw [Int.tmod_eq_emod]
  split <;> omega
def turnM (a b : Int) : Int := if 180 < (a - b) % 360 then 360 - (a - b) % 360 else (a - b) % 360
theorem turnM_bd (a b : Int) : 0 ≤ turnM a b ∧ turnM a b ≤ 180 := by unfold turnM; split <;> omega

theorem turned_any (a : Int) (w : World) :
    Calls Try.prog 38 #[.int .i64 a] w fun e w' => e = .returned (.int .i64 (a % 360)) ∧ w = w' := by
  obtain ⟨h1, h2⟩ := tmod_bd a
  have he := Lib.hid (tmod_eq a)
  go_enter Try.func38, Try.ntmps38
  go_wp2
  go_ret
  exact ⟨ret_int he.out, rfl⟩

theorem angle_any (a : Int) (w : World) :
    Calls Try.prog 39 #[.int .i64 a] w fun e w' => e = .returned (.int .i64 (a % 360)) ∧ w = w' := by
  obtain ⟨h1, h2⟩ := tmod_bd a
  have he := Lib.hid (tmod_eq a)
  go_enter Try.func39, Try.ntmps39
  go_wp2
  go_ret
  exact ⟨ret_int he.out, rfl⟩

theorem impl_Turn (a b : Int) (w : World) :
    Calls Try.prog 34 #[.int .i64 a, .int .i64 b] w fun e w' => e = .returned (.int .i64 (turnM a b)) ∧ w = w' := by
  go_enter Try.func34, Try.ntmps34
  go_wp2_with (go_at_call 38; refine (turned_any _ _).mono ?_; rintro e w' ⟨rfl, rfl⟩)
  all_goals (go_ret; exact ⟨ret_int (by unfold turnM; split <;> omega), rfl⟩)

theorem spec_Turn (a b : Int) (w : World) :
    Calls Try.prog 36 #[.int .i64 a, .int .i64 b] w fun e w' => e = .returned (.int .i64 (turnM a b)) ∧ w = w' := by
  go_enter Try.func36, Try.ntmps36
  go_wp2_with (go_at_call 39; refine (angle_any _ _).mono ?_; rintro e w' ⟨rfl, rfl⟩)
  all_goals (go_ret; exact ⟨ret_int (by unfold turnM; split <;> omega), rfl⟩)

theorem min_any (a b : Int) (w : World) :
    Calls Try.prog 37 #[.int .i64 a, .int .i64 b] w fun e w' => e = .returned (.int .i64 (min a b)) ∧ w = w' := by
  go_enter Try.func37, Try.ntmps37
  go_wp2
  all_goals (go_ret; exact ⟨ret_int (by omega), rfl⟩)

theorem impl_CrossingAngle (a b : Int) (w : World) :
    Calls Try.prog 21 #[.int .i64 a, .int .i64 b] w fun e w' => e = .returned (.int .i64 (min (turnM a b) (180 - turnM a b))) ∧ w = w' := by
  obtain ⟨h1, h2⟩ := turnM_bd a b
  go_enter Try.func21, Try.ntmps21
  go_wp2_with (go_at_call 34; refine (impl_Turn _ _ _).mono ?_; rintro e w' ⟨rfl, rfl⟩)
  all_goals (go_ret; exact ⟨ret_int (by omega), rfl⟩)

theorem spec_CrossingAngle (a b : Int) (w : World) :
    Calls Try.prog 20 #[.int .i64 a, .int .i64 b] w fun e w' => e = .returned (.int .i64 (min (turnM a b) (180 - turnM a b))) ∧ w = w' := by
  obtain ⟨h1, h2⟩ := turnM_bd a b
  go_enter Try.func20, Try.ntmps20
  go_wp2_with (first | (go_at_call 36; refine (spec_Turn _ _ _).mono ?_; rintro e w' ⟨rfl, rfl⟩) | (go_at_call 37; refine (min_any _ _ _).mono ?_; rintro e w' ⟨rfl, rfl⟩) | go_in)
  all_goals (go_ret; exact ⟨rfl, rfl⟩)

end Go.Proofs.Ytikemkghooipnaa
