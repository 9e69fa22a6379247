/-
  Contracts of sines and bearings: the program's and the reference's. Each under the conditions that it states.
-/
import Derived.Test.YtbikppndhidbpaaLeading
import Derived.Test.YtbikppndhidbpaaAngle
import Derived.Test.YtbikppndhidbpaaSine
set_option linter.unusedVariables false
set_option maxRecDepth 100000
set_option linter.unusedSimpArgs false
namespace Go.Proofs.Ytbikppndhidbpaa
open Go.RowKit BigFrame

def tabArr : Array Value := (tabM.map (Value.int .i64)).toArray
theorem tabArr_get {k : Nat} (hk : k < 91) : tabArr[k]? = some (.int .i64 (tq k)) := by
  have h : (tabM.map (Value.int .i64))[k]? = some (.int .i64 (tq k)) := by
    rw [List.getElem?_map, List.getElem?_eq_getElem (by rw [tabM_len]; exact hk)]
    simp [tq, List.getD, List.getElem?_eq_getElem (show k < tabM.length by rw [tabM_len]; exact hk)]
  simpa [tabArr] using h

theorem quarter_any (k : Nat) (hk : k < 91) (w : World) :
    Calls Try.prog 118 #[.int .i64 k] w fun e w' => e = .returned (.int .i64 (tq k)) ∧ w = w' := by
  have hix := fun w => run_index_arr (P := Try.prog) (w := w) (e := 2) Try.underlying148 Try.underlying2 (by kernel_rfl) k hk (tabArr_get hk)
  go_enter Try.func118, Try.ntmps118
  go_wp2_with (refine wpList_lit 148 rfl rfl (.agg tabArr) (by kernel_rfl) ?_)
  go_ret
  exact ⟨rfl, rfl⟩

theorem quarter_is (z : Int) (k : Nat) (h : z = k) (hk : k < 91) (w : World) : Calls Try.prog 118 #[.int .i64 z] w fun e w' => e = .returned (.int .i64 (tq k)) ∧ w = w' := by
  subst h; exact quarter_any k hk w

theorem sine_half (r : Nat) (h : r < 180) (a : Int) (ha : a % 360 = r) (w : World) :
    Calls Try.prog 96 #[.int .i64 a] w fun e w' => e = .returned (.int .i64 (sinM a)) ∧ w = w' := by
  by_cases h9 : 90 < r
  · have hr := Lib.hid (sinM_2 ha h9 h)
    have hA := Lib.hid ha
    clear ha
    go_enter Try.func96, Try.ntmps96
    go_wp2_with (first | (go_at_call 117; refine (turned_is a r hA.out _).mono ?_; rintro e w' ⟨rfl, rfl⟩) | (go_at_call 118; refine (quarter_is _ (180 - r) (by omega) (by omega) _).mono ?_; rintro e w' ⟨rfl, rfl⟩))
    go_ret
    exact ⟨ret_int hr.out.symm, rfl⟩
  · have hr := Lib.hid (sinM_1 ha (by omega))
    have hA := Lib.hid ha
    clear ha
    go_enter Try.func96, Try.ntmps96
    go_wp2_with (first | (go_at_call 117; refine (turned_is a r hA.out _).mono ?_; rintro e w' ⟨rfl, rfl⟩) | (go_at_call 118; refine (quarter_is _ r (by omega) (by omega) _).mono ?_; rintro e w' ⟨rfl, rfl⟩))
    go_ret
    exact ⟨ret_int hr.out.symm, rfl⟩

theorem impl_Sine (a : Int) (w : World) :
    Calls Try.prog 96 #[.int .i64 a] w fun e w' => e = .returned (.int .i64 (sinM a)) ∧ w = w' := by
  obtain ⟨r, hr⟩ := Int.eq_ofNat_of_zero_le (show 0 ≤ a % 360 by omega)
  by_cases h : r < 180
  · exact sine_half r h a hr w
  · have hb := sinM_bd (r - 180 : Int)
    have hR : r < 360 := by omega
    have hs := Lib.hid (sinM_turn hr (by omega))
    have hA := Lib.hid hr
    clear hr
    go_enter Try.func96, Try.ntmps96
    go_wp2_with (first | (go_at_call 117; refine (turned_is a r hA.out _).mono ?_; rintro e w' ⟨rfl, rfl⟩) | (go_at_call 96; refine (sine_half (r - 180) (by omega) _ (by omega) _).mono ?_; rintro e w' ⟨rfl, rfl⟩))
    go_ret
    exact ⟨ret_int hs.out.symm, rfl⟩

theorem impl_Cosine (a : Int) (w : World) :
    Calls Try.prog 97 #[.int .i64 a] w fun e w' => e = .returned (.int .i64 (cosM a)) ∧ w = w' := by
  go_enter Try.func97, Try.ntmps97
  go_wp2_with (first | (go_at_call 117; refine (turned_any _ _).mono ?_; rintro e w' ⟨rfl, rfl⟩) | (go_at_call 96; refine (impl_Sine _ _).mono ?_; rintro e w' ⟨rfl, rfl⟩))
  go_ret
  exact ⟨rfl, rfl⟩

end Go.Proofs.Ytbikppndhidbpaa
