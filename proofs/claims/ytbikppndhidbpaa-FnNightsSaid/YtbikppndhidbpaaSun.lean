/-
  Contracts of the height of the sun: quotients rounded down, sines of tenths, the declination of a day. Under the conditions that each states.
-/
import Derived.Test.YtbikppndhidbpaaCal3
import Derived.Test.YtbikppndhidbpaaNightP
import Derived.Test.YtbikppndhidbpaaBear
set_option linter.unusedVariables false
set_option linter.unnecessarySimpa false
set_option maxRecDepth 100000
set_option linter.unusedSimpArgs false
namespace Go.Proofs.Ytbikppndhidbpaa
open Go.RowKit BigFrame

theorem divR_in {a n A : Int} (hn : 1 ≤ n) (h1 : -(A * n) ≤ a) (h2 : a ≤ A * n) : -A ≤ divR a n ∧ divR a n ≤ A := by
  have h := divR_near (a := a) hn
  generalize divR a n = q at h
  constructor
  · rcases Int.lt_or_le q (-A) with g | g
    · exfalso
      have k := Int.mul_le_mul_of_nonneg_left (show q ≤ -A - 1 by omega) (show 0 ≤ n by omega)
      have e : n * (-A - 1) = -(A * n) - n := by grind
      omega
    · exact g
  · rcases Int.lt_or_le A q with g | g
    · exfalso
      have k := Int.mul_le_mul_of_nonneg_left (show A + 1 ≤ q by omega) (show 0 ≤ n by omega)
      have e : n * (A + 1) = A * n + n := by grind
      omega
    · exact g
/-- The declination of a day of the year. -/
def declY (n : Int) : Int := -(divR (234 * cosM (divR (360 * (n + 10)) 365)) 1000000)
theorem declY_bd (n : Int) : -234 ≤ declY n ∧ declY n ≤ 234 := by
  have hc := cosM_bd (divR (360 * (n + 10)) 365)
  have h := divR_in (a := 234 * cosM (divR (360 * (n + 10)) 365)) (n := 1000000) (A := 234) (by omega) (by omega) (by omega)
  unfold declY
  omega
def declM (day : Int) : Int := declY (doyM day)
theorem declM_bd (day : Int) : -234 ≤ declM day ∧ declM day ≤ 234 := declY_bd _
theorem impl_floor10 (a : Int) (w : World) (h1 : -1000000 ≤ a) (h2 : a ≤ 1000000) : Calls Try.prog 98 #[.int .i64 a, .int .i64 10] w fun e w' => e = .returned (.tuple #[.int .i64 (a / 10), .int .i64 (a % 10)]) ∧ w = w' := by
  have e : (a.tmod 10 + 10) % 10 = a % 10 := by rw [Int.tmod_eq_emod]; split <;> omega
  have m1 : -10 < a.tmod 10 ∧ a.tmod 10 < 10 := ⟨Int.lt_tmod_of_pos a (by decide), Int.tmod_lt_of_pos a (by decide)⟩
  have e2 : (a - a % 10).tdiv 10 = a / 10 := by
    rw [Int.tdiv_eq_ediv_of_dvd (by omega)]; omega
  go_enter Try.func98, Try.ntmps98
  go_wp2
  go_ret2
  exact ⟨by rw [e] <;> rfl, rfl⟩
theorem impl_floor4 (a : Int) (w : World) (h1 : -1000000 ≤ a) (h2 : a ≤ 1000000) : Calls Try.prog 98 #[.int .i64 a, .int .i64 4] w fun e w' => e = .returned (.tuple #[.int .i64 (a / 4), .int .i64 (a % 4)]) ∧ w = w' := by
  have e : (a.tmod 4 + 4) % 4 = a % 4 := by rw [Int.tmod_eq_emod]; split <;> omega
  have m1 : -4 < a.tmod 4 ∧ a.tmod 4 < 4 := ⟨Int.lt_tmod_of_pos a (by decide), Int.tmod_lt_of_pos a (by decide)⟩
  have e2 : (a - a % 4).tdiv 4 = a / 4 := by
    rw [Int.tdiv_eq_ediv_of_dvd (by omega)]; omega
  go_enter Try.func98, Try.ntmps98
  go_wp2
  go_ret2
  exact ⟨by rw [e] <;> rfl, rfl⟩
theorem impl_SineTenths (t : Int) (w : World) (h1 : -36000 ≤ t) (h2 : t ≤ 36000) : Calls Try.prog 94 #[.int .i64 t] w fun e w' => e = .returned (.int .i64 (stM t)) ∧ w = w' := by
  have hF := fun w => impl_floor10 t w (by omega) (by omega)
  have hI := within_any t (-36000) 36000
  rw [inB_mk h1 h2] at hI
  have b0 := sinM_bd (t / 10)
  have b1 := sinM_bd (t / 10 + 1)
  have hS0 := fun w => impl_Sine (t / 10) w
  have hS1 := fun w => impl_Sine (t / 10 + 1) w
  have hV : Hid (stM t = sinM (t / 10) + divR ((sinM (t / 10 + 1) - sinM (t / 10)) * (t % 10)) 10) := Lib.hid rfl
  have hr : 0 ≤ t % 10 ∧ t % 10 < 10 := by omega
  have hq : -4000 ≤ t / 10 ∧ t / 10 ≤ 4000 := by omega
  generalize sinM (t / 10) = a at b0 hS0 hV
  generalize sinM (t / 10 + 1) = b at b1 hS1 hV
  generalize t / 10 = q at hq hF hS0 hS1
  generalize t % 10 = r at hr hF hV
  have k := mul_bd (x := b - a) (y := r) (B := 2000000) (C := 10) (by omega) (by omega) (by omega) (by omega)
  have hd := divR_bd (a := (b - a) * r) (b := 10) (A := 20000000) (by omega) (by omega) (by omega)
  have hD := fun w => impl_divRound ((b - a) * r) 10 w (by omega) (by omega) (by omega) (by omega) (by omega)
  generalize divR ((b - a) * r) 10 = d at hd hD hV
  go_enter Try.func94, Try.ntmps94
  go_wp2_with (first | (go_at_call 68; refine (hI _).mono ?_; rintro e w' ⟨rfl, rfl⟩) | (go_at_call 98; refine (hF _).mono ?_; rintro e w' ⟨rfl, rfl⟩) | (go_at_call 96; with_reducible refine (hS0 _).mono ?_; rintro e w' ⟨rfl, rfl⟩) | (go_at_call 96; with_reducible refine (hS1 _).mono ?_; rintro e w' ⟨rfl, rfl⟩) | (go_at_call 95; refine (hD _).mono ?_; rintro e w' ⟨rfl, rfl⟩))
  go_ret
  exact ⟨ret_int hV.out.symm, rfl⟩
theorem impl_declination (day : Int) (w : World) (h0 : 0 ≤ day) (h1 : day ≤ 99999) : Calls Try.prog 93 #[.int .i64 day] w fun e w' => e = .returned (.int .i64 (declM day)) ∧ w = w' := by
  have hY := fun w => impl_dayOfYear day w h0 h1
  have hb := doyM_bd h0 h1
  have hV : Hid (declM day = declY (doyM day)) := Lib.hid rfl
  generalize doyM day = n at hY hb hV
  have hq := divR_bd (a := 360 * (n + 10)) (b := 365) (A := 360000) (by omega) (by omega) (by omega)
  have hD := fun w => impl_divRound (360 * (n + 10)) 365 w (by omega) (by omega) (by omega) (by omega) (by omega)
  have hV2 : Hid (declY n = -(divR (234 * cosM (divR (360 * (n + 10)) 365)) 1000000)) := Lib.hid rfl
  generalize divR (360 * (n + 10)) 365 = q at hq hD hV2
  have hC := fun w => impl_Cosine q w
  have cb := cosM_bd q
  generalize cosM q = c at hC cb hV2
  have he := divR_bd (a := 234 * c) (b := 1000000) (A := 234000000) (by omega) (by omega) (by omega)
  have hE := fun w => impl_divRound (234 * c) 1000000 w (by omega) (by omega) (by omega) (by omega) (by omega)
  generalize divR (234 * c) 1000000 = d at he hE hV2
  go_enter Try.func93, Try.ntmps93
  go_wp2_with (first | (go_at_call 116; refine (hY _).mono ?_; rintro e w' ⟨rfl, rfl⟩) | (go_at_call 97; refine (hC _).mono ?_; rintro e w' ⟨rfl, rfl⟩) | (go_at_call 95; with_reducible refine (hD _).mono ?_; rintro e w' ⟨rfl, rfl⟩) | (go_at_call 95; with_reducible refine (hE _).mono ?_; rintro e w' ⟨rfl, rfl⟩))
  go_ret
  exact ⟨ret_int (by rw [hV.out, hV2.out]), rfl⟩
end Go.Proofs.Ytbikppndhidbpaa
