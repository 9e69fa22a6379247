/-
  Contracts of the calendar: the date of a day, the day of its year. For days from 0 to 99999.
-/
import Derived.Test.YtbikppndhidbpaaCal2
set_option linter.unusedVariables false
set_option linter.unnecessarySimpa false
set_option maxRecDepth 100000
set_option linter.unusedSimpArgs false
namespace Go.Proofs.Ytbikppndhidbpaa
open Go.RowKit BigFrame

theorem yearD_bd (y : Int) : 365 ≤ yearD y ∧ yearD y ≤ 366 := by unfold yearD; split <;> omega
theorem firstN_mono {a b : Nat} (h : a ≤ b) : firstN a ≤ firstN b := by
  induction b with
  | zero => obtain rfl : a = 0 := by omega
            exact Int.le_refl _
  | succ b ih =>
    rcases (by omega : a = b + 1 ∨ a ≤ b) with rfl | h1
    · exact Int.le_refl _
    · have := yearD_bd (2000 + (b : Int))
      have := ih h1
      rw [firstN]; omega
theorem first_last : 99999 < firstN 274 := by decide +kernel
/-- The number of a day's year, counted from 2000. -/
def yrTo (d : Int) : Nat → Nat
  | 0 => 0
  | n + 1 => if firstN (n + 1) ≤ d then n + 1 else yrTo d n
def yrN (d : Int) : Nat := yrTo d 273
theorem yrTo_is {d : Int} {n : Nat} (h1 : firstN n ≤ d) (h2 : d < firstN (n + 1)) : ∀ m, n ≤ m → yrTo d m = n
  | 0, h => by obtain rfl : n = 0 := by omega
               rfl
  | m + 1, h => by
    rcases (by omega : n = m + 1 ∨ n ≤ m) with rfl | h3
    · rw [yrTo, if_pos h1]
    · have := firstN_mono (show n + 1 ≤ m + 1 by omega)
      rw [yrTo, if_neg (by omega), yrTo_is h1 h2 m h3]
theorem yrN_is {d : Int} {n : Nat} (hn : n ≤ 273) (h1 : firstN n ≤ d) (h2 : d < firstN (n + 1)) : yrN d = n := yrTo_is h1 h2 273 hn
theorem yrTo_in {d : Int} (h0 : 0 ≤ d) : ∀ m, firstN (yrTo d m) ≤ d ∧ yrTo d m ≤ m ∧ (d < firstN (m + 1) → d < firstN (yrTo d m + 1))
  | 0 => ⟨by simpa [yrTo, firstN] using h0, Nat.le_refl _, fun h => h⟩
  | m + 1 => by
    have ih := yrTo_in h0 m
    rw [yrTo]
    by_cases h : firstN (m + 1) ≤ d
    · rw [if_pos h]; exact ⟨h, Nat.le_refl _, fun h => h⟩
    · rw [if_neg h]; exact ⟨ih.1, by omega, fun _ => ih.2.2 (by omega)⟩
/-- The day of its year. -/
def doyM (d : Int) : Int := d - firstN (yrN d) + 1
theorem doyM_bd {d : Int} (h0 : 0 ≤ d) (h1 : d ≤ 99999) : 1 ≤ doyM d ∧ doyM d ≤ 366 := by
  have h := yrTo_in h0 273
  have hl := h.2.2 (by have := first_last; show d < firstN 274; omega)
  have hy := yearD_bd (2000 + ((yrTo d 273 : Nat) : Int))
  rw [firstN] at hl
  unfold doyM yrN
  omega
/-- The days that are left of a year from month number m on. -/
def restB (b : Bool) (m : Nat) : Int := if b = true then ([366, 335, 306, 275, 245, 214, 184, 153, 122, 92, 61, 31, 0] : List Int).getD m 0 else ([365, 334, 306, 275, 245, 214, 184, 153, 122, 92, 61, 31, 0] : List Int).getD m 0
theorem rest_step (y : Int) {m : Nat} (hm : m < 12) : restB (leapB y) m = monthD y m + restB (leapB y) (m + 1) := by
  unfold monthD
  generalize leapB y = b
  revert m
  revert b
  decide
theorem rest_zero (y : Int) : restB (leapB y) 0 = yearD y := by
  unfold yearD
  cases leapB y <;> rfl
theorem rest_end (b : Bool) : restB b 12 = 0 := by cases b <;> rfl
theorem month_bd (y : Int) {m : Nat} (hm : m < 12) : 28 ≤ monthD y m ∧ monthD y m ≤ 31 := by
  unfold monthD
  generalize leapB y = b
  revert m
  revert b
  decide
set_option maxHeartbeats 1600000 in
theorem impl_dateOf (day : Int) (w : World) (h0 : 0 ≤ day) (h1 : day ≤ 99999) : Calls Try.prog 128 #[.int .i64 day] w fun e w' => ∃ (n : Nat) (m d : Int), n ≤ 273 ∧ firstN n ≤ day ∧ day < firstN (n + 1) ∧ e = .returned (.tuple #[.int .i64 (2000 + (n : Int)), .int .i64 m, .int .i64 d]) ∧ w = w' := by
  have hlast := Lib.hid first_last
  go_enter Try.func128, Try.ntmps128
  go_wp2
  go_loop [0, 5] (fun s t => ∃ (k : Nat) (z : Int), k ≤ 273 ∧ s = .int .i64 z ∧ t = .int .i64 (2000 + (k : Int)) ∧ z = day - firstN k ∧ 0 ≤ z) (fun s _ => (intOf s).toNat)
  case atStart => exact ⟨0, _, Nat.zero_le _, rfl, rfl, by simp [firstN], h0⟩
  case round =>
    obtain ⟨k, z, hk, rfl, rfl, hz, hz0⟩ := hrel
    have hz' := Lib.hid hz
    have hzb : z ≤ 99999 := by have := firstN_bd k; omega
    clear hz
    have hy := yearD_bd (2000 + (k : Int))
    have hyd := fun w => impl_yearDays (2000 + (k : Int)) w (by omega) (by omega)
    have hst : Hid (firstN (k + 1) = firstN k + yearD (2000 + (k : Int))) := Lib.hid rfl
    have hr0 := Lib.hid (rest_zero (2000 + (k : Int)))
    obtain ⟨y, hye⟩ : ∃ y, yearD (2000 + (k : Int)) = y := ⟨_, rfl⟩
    rw [hye] at hy hyd hst hr0
    clear hye
    by_cases hlt : y ≤ z
    · have hk3 : k + 1 ≤ 273 := by
        rcases Nat.lt_or_ge 273 (k + 1) with h | h
        · exfalso
          have := firstN_mono (show 274 ≤ k + 1 by omega)
          have := hlast.out
          have := hst.out
          have := hz'.out
          omega
        · exact h
      go_wp2_with (go_at_call 133; refine (hyd _).mono ?_; rintro e w' ⟨rfl, rfl⟩)
      go_round
      case rel => exact ⟨k + 1, z - y, hk3, rfl, by go_num, by have := hst.out; have := hz'.out; omega, by omega⟩
      case measure => simp [intOf]; omega
    · go_wp2_with (go_at_call 133; refine (hyd _).mono ?_; rintro e w' ⟨rfl, rfl⟩)
      go_loop [0, 6] (fun s t => ∃ (m : Nat) (x : Int), m ≤ 11 ∧ s = .int .i64 x ∧ t = .int .i64 ((m : Int) + 1) ∧ 0 ≤ x ∧ x ≤ 366 ∧ Hid (x < restB (leapB (2000 + (k : Int))) m)) (fun s _ => (intOf s).toNat)
      case atStart => exact ⟨0, z, by omega, rfl, by go_num, hz0, by omega, Lib.hid (by rw [hr0.out]; omega)⟩
      case round =>
        obtain ⟨m, x, hm, rfl, rfl, hx0, hx1, hx⟩ := hrel
        have hmd := fun w => impl_monthDays (2000 + (k : Int)) m w (by omega) (by omega) (by omega)
        have hmb := month_bd (2000 + (k : Int)) (show m < 12 by omega)
        have hrs := Lib.hid (rest_step (2000 + (k : Int)) (show m < 12 by omega))
        obtain ⟨q, hq⟩ : ∃ q, monthD (2000 + (k : Int)) m = q := ⟨_, rfl⟩
        rw [hq] at hmd hmb hrs
        clear hq
        by_cases hxl : q ≤ x
        · have hm3 : m + 1 ≤ 11 := by
            rcases Nat.lt_or_ge 11 (m + 1) with h | h
            · exfalso
              obtain rfl : m = 11 := by omega
              have h2 := hrs.out
              rw [rest_end] at h2
              have := hx.out
              omega
            · exact h
          go_wp2_with (go_at_call 134; refine (hmd _).mono ?_; rintro e w' ⟨rfl, rfl⟩)
          go_round
          case rel => exact ⟨m + 1, x - q, hm3, rfl, by go_num, by omega, by omega, Lib.hid (by have := hrs.out; have := hx.out; omega)⟩
          case measure => simp [intOf]; omega
        · go_wp2_with (go_at_call 134; refine (hmd _).mono ?_; rintro e w' ⟨rfl, rfl⟩)
          go_ret3
          exact ⟨k, _, _, hk, by have := hz'.out; omega, by have := hz'.out; have := hst.out; omega, rfl, rfl⟩
theorem impl_dayOfYear (day : Int) (w : World) (h0 : 0 ≤ day) (h1 : day ≤ 99999) : Calls Try.prog 116 #[.int .i64 day] w fun e w' => e = .returned (.int .i64 (doyM day)) ∧ w = w' := by
  go_enter Try.func116, Try.ntmps116
  go_wp2_with fail
  refine (impl_dateOf day _ h0 h1).mono ?_
  rintro e w' ⟨n, m, d, hn, hf, hl, rfl, rfl⟩
  have hv : Hid (doyM day = day - firstN n + 1) := Lib.hid (by unfold doyM; rw [yrN_is hn hf hl])
  have hb := firstN_bd n
  have hfd := fun w => impl_firstDay n w hn
  obtain ⟨f, hfe⟩ : ∃ f, firstN n = f := ⟨_, rfl⟩
  rw [hfe] at hv hb hfd hf
  clear hfe hl
  go_wp2_with (go_at_call 129; refine (hfd _).mono ?_; rintro e w' ⟨rfl, rfl⟩)
  go_ret
  exact ⟨ret_int hv.out.symm, rfl⟩
end Go.Proofs.Ytbikppndhidbpaa
