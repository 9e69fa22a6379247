/-
  Contracts of day and night: the light of a minute, sunrise, sunset, dark minutes, the sum and the longest of some days. Under the conditions that each states.
-/
import Derived.Test.YtbikppndhidbpaaSunA
set_option linter.unusedVariables false
set_option linter.unnecessarySimpa false
set_option maxRecDepth 100000
set_option linter.unusedSimpArgs false
namespace Go.Proofs.Ytbikppndhidbpaa
open Go.RowKit BigFrame

def kindM (h : Int) : Int := if -14000 ≤ h then 1 else if -104528 ≤ h then 2 else 3
/-- Whether it is day at a distance from noon. -/
def gD (lat day : Int) (k : Nat) : Bool := decide (-14000 ≤ heightM lat (declM day) k)
theorem gD_anti {lat day : Int} (h1 : -66 ≤ lat ∧ lat ≤ 66) : ∀ k, k < 720 → gD lat day (k + 1) = true → gD lat day k = true := fun k hk h => by
  have := height_anti h1 (declM_bd day) hk
  unfold gD at *
  rw [decide_eq_true_eq] at *
  omega
theorem step_l1 {g : Nat → Bool} {k : Nat} {r s n : Int} (hd : dayTo g k = ⟨r, s, n⟩) (hg : g (noonD k) = true) (hr : r < 0) : dayTo g (k + 1) = ⟨k, s, n⟩ := by
  simp only [dayTo]; rw [hg, if_pos rfl, hd]; simp [hr]
theorem step_l2 {g : Nat → Bool} {k : Nat} {r s n : Int} (hd : dayTo g k = ⟨r, s, n⟩) (hg : g (noonD k) = true) (hr : ¬ r < 0) : dayTo g (k + 1) = ⟨r, s, n⟩ := by
  simp only [dayTo]; rw [hg, if_pos rfl, hd]; simp only; rw [if_neg hr]
theorem step_d1 {g : Nat → Bool} {k : Nat} {r s n : Int} (hd : dayTo g k = ⟨r, s, n⟩) (hg : g (noonD k) = false) (hr : 0 ≤ r) (hs : s < 0) : dayTo g (k + 1) = ⟨r, k, n + 1⟩ := by
  simp only [dayTo]; rw [hg, hd]; simp [hr, hs]
theorem step_d2 {g : Nat → Bool} {k : Nat} {r s n : Int} (hd : dayTo g k = ⟨r, s, n⟩) (hg : g (noonD k) = false) (hr : ¬ (0 ≤ r ∧ s < 0)) : dayTo g (k + 1) = ⟨r, s, n + 1⟩ := by
  simp only [dayTo]; rw [hg, hd]; simp only [Bool.false_eq_true, if_false]; rw [if_neg hr]
theorem day_end {g : Nat → Bool} {r s n : Int} (hd : dayTo g 1440 = ⟨r, s, n⟩) : riseM g = r ∧ setM g = (if s < 0 then 1440 else s) ∧ darkM g = n := by
  unfold riseM setM darkM; rw [hd]; exact ⟨rfl, rfl, rfl⟩
theorem impl_kindOf (h : Int) (w : World) : Calls Try.prog 41 #[.int .i64 h] w fun e w' => e = .returned (.int .i64 (kindM h)) ∧ w = w' := by
  rcases (by omega : -14000 ≤ h ∨ (¬ -14000 ≤ h ∧ -104528 ≤ h) ∨ (¬ -14000 ≤ h ∧ ¬ -104528 ≤ h)) with h1 | ⟨h1, h2⟩ | ⟨h1, h2⟩
  · have hV : Hid (kindM h = 1) := Lib.hid (by unfold kindM; rw [if_pos h1])
    go_enter Try.func41, Try.ntmps41
    go_wp2
    go_ret
    exact ⟨ret_int hV.out.symm, rfl⟩
  · have hV : Hid (kindM h = 2) := Lib.hid (by unfold kindM; rw [if_neg h1, if_pos h2])
    go_enter Try.func41, Try.ntmps41
    go_wp2
    go_ret
    exact ⟨ret_int hV.out.symm, rfl⟩
  · have hV : Hid (kindM h = 3) := Lib.hid (by unfold kindM; rw [if_neg h1, if_neg h2])
    go_enter Try.func41, Try.ntmps41
    go_wp2
    go_ret
    exact ⟨ret_int hV.out.symm, rfl⟩
set_option maxHeartbeats 1600000 in
theorem impl_dayTimes (lat day : Int) (w : World) (hl1 : -66 ≤ lat) (hl2 : lat ≤ 66) (h0 : 0 ≤ day) (h1 : day ≤ 99999) : Calls Try.prog 38 #[.int .i64 lat, .int .i64 day] w fun e w' => e = .returned (.tuple #[.int .i64 (riseM (gD lat day)), .int .i64 (setM (gD lat day)), .int .i64 (darkM (gD lat day))]) ∧ Below w.heap.size w w' := by
  have hH := fun w => impl_heights lat day w hl1 hl2 h0 h1
  have hgk : Hid (∀ k, gD lat day (noonD k) = decide (-14000 ≤ heightM lat (declM day) (noonD k))) := Lib.hid (fun k => rfl)
  generalize hf : (fun m => heightM lat (declM day) (noonD m)) = f at hH
  have hgf : Hid (∀ k, gD lat day (noonD k) = decide (-14000 ≤ f k)) := Lib.hid (fun k => by rw [← hf]; exact hgk.out k)
  generalize gD lat day = g at hgf ⊢
  clear hf hgk
  go_enter Try.func38, Try.ntmps38
  go_wp2_with fail
  refine (hH _).mono ?_
  rintro e w1 ⟨rfl, hb1⟩
  clear hH
  go_wp2_with fail
  go_loop [7, 8, 9, 15] (fun x y z i => ∃ (k : Nat) (r s n : Int), x = .int .i64 r ∧ y = .int .i64 s ∧ z = .int .i64 n ∧ i = .int .i64 k ∧ k ≤ 1440 ∧ dayTo g k = ⟨r, s, n⟩) (fun _ _ _ i => 1440 - (intOf i).toNat)
  case atStart => exact ⟨0, _, _, _, rfl, rfl, rfl, rfl, by omega, rfl⟩
  case round =>
    obtain ⟨k, r, s, n, rfl, rfl, rfl, rfl, hk, hd⟩ := hrel
    have hn := day_bds (g := g) k
    rw [hd] at hn
    simp only at hn
    have hd' := Lib.hid hd
    clear hd
    by_cases hlt : k < 1440
    · have hix := fun w => run_index_arr (P := Try.prog) (w := w) (e := 2) Try.underlying101 Try.underlying2 (by kernel_rfl) k hlt ((hTo_get f 1440 hlt).trans (by unfold hCell; rw [if_pos hlt]))
      have hgx := hgf.out k
      generalize f k = h at hix hgx
      have hK := fun w => impl_kindOf h w
      by_cases hh : -14000 ≤ h
      · have e1 : kindM h = 1 := by unfold kindM; rw [if_pos hh]
        rw [e1] at hK
        have hgt : Hid (g (noonD k) = true) := Lib.hid (by rw [hgx]; simpa using hh)
        clear hgx e1
        by_cases hr : r < 0
        · have hs := Lib.hid (step_l1 hd'.out hgt.out hr)
          go_wp2_with (go_at_call 41; refine (hK _).mono ?_; rintro e w' ⟨rfl, rfl⟩)
          all_goals try (exfalso; omega)
          go_round
          case rel => exact ⟨k + 1, _, _, _, rfl, rfl, rfl, by go_num, by omega, hs.out⟩
          case measure => simp [intOf]; omega
        · have hs := Lib.hid (step_l2 hd'.out hgt.out hr)
          go_wp2_with (go_at_call 41; refine (hK _).mono ?_; rintro e w' ⟨rfl, rfl⟩)
          all_goals try (exfalso; omega)
          go_round
          case rel => exact ⟨k + 1, _, _, _, rfl, rfl, rfl, by go_num, by omega, hs.out⟩
          case measure => simp [intOf]; omega
      · have e1 : Hid ((kindM h == 1) = false) := Lib.hid (by unfold kindM; rw [if_neg hh]; split <;> rfl)
        have hkb : 2 ≤ kindM h ∧ kindM h ≤ 3 := by unfold kindM; rw [if_neg hh]; split <;> omega
        generalize kindM h = kd at hK hkb
        have hgt : Hid (g (noonD k) = false) := Lib.hid (by rw [hgx]; simpa using hh)
        clear hgx e1
        rcases (by omega : r < 0 ∨ (0 ≤ r ∧ s < 0) ∨ (0 ≤ r ∧ 0 ≤ s)) with hr | ⟨hr, hss⟩ | ⟨hr, hss⟩
        · have hs := Lib.hid (step_d2 hd'.out hgt.out (by omega))
          go_wp2_with (go_at_call 41; refine (hK _).mono ?_; rintro e w' ⟨rfl, rfl⟩)
          all_goals try (exfalso; omega)
          go_round
          case rel => exact ⟨k + 1, _, _, _, rfl, rfl, rfl, by go_num, by omega, hs.out⟩
          case measure => simp [intOf]; omega
        · have hs := Lib.hid (step_d1 hd'.out hgt.out hr hss)
          go_wp2_with (go_at_call 41; refine (hK _).mono ?_; rintro e w' ⟨rfl, rfl⟩)
          all_goals try (exfalso; omega)
          go_round
          case rel => exact ⟨k + 1, _, _, _, rfl, rfl, rfl, by go_num, by omega, hs.out⟩
          case measure => simp [intOf]; omega
        · have hs := Lib.hid (step_d2 hd'.out hgt.out (by omega))
          go_wp2_with (go_at_call 41; refine (hK _).mono ?_; rintro e w' ⟨rfl, rfl⟩)
          all_goals try (exfalso; omega)
          go_round
          case rel => exact ⟨k + 1, _, _, _, rfl, rfl, rfl, by go_num, by omega, hs.out⟩
          case measure => simp [intOf]; omega
    · obtain rfl : k = 1440 := by omega
      obtain ⟨v1, v2, v3⟩ := day_end hd'.out
      have hV : Hid (riseM g = r ∧ setM g = (if s < 0 then 1440 else s) ∧ darkM g = n) := Lib.hid ⟨v1, v2, v3⟩
      clear v1 v2 v3
      by_cases hs : s < 0
      · go_wp2
        go_ret3
        exact ⟨by rw [hV.out.1, hV.out.2.1, hV.out.2.2, if_pos hs] <;> rfl, hb1⟩
      · go_wp2
        go_ret3
        exact ⟨by rw [hV.out.1, hV.out.2.1, hV.out.2.2, if_neg (by omega)] <;> rfl, hb1⟩
theorem impl_isDayN (d : Int) (w : World) : Calls Try.prog 64 #[.int .i64 d] w fun e w' => e = .returned (.bool (inB d 0 99999)) ∧ w = w' := by
  go_enter Try.func64, Try.ntmps64
  go_wp2_with (go_at_call 68; refine (within_any _ _ _ _).mono ?_; rintro e w' ⟨rfl, rfl⟩)
  go_ret
  exact ⟨rfl, rfl⟩
theorem impl_isLat (d : Int) (w : World) : Calls Try.prog 63 #[.int .i64 d] w fun e w' => e = .returned (.bool (inB d (-66) 66)) ∧ w = w' := by
  go_enter Try.func63, Try.ntmps63
  go_wp2_with (go_at_call 68; refine (within_any _ _ _ _).mono ?_; rintro e w' ⟨rfl, rfl⟩)
  go_ret
  exact ⟨rfl, rfl⟩
theorem impl_isMin (d : Int) (w : World) : Calls Try.prog 66 #[.int .i64 d] w fun e w' => e = .returned (.bool (inB d 0 1439)) ∧ w = w' := by
  go_enter Try.func66, Try.ntmps66
  go_wp2_with (go_at_call 68; refine (within_any _ _ _ _).mono ?_; rintro e w' ⟨rfl, rfl⟩)
  go_ret
  exact ⟨rfl, rfl⟩
def codeB (b : Bool) : Int := if b = true then 0 else 2
def okD (lat day : Int) : Bool := inB lat (-66) 66 && inB day 0 99999
theorem okD_yes {lat day : Int} (h : okD lat day = true) : (-66 ≤ lat ∧ lat ≤ 66) ∧ (0 ≤ day ∧ day ≤ 99999) := by
  unfold okD at h
  rw [Bool.and_eq_true, inB_yes, inB_yes] at h
  exact h
theorem impl_dayCode (lat day : Int) (w : World) : Calls Try.prog 37 #[.int .i64 lat, .int .i64 day] w fun e w' => e = .returned (.int .i64 (codeB (okD lat day))) ∧ w = w' := by
  have hl := impl_isLat lat
  have hd := impl_isDayN day
  have hV : Hid (codeB (okD lat day) = codeB (inB lat (-66) 66 && inB day 0 99999)) := Lib.hid rfl
  generalize inB lat (-66) 66 = a at hl hV
  generalize inB day 0 99999 = b at hd hV
  cases a <;> cases b <;>
    · go_enter Try.func37, Try.ntmps37
      go_wp2_with (first | (go_at_call 63; refine (hl _).mono ?_; rintro e w' ⟨rfl, rfl⟩) | (go_at_call 64; refine (hd _).mono ?_; rintro e w' ⟨rfl, rfl⟩))
      go_ret
      exact ⟨ret_int (by rw [hV.out] <;> rfl), rfl⟩
theorem impl_Dark (lat day : Int) (w : World) (h : okD lat day = true) : Calls Try.prog 13 #[.int .i64 lat, .int .i64 day] w fun e w' => e = .returned (.tuple #[.int .i64 (darkM (gD lat day)), .int .i64 0]) ∧ Below w.heap.size w w' := by
  obtain ⟨⟨h1, h2⟩, h3, h4⟩ := okD_yes h
  have hT := fun w => impl_dayTimes lat day w h1 h2 h3 h4
  have hC := impl_dayCode lat day
  rw [h] at hC
  simp only [codeB, if_true, Bool.false_eq_true, if_false] at hC
  go_enter Try.func13, Try.ntmps13
  go_wp2_with (first | (go_at_call 37; refine (hC _).mono ?_; rintro e w' ⟨rfl, rfl⟩) | (go_at_call 38; refine (hT _).mono ?_; rintro e w1 ⟨rfl, hB1⟩))
  go_ret2
  exact ⟨rfl, hB1⟩
theorem impl_Dark_no (lat day : Int) (w : World) (h : okD lat day = false) : Calls Try.prog 13 #[.int .i64 lat, .int .i64 day] w fun e w' => e = .returned (.tuple #[.int .i64 0, .int .i64 2]) ∧ Below w.heap.size w w' := by
  have hC := impl_dayCode lat day
  rw [h] at hC
  simp only [codeB, if_true, Bool.false_eq_true, if_false] at hC
  go_enter Try.func13, Try.ntmps13
  go_wp2_with (go_at_call 37; refine (hC _).mono ?_; rintro e w' ⟨rfl, rfl⟩)
  go_ret2
  exact ⟨rfl, Below.refl _ _⟩
theorem impl_Sunrise (lat day : Int) (w : World) (h : okD lat day = true) : Calls Try.prog 14 #[.int .i64 lat, .int .i64 day] w fun e w' => e = .returned (.tuple #[.int .i64 (if riseM (gD lat day) < 0 then 0 else riseM (gD lat day)), .int .i64 (if riseM (gD lat day) < 0 then 3 else 0)]) ∧ Below w.heap.size w w' := by
  obtain ⟨⟨h1, h2⟩, h3, h4⟩ := okD_yes h
  have hT := fun w => impl_dayTimes lat day w h1 h2 h3 h4
  have hC := impl_dayCode lat day
  rw [h] at hC
  simp only [codeB, if_true, Bool.false_eq_true, if_false] at hC
  generalize riseM (gD lat day) = r at hT ⊢
  try generalize setM (gD lat day) = s at hT ⊢
  by_cases hr : r < 0
  · rw [if_pos hr, if_pos hr]
    go_enter Try.func14, Try.ntmps14
    go_wp2_with (first | (go_at_call 37; refine (hC _).mono ?_; rintro e w' ⟨rfl, rfl⟩) | (go_at_call 38; refine (hT _).mono ?_; rintro e w1 ⟨rfl, hB1⟩))
    go_ret2
    exact ⟨rfl, hB1⟩
  · rw [if_neg hr, if_neg hr]
    go_enter Try.func14, Try.ntmps14
    go_wp2_with (first | (go_at_call 37; refine (hC _).mono ?_; rintro e w' ⟨rfl, rfl⟩) | (go_at_call 38; refine (hT _).mono ?_; rintro e w1 ⟨rfl, hB1⟩))
    go_ret2
    exact ⟨rfl, hB1⟩
theorem impl_Sunrise_no (lat day : Int) (w : World) (h : okD lat day = false) : Calls Try.prog 14 #[.int .i64 lat, .int .i64 day] w fun e w' => e = .returned (.tuple #[.int .i64 0, .int .i64 2]) ∧ Below w.heap.size w w' := by
  have hC := impl_dayCode lat day
  rw [h] at hC
  simp only [codeB, if_true, Bool.false_eq_true, if_false] at hC
  go_enter Try.func14, Try.ntmps14
  go_wp2_with (go_at_call 37; refine (hC _).mono ?_; rintro e w' ⟨rfl, rfl⟩)
  go_ret2
  exact ⟨rfl, Below.refl _ _⟩
theorem impl_Sunset (lat day : Int) (w : World) (h : okD lat day = true) : Calls Try.prog 15 #[.int .i64 lat, .int .i64 day] w fun e w' => e = .returned (.tuple #[.int .i64 (if riseM (gD lat day) < 0 then 0 else setM (gD lat day)), .int .i64 (if riseM (gD lat day) < 0 then 3 else 0)]) ∧ Below w.heap.size w w' := by
  obtain ⟨⟨h1, h2⟩, h3, h4⟩ := okD_yes h
  have hT := fun w => impl_dayTimes lat day w h1 h2 h3 h4
  have hC := impl_dayCode lat day
  rw [h] at hC
  simp only [codeB, if_true, Bool.false_eq_true, if_false] at hC
  generalize riseM (gD lat day) = r at hT ⊢
  try generalize setM (gD lat day) = s at hT ⊢
  by_cases hr : r < 0
  · rw [if_pos hr, if_pos hr]
    go_enter Try.func15, Try.ntmps15
    go_wp2_with (first | (go_at_call 37; refine (hC _).mono ?_; rintro e w' ⟨rfl, rfl⟩) | (go_at_call 38; refine (hT _).mono ?_; rintro e w1 ⟨rfl, hB1⟩))
    go_ret2
    exact ⟨rfl, hB1⟩
  · rw [if_neg hr, if_neg hr]
    go_enter Try.func15, Try.ntmps15
    go_wp2_with (first | (go_at_call 37; refine (hC _).mono ?_; rintro e w' ⟨rfl, rfl⟩) | (go_at_call 38; refine (hT _).mono ?_; rintro e w1 ⟨rfl, hB1⟩))
    go_ret2
    exact ⟨rfl, hB1⟩
theorem impl_Sunset_no (lat day : Int) (w : World) (h : okD lat day = false) : Calls Try.prog 15 #[.int .i64 lat, .int .i64 day] w fun e w' => e = .returned (.tuple #[.int .i64 0, .int .i64 2]) ∧ Below w.heap.size w w' := by
  have hC := impl_dayCode lat day
  rw [h] at hC
  simp only [codeB, if_true, Bool.false_eq_true, if_false] at hC
  go_enter Try.func15, Try.ntmps15
  go_wp2_with (go_at_call 37; refine (hC _).mono ?_; rintro e w' ⟨rfl, rfl⟩)
  go_ret2
  exact ⟨rfl, Below.refl _ _⟩
theorem impl_SunSine (lat day : Int) (m : Nat) (w : World) (h : okD lat day = true) (hm : m < 1440) : Calls Try.prog 40 #[.int .i64 lat, .int .i64 day, .int .i64 m] w fun e w' => e = .returned (.tuple #[.int .i64 (heightM lat (declM day) (noonD m)), .int .i64 0]) ∧ Below w.heap.size w w' := by
  have hl := impl_isLat lat
  have hd := impl_isDayN day
  have hm' := impl_isMin (m : Int)
  rw [inB_mk (by omega) (by omega)] at hm'
  obtain ⟨⟨h1, h2⟩, h3, h4⟩ := okD_yes h
  have hH := fun w => impl_heights lat day w h1 h2 h3 h4
  rw [inB_mk h1 h2] at hl
  rw [inB_mk h3 h4] at hd
  generalize hf : (fun m => heightM lat (declM day) (noonD m)) = f at hH
  have hV : Hid (heightM lat (declM day) (noonD m) = f m) := Lib.hid (by rw [← hf])
  clear hf
  have hix := fun w => run_index_arr (P := Try.prog) (w := w) (e := 2) Try.underlying101 Try.underlying2 (by kernel_rfl) m hm ((hTo_get f 1440 hm).trans (by unfold hCell; rw [if_pos hm]))
  go_enter Try.func40, Try.ntmps40
  go_wp2_with (first | (go_at_call 63; refine (hl _).mono ?_; rintro e w' ⟨rfl, rfl⟩) | (go_at_call 64; refine (hd _).mono ?_; rintro e w' ⟨rfl, rfl⟩) | (go_at_call 66; refine (hm' _).mono ?_; rintro e w' ⟨rfl, rfl⟩) | (go_at_call 65; refine (hH _).mono ?_; rintro e w1 ⟨rfl, hB1⟩))
  go_ret2
  exact ⟨by rw [hV.out] <;> rfl, hB1⟩
theorem impl_LightKind (lat day : Int) (m : Nat) (w : World) (h : okD lat day = true) (hm : m < 1440) : Calls Try.prog 17 #[.int .i64 lat, .int .i64 day, .int .i64 m] w fun e w' => e = .returned (.tuple #[.int .i64 (kindM (heightM lat (declM day) (noonD m))), .int .i64 0]) ∧ Below w.heap.size w w' := by
  have hS := fun w => impl_SunSine lat day m w h hm
  go_enter Try.func17, Try.ntmps17
  go_wp2_with (first | (go_at_call 40; refine (hS _).mono ?_; rintro e w1 ⟨rfl, hB1⟩) | (go_at_call 41; refine (impl_kindOf _ _).mono ?_; rintro e w' ⟨rfl, rfl⟩))
  go_ret2
  exact ⟨rfl, hB1⟩
def lightNames : List ByteArray := [⟨#[]⟩, ⟨#[100, 97, 121]⟩, ⟨#[116, 119, 105, 108, 105, 103, 104, 116]⟩, ⟨#[110, 105, 103, 104, 116]⟩]
theorem impl_LightName (n : Int) (w : World) : Calls Try.prog 18 #[.int .i64 n] w fun e w' => e = .returned (.string (pickS n lightNames)) ∧ Below w.heap.size w w' := by
  have hs := Sl.new w #[.string ⟨#[]⟩, .string ⟨#[100, 97, 121]⟩, .string ⟨#[116, 119, 105, 108, 105, 103, 104, 116]⟩, .string ⟨#[110, 105, 103, 104, 116]⟩] 9
  go_enter Try.func18, Try.ntmps18
  go_wp2_with fail
  refine (pick_any n lightNames _ _ _ _ hs (by decide)).mono ?_
  rintro e w' ⟨rfl, rfl⟩
  go_wp2_with fail
  go_ret
  exact ⟨ret_str rfl, by go_grown⟩
def okS (lat from_ count : Int) : Bool := inB lat (-66) 66 && (inB count 1 400 && (inB from_ 0 99999 && inB (from_ + count - 1) 0 99999))
theorem okS_yes {lat f c : Int} (h : okS lat f c = true) : (-66 ≤ lat ∧ lat ≤ 66) ∧ (1 ≤ c ∧ c ≤ 400) ∧ (0 ≤ f ∧ f ≤ 99999) ∧ (0 ≤ f + c - 1 ∧ f + c - 1 ≤ 99999) := by
  unfold okS at h
  rw [Bool.and_eq_true, Bool.and_eq_true, Bool.and_eq_true, inB_yes, inB_yes, inB_yes, inB_yes] at h
  exact h
theorem okS_at {lat f c : Int} (h : okS lat f c = true) {k : Nat} (hk : (k : Int) < c) : okD lat (f + (k : Int)) = true := by
  obtain ⟨h1, h2, h3, h4⟩ := okS_yes h
  unfold okD
  rw [inB_mk h1.1 h1.2, inB_mk (by omega) (by omega)]; rfl
theorem impl_seasonCode (lat f c : Int) (w : World) : Calls Try.prog 44 #[.int .i64 lat, .int .i64 f, .int .i64 c] w fun e w' => e = .returned (.int .i64 (codeB (okS lat f c))) ∧ w = w' := by
  have hl := impl_isLat lat
  have hc := within_any c 1 400
  have hf := impl_isDayN f
  have hV : Hid (codeB (okS lat f c) = codeB (inB lat (-66) 66 && (inB c 1 400 && (inB f 0 99999 && inB (f + c - 1) 0 99999)))) := Lib.hid rfl
  cases ha : inB lat (-66) 66
  · rw [ha] at hl hV
    go_enter Try.func44, Try.ntmps44
    go_wp2_with (go_at_call 63; refine (hl _).mono ?_; rintro e w' ⟨rfl, rfl⟩)
    go_ret
    exact ⟨ret_int (by rw [hV.out] <;> rfl), rfl⟩
  rw [ha] at hl hV
  cases hb : inB c 1 400
  · rw [hb] at hc hV
    go_enter Try.func44, Try.ntmps44
    go_wp2_with (first | (go_at_call 63; refine (hl _).mono ?_; rintro e w' ⟨rfl, rfl⟩) | (go_at_call 68; refine (hc _).mono ?_; rintro e w' ⟨rfl, rfl⟩))
    go_ret
    exact ⟨ret_int (by rw [hV.out] <;> rfl), rfl⟩
  have hcb := inB_yes.1 hb
  rw [hb] at hc hV
  cases hd : inB f 0 99999
  · rw [hd] at hf hV
    go_enter Try.func44, Try.ntmps44
    go_wp2_with (first | (go_at_call 63; refine (hl _).mono ?_; rintro e w' ⟨rfl, rfl⟩) | (go_at_call 68; refine (hc _).mono ?_; rintro e w' ⟨rfl, rfl⟩) | (go_at_call 64; with_reducible refine (hf _).mono ?_; rintro e w' ⟨rfl, rfl⟩))
    go_ret
    exact ⟨ret_int (by rw [hV.out] <;> rfl), rfl⟩
  have hfb := inB_yes.1 hd
  rw [hd] at hf hV
  have he := impl_isDayN (f + c - 1)
  cases hg : inB (f + c - 1) 0 99999
  all_goals
    rw [hg] at he hV
    clear ha hb hd hg
    go_enter Try.func44, Try.ntmps44
    go_wp2_with (first | (go_at_call 63; refine (hl _).mono ?_; rintro e w' ⟨rfl, rfl⟩) | (go_at_call 68; refine (hc _).mono ?_; rintro e w' ⟨rfl, rfl⟩) | (go_at_call 64; with_reducible refine (hf _).mono ?_; rintro e w' ⟨rfl, rfl⟩) | (go_at_call 64; with_reducible refine (he _).mono ?_; rintro e w' ⟨rfl, rfl⟩))
    go_ret
    exact ⟨ret_int (by rw [hV.out] <;> rfl), rfl⟩
/-- The dark minutes of the day k days on. -/
def dayF (lat f : Int) (k : Nat) : Int := darkM (gD lat (f + (k : Int)))
theorem dayF_bd (lat f : Int) (k : Nat) : 0 ≤ dayF lat f k ∧ dayF lat f k ≤ 1440 := day_bds 1440
theorem sum_bd {f : Nat → Int} (h : ∀ k, 0 ≤ f k ∧ f k ≤ 1440) : ∀ n : Nat, 0 ≤ sumTo f n ∧ sumTo f n ≤ (n : Int) * 1440
  | 0 => ⟨by simp [sumTo], by simp [sumTo]⟩
  | n + 1 => by
    have ih := sum_bd h n
    have h1 := h n
    rw [sumTo]
    omega
set_option maxHeartbeats 1600000 in
theorem impl_DarkSum (lat f : Int) (n : Nat) (w : World) (h : okS lat f (n : Int) = true) : Calls Try.prog 20 #[.int .i64 lat, .int .i64 f, .int .i64 (n : Int)] w fun e w' => e = .returned (.tuple #[.int .i64 (sumTo (dayF lat f) n), .int .i64 0]) ∧ Below w.heap.size w w' := by
  have hC := impl_seasonCode lat f (n : Int)
  rw [h] at hC
  simp only [codeB, if_true, Bool.false_eq_true, if_false] at hC
  obtain ⟨h1, h2, h3, h4⟩ := okS_yes h
  have hT : ∀ k : Nat, k < n → ∀ w, Calls Try.prog 38 #[.int .i64 lat, .int .i64 (f + (k : Int))] w fun e w' => e = .returned (.tuple #[.int .i64 (riseM (gD lat (f + (k : Int)))), .int .i64 (setM (gD lat (f + (k : Int)))), .int .i64 (dayF lat f k)]) ∧ Below w.heap.size w w' := fun k hk w => impl_dayTimes lat (f + (k : Int)) w h1.1 h1.2 (by omega) (by omega)
  have hb := Lib.hid (sum_bd (dayF_bd lat f))
  have hst : Hid (∀ k, sumTo (dayF lat f) (k + 1) = sumTo (dayF lat f) k + dayF lat f k) := Lib.hid (fun _ => rfl)
  have hdb := Lib.hid (dayF_bd lat f)
  clear h
  go_enter Try.func20, Try.ntmps20
  go_wp2_with (go_at_call 44; refine (hC _).mono ?_; rintro e w' ⟨rfl, rfl⟩)
  go_loopw [9, 10] (fun s i wr => ∃ k : Nat, k ≤ n ∧ s = .int .i64 (sumTo (dayF lat f) k) ∧ i = .int .i64 (f + (k : Int)) ∧ Below w.heap.size w wr) (fun _ i _ => n - (intOf i - f).toNat)
  case atStart => exact ⟨0, Nat.zero_le _, rfl, by go_num, Below.refl _ _⟩
  case round =>
    obtain ⟨k, hk, rfl, rfl, hB⟩ := hrel
    have b1 := hb.out k
    have s1 := Lib.hid (hst.out k)
    have d1 := hdb.out k
    generalize hsk : sumTo (dayF lat f) k = s at b1 s1 ⊢
    have hsk' := Lib.hid hsk
    clear hsk
    by_cases hlt : k < n
    · have hTk := hT k hlt
      generalize dayF lat f k = d at s1 d1 hTk
      generalize riseM (gD lat (f + (k : Int))) = r at hTk
      generalize setM (gD lat (f + (k : Int))) = u at hTk
      go_wp2_with (go_at_call 38; refine (hTk _).mono ?_; rintro e w1 ⟨rfl, hB1⟩)
      go_roundw
      case rel => exact ⟨k + 1, hlt, by rw [s1.out], by go_num, bnext hB hB1⟩
      case measure => simp [intOf]; omega
    · obtain rfl : k = n := by omega
      go_wp2
      go_ret2
      exact ⟨by rw [hsk'.out] <;> rfl, hB⟩
theorem impl_DarkSum_no (lat f c : Int) (w : World) (h : okS lat f c = false) : Calls Try.prog 20 #[.int .i64 lat, .int .i64 f, .int .i64 c] w fun e w' => e = .returned (.tuple #[.int .i64 0, .int .i64 2]) ∧ Below w.heap.size w w' := by
  have hC := impl_seasonCode lat f c
  rw [h] at hC
  simp only [codeB, if_true, Bool.false_eq_true, if_false] at hC
  go_enter Try.func20, Try.ntmps20
  go_wp2_with (go_at_call 44; refine (hC _).mono ?_; rintro e w' ⟨rfl, rfl⟩)
  go_ret2
  exact ⟨rfl, Below.refl _ _⟩
theorem top_yes {f : Nat → Int} {k b : Nat} {m d : Int} (ht : topTo f k = (b, m)) (hd : f k = d) (h : m < d) : topTo f (k + 1) = (k, d) := by
  rw [topTo, ht, hd, if_pos h]
theorem top_no {f : Nat → Int} {k b : Nat} {m d : Int} (ht : topTo f k = (b, m)) (hd : f k = d) (h : ¬ m < d) : topTo f (k + 1) = (b, m) := by
  rw [topTo, ht, hd, if_neg h]
set_option maxHeartbeats 1600000 in
theorem impl_Longest (lat f : Int) (n : Nat) (w : World) (h : okS lat f (n : Int) = true) : Calls Try.prog 21 #[.int .i64 lat, .int .i64 f, .int .i64 (n : Int)] w fun e w' => e = .returned (.tuple #[.int .i64 (f + ((topTo (dayF lat f) n).1 : Int)), .int .i64 (topTo (dayF lat f) n).2, .int .i64 0]) ∧ Below w.heap.size w w' := by
  have hC := impl_seasonCode lat f (n : Int)
  rw [h] at hC
  simp only [codeB, if_true, Bool.false_eq_true, if_false] at hC
  obtain ⟨h1, h2, h3, h4⟩ := okS_yes h
  have hT : ∀ k : Nat, k < n → ∀ w, Calls Try.prog 38 #[.int .i64 lat, .int .i64 (f + (k : Int))] w fun e w' => e = .returned (.tuple #[.int .i64 (riseM (gD lat (f + (k : Int)))), .int .i64 (setM (gD lat (f + (k : Int)))), .int .i64 (dayF lat f k)]) ∧ Below w.heap.size w w' := fun k hk w => impl_dayTimes lat (f + (k : Int)) w h1.1 h1.2 (by omega) (by omega)
  have hdb := Lib.hid (dayF_bd lat f)
  clear h
  go_enter Try.func21, Try.ntmps21
  go_wp2_with (go_at_call 44; refine (hC _).mono ?_; rintro e w' ⟨rfl, rfl⟩)
  go_loopw [10, 11, 12] (fun s t i wr => ∃ (k b : Nat) (m : Int), k ≤ n ∧ b ≤ k ∧ -1 ≤ m ∧ m ≤ 1440 ∧ s = .int .i64 (f + (b : Int)) ∧ t = .int .i64 m ∧ i = .int .i64 (f + (k : Int)) ∧ Hid (topTo (dayF lat f) k = (b, m)) ∧ Below w.heap.size w wr) (fun _ _ i _ => n - (intOf i - f).toNat)
  case atStart => exact ⟨0, 0, -1, Nat.zero_le _, Nat.le_refl _, by omega, by omega, by go_num, rfl, by go_num, Lib.hid rfl, Below.refl _ _⟩
  case round =>
    obtain ⟨k, b, m, hk, hbk, m1, m2, rfl, rfl, rfl, ht, hB⟩ := hrel
    have d1 := hdb.out k
    by_cases hlt : k < n
    · have hTk := hT k hlt
      obtain ⟨d, hd⟩ : ∃ d, dayF lat f k = d := ⟨_, rfl⟩
      rw [hd] at d1 hTk
      have hd' := Lib.hid hd
      clear hd
      generalize riseM (gD lat (f + (k : Int))) = r at hTk
      generalize setM (gD lat (f + (k : Int))) = u at hTk
      by_cases hm : m < d
      · have hs := Lib.hid (top_yes ht.out hd'.out hm)
        go_wp2_with (go_at_call 38; refine (hTk _).mono ?_; rintro e w1 ⟨rfl, hB1⟩)
        go_roundw
        case rel => exact ⟨k + 1, k, d, hlt, by omega, by omega, by omega, rfl, rfl, by go_num, hs, bnext hB hB1⟩
        case measure => simp [intOf]; omega
      · have hs := Lib.hid (top_no ht.out hd'.out hm)
        go_wp2_with (go_at_call 38; refine (hTk _).mono ?_; rintro e w1 ⟨rfl, hB1⟩)
        go_roundw
        case rel => exact ⟨k + 1, b, m, hlt, by omega, by omega, by omega, rfl, rfl, by go_num, hs, bnext hB hB1⟩
        case measure => simp [intOf]; omega
    · obtain rfl : k = n := by omega
      go_wp2
      go_ret3
      exact ⟨by rw [ht.out] <;> rfl, hB⟩
theorem impl_Longest_no (lat f c : Int) (w : World) (h : okS lat f c = false) : Calls Try.prog 21 #[.int .i64 lat, .int .i64 f, .int .i64 c] w fun e w' => e = .returned (.tuple #[.int .i64 0, .int .i64 0, .int .i64 2]) ∧ Below w.heap.size w w' := by
  have hC := impl_seasonCode lat f c
  rw [h] at hC
  simp only [codeB, if_true, Bool.false_eq_true, if_false] at hC
  go_enter Try.func21, Try.ntmps21
  go_wp2_with (go_at_call 44; refine (hC _).mono ?_; rintro e w' ⟨rfl, rfl⟩)
  go_ret3
  exact ⟨rfl, Below.refl _ _⟩
end Go.Proofs.Ytbikppndhidbpaa
