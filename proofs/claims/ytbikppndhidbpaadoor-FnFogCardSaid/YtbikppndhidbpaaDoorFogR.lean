/-
  Contracts of sounds: how far a loudness carries, the least loudness that is heard. Under the conditions that each states.
-/
import Derived.Test.YtbikppndhidbpaaDoorFogP
import Derived.Test.YtbikppndhidbpaaDoorBtw
set_option linter.unusedVariables false
set_option linter.unnecessarySimpa false
set_option maxRecDepth 100000
set_option linter.unusedSimpArgs false
namespace Go.Proofs.YtbikppndhidbpaaDoor
open Go.RowKit BigFrame

theorem impl_blendM (x0 y0 x1 y1 x : Int) (w : World) (h0 : 0 ≤ x0 ∧ x0 ≤ 1000) (h1 : 0 ≤ x1 ∧ x1 ≤ 1000) (h2 : 0 ≤ y0 ∧ y0 ≤ 10000) (h3 : 0 ≤ y1 ∧ y1 ≤ 10000) (h4 : 0 ≤ x ∧ x ≤ 1000) : Calls Tryd.prog 127 #[.int .i64 x0, .int .i64 y0, .int .i64 x1, .int .i64 y1, .int .i64 x] w fun e w' => e = .returned (.int .i64 (blendM x0 y0 x1 y1 x)) ∧ w = w' := by
  have k := mul_bd (x := y1 - y0) (y := x - x0) (B := 10000) (C := 1000) (by omega) (by omega) (by omega) (by omega)
  rcases (by omega : x ≤ x0 ∨ (¬ x ≤ x0 ∧ x1 ≤ x0) ∨ (¬ x ≤ x0 ∧ ¬ x1 ≤ x0 ∧ x1 ≤ x) ∨ (¬ x ≤ x0 ∧ ¬ x1 ≤ x0 ∧ ¬ x1 ≤ x)) with h | ⟨h, g⟩ | ⟨h, g, f⟩ | ⟨h, g, f⟩
  · have hV : Hid (blendM x0 y0 x1 y1 x = y0) := Lib.hid (by unfold blendM; rw [if_pos (.inl h)])
    go_enter Tryd.func127, Tryd.ntmps127
    go_wp2
    go_ret
    exact ⟨ret_int hV.out.symm, rfl⟩
  · have hV : Hid (blendM x0 y0 x1 y1 x = y0) := Lib.hid (by unfold blendM; rw [if_pos (.inr g)])
    go_enter Tryd.func127, Tryd.ntmps127
    go_wp2
    all_goals (go_ret; exact ⟨ret_int hV.out.symm, rfl⟩)
  · have hV : Hid (blendM x0 y0 x1 y1 x = y1) := Lib.hid (by unfold blendM; rw [if_neg (by omega), if_pos f])
    go_enter Tryd.func127, Tryd.ntmps127
    go_wp2
    go_ret
    exact ⟨ret_int hV.out.symm, rfl⟩
  · have hV : Hid (blendM x0 y0 x1 y1 x = y0 + divR ((y1 - y0) * (x - x0)) (x1 - x0)) := Lib.hid (by unfold blendM; rw [if_neg (by omega), if_neg f])
    have hd := divR_bd (a := (y1 - y0) * (x - x0)) (b := x1 - x0) (A := 10000000) (by omega) (by omega) (by omega)
    have hD := fun w => impl_divRound ((y1 - y0) * (x - x0)) (x1 - x0) w (by omega) (by omega) (by omega) (by omega) (by omega)
    generalize divR ((y1 - y0) * (x - x0)) (x1 - x0) = q at hV hd hD
    go_enter Tryd.func127, Tryd.ntmps127
    go_wp2_with (go_at_call 111; refine (hD _).mono ?_; rintro e w' ⟨rfl, rfl⟩)
    go_ret
    exact ⟨ret_int hV.out.symm, rfl⟩
theorem blendM_bd : ∀ k : Nat, k < 81 → 0 ≤ blendM (60 + 20 * min (((k : Int) + 60 - 60) / 20) 3) (metM (min (((k : Int) + 60 - 60) / 20) 3).toNat) (60 + 20 * min (((k : Int) + 60 - 60) / 20) 3 + 20) (metM ((min (((k : Int) + 60 - 60) / 20) 3).toNat + 1)) ((k : Int) + 60) ∧ blendM (60 + 20 * min (((k : Int) + 60 - 60) / 20) 3) (metM (min (((k : Int) + 60 - 60) / 20) 3).toNat) (60 + 20 * min (((k : Int) + 60 - 60) / 20) 3 + 20) (metM ((min (((k : Int) + 60 - 60) / 20) 3).toNat + 1)) ((k : Int) + 60) ≤ 8000 := by decide +kernel
theorem met_bd : ∀ i : Nat, i < 5 → 0 ≤ metM i ∧ metM i ≤ 8000 := by decide +kernel
theorem met_cell : ∀ i : Nat, i < 5 → (#[Value.int .i64 50, .int .i64 200, .int .i64 1000, .int .i64 4000, .int .i64 8000])[i]? = some (.int .i64 (metM i)) := by
  intro i hi
  match i, hi with
  | 0, _ => rfl
  | 1, _ => rfl
  | 2, _ => rfl
  | 3, _ => rfl
  | 4, _ => rfl
set_option maxHeartbeats 800000 in
theorem impl_sndR (p wd : Int) (w : World) (hp : 60 ≤ p ∧ p ≤ 140) (hw : -3 ≤ wd ∧ wd ≤ 3) : Calls Tryd.prog 89 #[.int .i64 p, .int .i64 wd] w fun e w' => e = .returned (.int .i64 (sndM p wd)) ∧ Below w.heap.size w w' := by
  obtain ⟨i, hi⟩ : ∃ i : Int, (p - 60) / 20 = i := ⟨_, rfl⟩
  have hib : 0 ≤ i ∧ i ≤ 4 := by omega
  obtain ⟨m, hm⟩ : ∃ m : Nat, min i 3 = m := ⟨(min i 3).toNat, by omega⟩
  have hmb : m ≤ 3 := by omega
  have hb := blendM_bd (p - 60).toNat (by omega)
  rw [show (((p - 60).toNat : Nat) : Int) + 60 = p by omega, hi, hm] at hb
  have hV : Hid (sndM p wd = blendM (60 + 20 * (m : Int)) (metM m) (60 + 20 * (m : Int) + 20) (metM (m + 1)) p * (4 + wd) / 4) := Lib.hid (by unfold sndM; rw [hi, hm]; rfl)
  simp only [Int.toNat_natCast] at hb
  have b1 := met_bd m (by omega)
  have b2 := met_bd (m + 1) (by omega)
  have hbl := fun w => impl_blendM (60 + 20 * (m : Int)) (metM m) (60 + 20 * (m : Int) + 20) (metM (m + 1)) p w (by omega) (by omega) (by omega) (by omega) (by omega)
  generalize blendM (60 + 20 * (m : Int)) (metM m) (60 + 20 * (m : Int) + 20) (metM (m + 1)) p = q at hb hbl hV
  have hk := mul_bd (x := q) (y := 4 + wd) (B := 8000) (C := 7) (by omega) (by omega) (by omega) (by omega)
  have c0 : (w.alloc (.cells #[.int .i64 50, .int .i64 200, .int .i64 1000, .int .i64 4000, .int .i64 8000] 144)).cell? ⟨w.heap.size, m, none⟩ = some (.int .i64 (metM m)) := by rw [World.cell?_alloc_new]; exact met_cell m (by omega)
  have c1 : (w.alloc (.cells #[.int .i64 50, .int .i64 200, .int .i64 1000, .int .i64 4000, .int .i64 8000] 144)).cell? ⟨w.heap.size, m + 1, none⟩ = some (.int .i64 (metM (m + 1))) := by rw [World.cell?_alloc_new]; exact met_cell (m + 1) (by omega)
  generalize metM m = y0 at c0 hbl
  generalize metM (m + 1) = y1 at c1 hbl
  have hV := Lib.hid (hV.out.trans (Int.tdiv_eq_ediv_of_nonneg (b := 4) (Int.mul_nonneg hb.1 (show 0 ≤ 4 + wd by omega))).symm)
  rcases (by omega : (i = m ∧ m ≤ 2) ∨ (m = 3 ∧ 3 ≤ i)) with ⟨rfl, hm2⟩ | ⟨rfl, hm2⟩
  · have ht : ¬ (3 : Int) < m := by omega
    have ht2 : (m : Int) < 3 := by omega
    clear hm
    go_enter Tryd.func89, Tryd.ntmps89
    go_wp2_with fail
    refine wp_region_grew (by kernel_rfl) (by kernel_rfl) ?_
    repeat (first | (go_big_quiet_step ((go_at_call 127; exact grew_same (hbl _)))) | (quiet_step ((go_at_call 127; exact grew_same (hbl _)))))
    refine wpQuiet_nil ?_
    rintro _ ⟨⟨w9, hb9⟩, rfl⟩
    try dsimp only
    obtain ⟨hc9, hf9⟩ := bcell hb9
    go_wp2
    go_ret
    exact ⟨ret_int hV.out.symm, bnext (by go_grown) hb9⟩
  · clear hm
    rcases (by omega : i = 3 ∨ i = 4) with rfl | rfl
    · go_enter Tryd.func89, Tryd.ntmps89
      go_wp2_with fail
      refine wp_region_grew (by kernel_rfl) (by kernel_rfl) ?_
      repeat (first | (go_big_quiet_step ((go_at_call 127; exact grew_same (hbl _)))) | (quiet_step ((go_at_call 127; exact grew_same (hbl _)))))
      refine wpQuiet_nil ?_
      rintro _ ⟨⟨w9, hb9⟩, rfl⟩
      try dsimp only
      obtain ⟨hc9, hf9⟩ := bcell hb9
      go_wp2
      go_ret
      exact ⟨ret_int hV.out.symm, bnext (by go_grown) hb9⟩
    · go_enter Tryd.func89, Tryd.ntmps89
      go_wp2_with fail
      refine wp_region_grew (by kernel_rfl) (by kernel_rfl) ?_
      repeat (first | (go_big_quiet_step ((go_at_call 127; exact grew_same (hbl _)))) | (quiet_step ((go_at_call 127; exact grew_same (hbl _)))))
      refine wpQuiet_nil ?_
      rintro _ ⟨⟨w9, hb9⟩, rfl⟩
      try dsimp only
      obtain ⟨hc9, hf9⟩ := bcell hb9
      go_wp2
      go_ret
      exact ⟨ret_int hV.out.symm, bnext (by go_grown) hb9⟩
theorem impl_isPower (n : Int) (w : World) : Calls Tryd.prog 90 #[.int .i64 n] w fun e w' => e = .returned (.bool (inB n 60 140)) ∧ w = w' := by
  go_enter Tryd.func90, Tryd.ntmps90
  go_wp2_with (go_at_call 61; refine (within_any _ _ _ _).mono ?_; rintro e w' ⟨rfl, rfl⟩)
  go_ret
  exact ⟨rfl, rfl⟩
theorem impl_isWind (n : Int) (w : World) : Calls Tryd.prog 86 #[.int .i64 n] w fun e w' => e = .returned (.bool (inB n (-3) 3)) ∧ w = w' := by
  go_enter Tryd.func86, Tryd.ntmps86
  go_wp2_with (go_at_call 61; refine (within_any _ _ _ _).mono ?_; rintro e w' ⟨rfl, rfl⟩)
  go_ret
  exact ⟨rfl, rfl⟩
theorem impl_SndRange (p wd : Int) (w : World) (hp : 60 ≤ p ∧ p ≤ 140) (hw : -3 ≤ wd ∧ wd ≤ 3) : Calls Tryd.prog 37 #[.int .i64 p, .int .i64 wd] w fun e w' => e = .returned (.tuple #[.int .i64 (sndM p wd), .int .i64 0]) ∧ Below w.heap.size w w' := by
  have h1 := impl_isPower p
  have h2 := impl_isWind wd
  rw [inB_mk hp.1 hp.2] at h1
  rw [inB_mk hw.1 hw.2] at h2
  have h3 := fun w => impl_sndR p wd w hp hw
  go_enter Tryd.func37, Tryd.ntmps37
  go_wp2_with (first | (go_at_call 90; refine (h1 _).mono ?_; rintro e w' ⟨rfl, rfl⟩) | (go_at_call 86; refine (h2 _).mono ?_; rintro e w' ⟨rfl, rfl⟩) | (go_at_call 89; refine (h3 _).mono ?_; rintro e w1 ⟨rfl, hB1⟩))
  go_ret2
  exact ⟨rfl, hB1⟩
def IntB (w : World) (g : Nat) (n : Int) : Prop := g < w.heap.size ∧ w.cell? ⟨g, 0, none⟩ = some (.int .i64 n)
theorem IntB.on {w w1 : World} {g : Nat} {n : Int} (h : IntB w g n) (hb : Below w.heap.size w w1) : IntB w1 g n := ⟨Nat.lt_of_lt_of_le h.1 hb.size, ((bcell hb).1 _ _ h.1).trans h.2⟩
theorem impl_pw1 (p wd d : Int) (g1 g2 : Nat) (w : World) (hp : 60 ≤ p ∧ p ≤ 140) (hw : -3 ≤ wd ∧ wd ≤ 3) (c1 : IntB w g1 wd) (c2 : IntB w g2 d) : Calls Tryd.prog 88 #[.int .i64 p, .pointer (some ⟨g1, 0, none⟩), .pointer (some ⟨g2, 0, none⟩)] w fun e w' => e = .returned (.bool (decide (d ≤ sndM p wd))) ∧ Below w.heap.size w w' := by
  obtain ⟨q1, q2⟩ := c1
  obtain ⟨q3, q4⟩ := c2
  have h3 := fun w => impl_sndR p wd w hp hw
  generalize sndM p wd = s at h3 ⊢
  go_enter Tryd.func88, Tryd.ntmps88
  go_wp2_with fail
  refine wp_region_grew (by kernel_rfl) (by kernel_rfl) ?_
  repeat (first | (go_big_quiet_step ((go_at_call 89; exact grew_of (h3 _)))) | (quiet_step ((go_at_call 89; exact grew_of (h3 _)))))
  refine wpQuiet_nil ?_
  rintro _ ⟨⟨w9, hb9⟩, rfl⟩
  try dsimp only
  obtain ⟨hc9, hf9⟩ := bcell hb9
  go_wp2
  go_ret
  exact ⟨ret_bool rfl, hb9⟩
def pwC (d wd : Int) : Int := if inB d 0 300000 && inB wd (-3) 3 then 0 else 2
/-- The least loudness that is heard. -/
def LeastP (d wd k : Int) : Prop := (60 ≤ k ∧ k ≤ 140) ∧ d ≤ sndM k wd ∧ (60 < k → sndM (k - 1) wd < d)
set_option maxHeartbeats 800000 in
theorem impl_leastP (d wd : Int) (g1 g2 : Nat) (w : World) (hw : -3 ≤ wd ∧ wd ≤ 3) (c1 : IntB w g1 wd) (c2 : IntB w g2 d) : Calls Tryd.prog 87 #[.int .i64 60, .int .i64 140, .func (Fn.func 88) #[] #[.pointer (some ⟨g1, 0, none⟩), .pointer (some ⟨g2, 0, none⟩)]] w fun e w' => ∃ k cd : Int, e = .returned (.tuple #[.int .i64 k, .int .i64 cd]) ∧ Below w.heap.size w w' ∧ ((cd = 3 ∧ k = 0) ∨ (cd = 0 ∧ LeastP d wd k)) := by
  have hcall := Lib.hid (fun (w2 : World) (p : Int) (hp : 60 ≤ p ∧ p ≤ 140) (hb : Below w.heap.size w w2) => impl_pw1 p wd d g1 g2 w2 hp hw (c1.on hb) (c2.on hb))
  clear c1 c2
  go_enter Tryd.func87, Tryd.ntmps87
  go_wp2_with fail
  refine (hcall.out _ 140 (by omega) (Below.refl _ _)).mono ?_
  rintro e w1 ⟨rfl, hb1⟩
  by_cases hd : d ≤ sndM 140 wd
  rotate_left
  · have hf : decide (d ≤ sndM 140 wd) = false := decide_eq_false hd
    rw [hf]
    go_wp2_with fail
    go_ret2
    exact ⟨0, 3, rfl, hb1, .inl ⟨rfl, rfl⟩⟩
  have hf : decide (d ≤ sndM 140 wd) = true := decide_eq_true hd
  rw [hf]
  have hd' := Lib.hid hd
  clear hd hf
  go_wp2_with fail
  go_loopw [0, 1] (fun s t wr => ∃ l h : Int, s = .int .i64 l ∧ t = .int .i64 h ∧ 60 ≤ l ∧ l ≤ h ∧ h ≤ 140 ∧ Hid (d ≤ sndM h wd ∧ (60 < l → sndM (l - 1) wd < d)) ∧ Below w.heap.size w wr) (fun s t _ => (intOf t - intOf s).toNat)
  case atStart => exact ⟨60, 140, rfl, rfl, by omega, by omega, by omega, Lib.hid ⟨hd'.out, fun h => by omega⟩, hb1⟩
  case round =>
    obtain ⟨l, h, rfl, rfl, hl, hlh, hh, hd, hBr⟩ := hrel
    by_cases hlt : l < h
    · have hdv : (l + h).tdiv 2 = (l + h) / 2 := Int.tdiv_eq_ediv_of_nonneg (by omega)
      obtain ⟨m, hm⟩ : ∃ m, (l + h) / 2 = m := ⟨_, rfl⟩
      have hmb : l ≤ m ∧ m < h := by omega
      have hmc := hcall.out
      by_cases hq : d ≤ sndM m wd
      · have hf : decide (d ≤ sndM m wd) = true := decide_eq_true hq
        have hC := fun w2 hb => hmc w2 m (by omega) hb
        rw [hf] at hC
        have hn := Lib.hid (And.intro hq hd.out.2)
        clear hf hq hmc
        go_wp2_with fail
        refine (hC _ hBr).mono ?_
        rintro e w2 ⟨rfl, hb2⟩
        go_wp2_with fail
        go_roundw
        case rel => exact ⟨l, m, rfl, rfl, by omega, by omega, by omega, hn, bnext hBr hb2⟩
        case measure => simp [intOf]; omega
      · have hf : decide (d ≤ sndM m wd) = false := decide_eq_false hq
        have hC := fun w2 hb => hmc w2 m (by omega) hb
        rw [hf] at hC
        have hn : Hid (d ≤ sndM h wd ∧ (60 < m + 1 → sndM (m + 1 - 1) wd < d)) := Lib.hid ⟨hd.out.1, fun _ => by rw [show m + 1 - 1 = m by omega]; omega⟩
        clear hf hq hmc
        go_wp2_with fail
        refine (hC _ hBr).mono ?_
        rintro e w2 ⟨rfl, hb2⟩
        go_wp2_with fail
        go_roundw
        case rel => exact ⟨m + 1, h, rfl, rfl, by omega, by omega, by omega, hn, bnext hBr hb2⟩
        case measure => simp [intOf]; omega
    · obtain rfl : l = h := by omega
      go_wp2_with fail
      go_ret2
      exact ⟨l, 0, rfl, hBr, .inr ⟨rfl, ⟨hl, hh⟩, hd.out.1, hd.out.2⟩⟩
theorem impl_PowFor (d wd : Int) (w : World) : Calls Tryd.prog 36 #[.int .i64 d, .int .i64 wd] w fun e w' => ∃ k cd : Int, e = .returned (.tuple #[.int .i64 k, .int .i64 cd]) ∧ Below w.heap.size w w' ∧ ((cd ≠ 0 ∧ k = 0) ∨ (cd = 0 ∧ (-3 ≤ wd ∧ wd ≤ 3) ∧ LeastP d wd k)) := by
  have h1 := within_any d 0 300000
  have h2 := impl_isWind wd
  have c1 : IntB ((w.alloc (.cells #[.int .i64 d] 2)).alloc (.cells #[.int .i64 wd] 2)) (w.heap.size + 1) wd := ⟨by simp, by simp [go_sem]⟩
  have c2 : IntB ((w.alloc (.cells #[.int .i64 d] 2)).alloc (.cells #[.int .i64 wd] 2)) w.heap.size d := ⟨by simp; omega, by simp [go_sem]⟩
  have hb0 : Below w.heap.size w ((w.alloc (.cells #[.int .i64 d] 2)).alloc (.cells #[.int .i64 wd] 2)) := by go_grown
  cases hi : inB d 0 300000
  · rw [hi] at h1
    go_enter Tryd.func36, Tryd.ntmps36
    go_wp2_with (go_at_call 61; refine (h1 _).mono ?_; rintro e w' ⟨rfl, rfl⟩)
    go_ret2
    exact ⟨0, 2, rfl, hb0, .inl ⟨by omega, rfl⟩⟩
  rw [hi] at h1
  cases hj : inB wd (-3) 3
  · rw [hj] at h2
    go_enter Tryd.func36, Tryd.ntmps36
    go_wp2_with (first | (go_at_call 61; refine (h1 _).mono ?_; rintro e w' ⟨rfl, rfl⟩) | (go_at_call 86; refine (h2 _).mono ?_; rintro e w' ⟨rfl, rfl⟩))
    go_ret2
    exact ⟨0, 2, rfl, hb0, .inl ⟨by omega, rfl⟩⟩
  rw [hj] at h2
  have hw := inB_yes.1 hj
  clear hi hj
  go_enter Tryd.func36, Tryd.ntmps36
  go_wp2_with (first | (go_at_call 61; refine (h1 _).mono ?_; rintro e w' ⟨rfl, rfl⟩) | (go_at_call 86; refine (h2 _).mono ?_; rintro e w' ⟨rfl, rfl⟩))
  refine (impl_leastP d wd _ _ _ hw c1 c2).mono ?_
  rintro e w1 ⟨k, cd, rfl, hb1, hcase⟩
  go_wp2_with fail
  go_ret2
  refine ⟨k, cd, rfl, bnext hb0 hb1, ?_⟩
  rcases hcase with ⟨rfl, rfl⟩ | ⟨rfl, h⟩
  · exact .inl ⟨by omega, rfl⟩
  · exact .inr ⟨rfl, hw, h⟩
end Go.Proofs.YtbikppndhidbpaaDoor
