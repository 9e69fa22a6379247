/-
  Plain laws of day and night, no program in sight: the height of the sun falls away from noon; rise, set and dark minutes; sums and the greatest over some days. Each under the conditions that it states.
-/
import Derived.Test.YtbikppndhidbpaaDivN
import Derived.Test.YtbikppndhidbpaaSine
set_option linter.unusedVariables false
set_option maxRecDepth 100000
set_option linter.unusedSimpArgs false
namespace Go.Proofs.Ytbikppndhidbpaa
/-! ### The height of the sun over a day -/
/-- The sine of tenths of a degree. -/
def stM (t : Int) : Int := sinM (t / 10) + divR ((sinM (t / 10 + 1) - sinM (t / 10)) * (t % 10)) 10
/-- The sine of the sun's way at a distance from noon. -/
def hourM (k : Nat) : Int := cosM ((k / 4 : Nat) : Int) + divR ((cosM (((k / 4 : Nat) : Int) + 1) - cosM ((k / 4 : Nat) : Int)) * ((k % 4 : Nat) : Int)) 4
theorem hour_anti : ∀ k, k < 720 → hourM (k + 1) ≤ hourM k := by decide +kernel
theorem hour_bd : ∀ k, k < 721 → -1000000 ≤ hourM k ∧ hourM k ≤ 1000000 := by decide +kernel
theorem cos_lat : ∀ k : Nat, k < 133 → 0 ≤ cosM ((k : Int) - 66) := by decide +kernel
theorem st_high : ∀ k : Nat, k < 235 → 0 ≤ stM (900 - (k : Int)) := by decide +kernel
theorem st_bd : ∀ k : Nat, k < 1135 → -1000000 ≤ stM ((k : Int) - 234) ∧ stM ((k : Int) - 234) ≤ 1000000 := by decide +kernel
theorem divR_mono {a b n : Int} (hn : 1 ≤ n) (h : a ≤ b) : divR a n ≤ divR b n := by
  have h1 := divR_near (a := a) hn
  have h2 := divR_near (a := b) hn
  rcases Int.lt_or_le (divR b n) (divR a n) with g | g
  · have k := Int.mul_le_mul_of_nonneg_left (show divR b n + 1 ≤ divR a n by omega) (show 0 ≤ n by omega)
    rw [Int.mul_add] at k
    have e : a = b := by omega
    rw [e]
    exact Int.le_refl _
  · exact g
def movM (lat t : Int) : Int := divR (cosM lat * stM (900 - max t (-t))) 1000000
def heightM (lat t : Int) (k : Nat) : Int := divR (sinM lat * stM t) 1000000 + divR (movM lat t * hourM k) 1000000
theorem mov_nonneg {lat t : Int} (h1 : -66 ≤ lat ∧ lat ≤ 66) (h2 : -234 ≤ t ∧ t ≤ 234) : 0 ≤ movM lat t := by
  unfold movM
  apply divR_nonneg (by omega)
  apply Int.mul_nonneg
  · have := cos_lat (lat + 66).toNat (by omega)
    rwa [show (((lat + 66).toNat : Nat) : Int) - 66 = lat by omega] at this
  · have := st_high (max t (-t)).toNat (by omega)
    rwa [show (((max t (-t)).toNat : Nat) : Int) = max t (-t) by omega] at this
theorem height_anti {lat t : Int} (h1 : -66 ≤ lat ∧ lat ≤ 66) (h2 : -234 ≤ t ∧ t ≤ 234) {k : Nat} (hk : k < 720) : heightM lat t (k + 1) ≤ heightM lat t k := by
  have := divR_mono (n := 1000000) (by omega) (Int.mul_le_mul_of_nonneg_left (hour_anti k hk) (mov_nonneg h1 h2))
  unfold heightM
  omega
/-! ### Rise, set, dark minutes of a day that is light about noon -/
/-- The distance of a minute from noon. -/
def noonD (m : Nat) : Nat := if m ≤ 720 then 720 - m else m - 720
structure DayT where
  rise : Int
  set : Int
  dark : Int
/-- What is known behind the first k minutes. -/
def dayTo (g : Nat → Bool) : Nat → DayT
  | 0 => ⟨-1, -1, 0⟩
  | k + 1 =>
    let d := dayTo g k
    if g (noonD k) then (if d.rise < 0 then ⟨k, d.set, d.dark⟩ else d)
    else ⟨d.rise, if 0 ≤ d.rise ∧ d.set < 0 then k else d.set, d.dark + 1⟩
theorem anti_le {g : Nat → Bool} (ha : ∀ k, k < 720 → g (k + 1) = true → g k = true) {i j : Nat} (h : i ≤ j) (hj : j ≤ 720) (hg : g j = true) : g i = true := by
  induction j with
  | zero => obtain rfl : i = 0 := by omega
            exact hg
  | succ j ih =>
    rcases (by omega : i = j + 1 ∨ i ≤ j) with rfl | h1
    · exact hg
    · exact ih h1 (by omega) (ha j (by omega) hg)
theorem day_none {g : Nat → Bool} (ha : ∀ k, k < 720 → g (k + 1) = true → g k = true) (h0 : g 0 = false) : ∀ k, k ≤ 1440 → dayTo g k = ⟨-1, -1, k⟩
  | 0, _ => rfl
  | k + 1, hk => by
    have hn : g (noonD k) = false := by
      cases h : g (noonD k)
      · rfl
      · have := anti_le ha (Nat.zero_le (noonD k)) (by unfold noonD; split <;> omega) h
        rw [h0] at this; cases this
    rw [dayTo, day_none ha h0 k (by omega), hn]
    simp
theorem day_last {g : Nat → Bool} (ha : ∀ k, k < 720 → g (k + 1) = true → g k = true) (h0 : g 0 = true) : ∃ D, D ≤ 720 ∧ ∀ k, k ≤ 720 → (g k = true ↔ k ≤ D) := by
  suffices h : ∀ n, n ≤ 720 → ∃ D, D ≤ n ∧ ∀ k, k ≤ n → (g k = true ↔ k ≤ D) from h 720 (Nat.le_refl _)
  intro n
  induction n with
  | zero => exact fun _ => ⟨0, Nat.le_refl _, fun k hk => by obtain rfl : k = 0 := by omega
                                                             simp [h0]⟩
  | succ n ih =>
    intro hn
    obtain ⟨D, hD, h⟩ := ih (by omega)
    by_cases hg : g (n + 1) = true
    · exact ⟨n + 1, Nat.le_refl _, fun k hk => ⟨fun _ => hk, fun _ => anti_le ha hk hn hg⟩⟩
    · refine ⟨D, by omega, fun k hk => ?_⟩
      rcases (by omega : k = n + 1 ∨ k ≤ n) with rfl | h1
      · exact ⟨fun h => absurd h hg, fun h => by omega⟩
      · exact h k h1
theorem day_some {g : Nat → Bool} {D : Nat} (hD : D ≤ 720) (h : ∀ k, k ≤ 720 → (g k = true ↔ k ≤ D)) : ∀ k, k ≤ 1440 → dayTo g k = (if k ≤ 720 - D then ⟨-1, -1, k⟩ else if k ≤ 721 + D then ⟨((720 - D : Nat) : Int), -1, ((720 - D : Nat) : Int)⟩ else ⟨((720 - D : Nat) : Int), ((721 + D : Nat) : Int), ((k - (2 * D + 1) : Nat) : Int)⟩)
  | 0, _ => by simp [dayTo]
  | k + 1, hk => by
    have hg := h (noonD k) (by unfold noonD; split <;> omega)
    rw [dayTo, day_some hD h k (by omega)]
    by_cases h1 : k + 1 ≤ 720 - D
    · rw [if_pos h1, if_pos (show k ≤ 720 - D by omega)]
      have : g (noonD k) = false := by
        rw [← Bool.not_eq_true, hg]; unfold noonD; split <;> omega
      rw [this]
      simp
    · rw [if_neg h1]
      by_cases h2 : k ≤ 720 - D
      · rw [if_pos h2, if_pos (show k + 1 ≤ 721 + D by omega)]
        have : g (noonD k) = true := by
          rw [hg]; unfold noonD; split <;> omega
        rw [this]
        have : k = 720 - D := by omega
        subst this
        simp
      · rw [if_neg h2]
        by_cases h3 : k + 1 ≤ 721 + D
        · rw [if_pos h3, if_pos (show k ≤ 721 + D by omega)]
          have : g (noonD k) = true := by
            rw [hg]; unfold noonD; split <;> omega
          rw [this]
          simp
          intro hh; omega
        · rw [if_neg h3]
          have : g (noonD k) = false := by
            rw [← Bool.not_eq_true, hg]; unfold noonD; split <;> omega
          rw [this]
          by_cases h4 : k ≤ 721 + D
          · rw [if_pos h4]
            have : k = 721 + D := by omega
            subst this
            simp
            omega
          · rw [if_neg h4]
            simp
            constructor
            · intro hh; omega
            · omega
/-- The times of a day: no minute of it is light, or those from rise to set are. -/
def riseM (g : Nat → Bool) : Int := (dayTo g 1440).rise
def setM (g : Nat → Bool) : Int := if (dayTo g 1440).set < 0 then 1440 else (dayTo g 1440).set
def darkM (g : Nat → Bool) : Int := (dayTo g 1440).dark
theorem day_all {g : Nat → Bool} (ha : ∀ k, k < 720 → g (k + 1) = true → g k = true) : (riseM g = -1 ∧ darkM g = 1440 ∧ ∀ m, m < 1440 → g (noonD m) = false) ∨ (0 ≤ riseM g ∧ riseM g ≤ 720 ∧ riseM g < setM g ∧ setM g ≤ 1440 ∧ darkM g = 1440 - (setM g - riseM g) ∧ ∀ m : Nat, m < 1440 → (g (noonD m) = true ↔ riseM g ≤ m ∧ m < setM g)) := by
  cases h0 : g 0
  · left
    have h := day_none ha h0 1440 (Nat.le_refl _)
    refine ⟨by unfold riseM; rw [h], by unfold darkM; rw [h]; rfl, fun m hm => ?_⟩
    cases hg : g (noonD m)
    · rfl
    · have := anti_le ha (Nat.zero_le (noonD m)) (by unfold noonD; split <;> omega) hg
      rw [h0] at this; cases this
  · right
    obtain ⟨D, hD, h⟩ := day_last ha h0
    have hd := day_some hD h 1440 (Nat.le_refl _)
    rw [if_neg (by omega)] at hd
    have hm : ∀ m : Nat, m < 1440 → (g (noonD m) = true ↔ 720 - D ≤ m ∧ m < 721 + D) := fun m hm => by
      rw [h (noonD m) (by unfold noonD; split <;> omega)]
      unfold noonD
      split <;> omega
    unfold riseM setM darkM
    by_cases hq : 1440 ≤ 721 + D
    · rw [if_pos hq] at hd
      rw [hd]
      simp only
      rw [if_pos (by omega)]
      refine ⟨by omega, by omega, by omega, by omega, by omega, fun m hm' => ?_⟩
      rw [hm m hm']
      omega
    · rw [if_neg hq] at hd
      rw [hd]
      simp only
      rw [if_neg (by omega)]
      refine ⟨by omega, by omega, by omega, by omega, by omega, fun m hm' => ?_⟩
      rw [hm m hm']
      omega
theorem day_bds {g : Nat → Bool} : ∀ k, 0 ≤ (dayTo g k).dark ∧ (dayTo g k).dark ≤ k
  | 0 => by simp [dayTo]
  | k + 1 => by
    have ih := day_bds (g := g) k
    rw [dayTo]
    split
    · split
      · simp only; omega
      · omega
    · simp only; omega
/-! ### Sums and the greatest over some days -/
def sumTo (f : Nat → Int) : Nat → Int
  | 0 => 0
  | k + 1 => sumTo f k + f k
/-- The first greatest of the first k values, -1 ahead of all. -/
def topTo (f : Nat → Int) : Nat → Nat × Int
  | 0 => (0, -1)
  | k + 1 => if (topTo f k).2 < f k then (k, f k) else topTo f k
theorem top_spec {f : Nat → Int} (h0 : ∀ k, 0 ≤ f k) : ∀ n, 1 ≤ n → (topTo f n).1 < n ∧ f (topTo f n).1 = (topTo f n).2 ∧ ∀ j, j < n → f j ≤ (topTo f n).2
  | 0, h => by omega
  | 1, _ => by
    have := h0 0
    rw [topTo, topTo, if_pos (by simp only; omega)]
    refine ⟨by simp, rfl, fun j hj => ?_⟩
    obtain rfl : j = 0 := by omega
    simp
  | n + 2, _ => by
    have ih := top_spec h0 (n + 1) (by omega)
    rw [topTo]
    split
    · rename_i h
      refine ⟨by simp, rfl, fun j hj => ?_⟩
      rcases (by omega : j = n + 1 ∨ j < n + 1) with rfl | h1
      · simp
      · have := ih.2.2 j h1; simp only; omega
    · rename_i h
      refine ⟨by omega, ih.2.1, fun j hj => ?_⟩
      rcases (by omega : j = n + 1 ∨ j < n + 1) with rfl | h1
      · omega
      · exact ih.2.2 j h1
theorem sum_le {f : Nat → Int} {M : Int} : ∀ n : Nat, (∀ j, j < n → f j ≤ M) → sumTo f n ≤ n * M
  | 0, _ => by simp [sumTo]
  | n + 1, h => by
    have ih := sum_le (f := f) (M := M) n (fun j hj => h j (by omega))
    have h1 := h n (by omega)
    have e : ((n + 1 : Nat) : Int) * M = (n : Int) * M + M := by rw [Int.natCast_add, Int.add_mul]; simp
    rw [sumTo, e]; omega
theorem sum_ge {f : Nat → Int} (h0 : ∀ k, 0 ≤ f k) : ∀ (n j : Nat), j < n → f j ≤ sumTo f n ∧ 0 ≤ sumTo f n
  | 0, j, h => by omega
  | n + 1, j, h => by
    have hn : 0 ≤ sumTo f n := by
      cases n with
      | zero => simp [sumTo]
      | succ n => exact (sum_ge h0 (n + 1) 0 (by omega)).2
    have h1 := h0 n
    rw [sumTo]
    rcases (by omega : j = n ∨ j < n) with rfl | h2
    · omega
    · have := (sum_ge h0 n j h2).1; omega
end Go.Proofs.Ytbikppndhidbpaa
