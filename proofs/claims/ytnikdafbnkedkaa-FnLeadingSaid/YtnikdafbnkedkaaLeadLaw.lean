/-
  Leading lines: what the numbers obey (no program in sight). Under the conditions that each states.
-/
import Derived.Test.YtnikdafbnkedkaaLead4
import Derived.Test.YtnikdafbnkedkaaLead5
import Derived.Test.YtnikdafbnkedkaaBrg
set_option linter.unusedVariables false
set_option linter.unnecessarySimpa false
set_option maxRecDepth 100000
set_option linter.unusedSimpArgs false
namespace Go.Proofs.Ytnikdafbnkedkaa
open Go.RowKit BigFrame

theorem cross_turn (p q x1 y1 x2 y2 : Int) : crossM p q x1 y1 x2 y2 = crossM x1 y1 x2 y2 p q := by unfold crossM; grind
theorem cross_line (x1 y1 x2 y2 k : Int) : crossM x1 y1 x2 y2 (x1 + k * (x1 - x2)) (y1 + k * (y1 - y2)) = 0 := by unfold crossM; grind
theorem divR_zero {b : Int} (hb : 1 ≤ b) : divR 0 b = 0 := by
  rw [divR_ge hb (by omega)]
  exact Int.ediv_eq_zero_of_lt (by omega) (by omega)
theorem divR_one {a b : Int} (hb : 1 ≤ b) (h : b ≤ a) : 1 ≤ divR a b := by
  rw [divR_ge hb (by omega)]
  exact Int.le_ediv_of_mul_le (by omega) (by omega)
/-- On the line, ahead of the front. -/
theorem off_line {x1 y1 x2 y2 : Int} (k : Int) (hn : ¬ (x1 = x2 ∧ y1 = y2)) : divR (crossM x1 y1 x2 y2 (x1 + k * (x1 - x2)) (y1 + k * (y1 - y2))) (distM x1 y1 x2 y2) = 0 := by
  rw [cross_line, divR_zero (distM_pos hn)]
theorem ahead_line {x1 y1 x2 y2 k : Int} (hk : 1 ≤ k) (hn : ¬ (x1 = x2 ∧ y1 = y2)) : 1 ≤ aheadM x1 y1 x2 y2 (x1 + k * (x1 - x2)) (y1 + k * (y1 - y2)) := by
  unfold aheadM
  have hd := distM_pos hn
  have hs := sqM_pos hn
  have hr : distM x1 y1 x2 y2 * distM x1 y1 x2 y2 ≤ sqM x1 y1 x2 y2 := rootM_le _ (by omega)
  refine divR_one hd ?_
  have e : aheadN x1 y1 x2 y2 (x1 + k * (x1 - x2)) (y1 + k * (y1 - y2)) = k * sqM x1 y1 x2 y2 := by unfold aheadN sqM; grind
  rw [e]
  have h1 : 1 * distM x1 y1 x2 y2 ≤ distM x1 y1 x2 y2 * distM x1 y1 x2 y2 := Int.mul_le_mul_of_nonneg_right hd (by omega)
  have h2 : 1 * sqM x1 y1 x2 y2 ≤ k * sqM x1 y1 x2 y2 := Int.mul_le_mul_of_nonneg_right hk (by omega)
  omega
theorem open_line {x1 y1 x2 y2 p q : Int} (h : crossM x1 y1 x2 y2 p q = 0) (e1 : ¬ (p = x1 ∧ q = y1)) (e2 : ¬ (p = x2 ∧ q = y2)) : openM x1 y1 x2 y2 p q = 0 := by
  unfold openM
  rw [cross_turn, h, Int.mul_zero]
  refine divR_zero ?_
  have h1 := distM_pos e1
  have h2 := distM_pos e2
  have := Int.mul_le_mul h1 h2 (by omega) (by omega)
  omega
/-- The sides agree. -/
theorem open_side {x1 y1 x2 y2 p q : Int} (hn : ¬ (x1 = x2 ∧ y1 = y2)) (e1 : ¬ (p = x1 ∧ q = y1)) (e2 : ¬ (p = x2 ∧ q = y2)) :
    ¬ ((0 < divR (crossM x1 y1 x2 y2 p q) (distM x1 y1 x2 y2) ∧ openM x1 y1 x2 y2 p q < 0) ∨ (divR (crossM x1 y1 x2 y2 p q) (distM x1 y1 x2 y2) < 0 ∧ 0 < openM x1 y1 x2 y2 p q)) := by
  have hd := distM_pos hn
  have h1 := distM_pos e1
  have h2 := distM_pos e2
  have h3 : 1 ≤ distM p q x1 y1 * distM p q x2 y2 := by
    have := Int.mul_le_mul h1 h2 (by omega) (by omega)
    omega
  unfold openM
  rw [cross_turn p q x1 y1 x2 y2]
  rcases Int.le_total 0 (crossM x1 y1 x2 y2 p q) with h | h
  · have a := divR_nonneg hd h
    have b := divR_nonneg h3 (show 0 ≤ 1000000 * crossM x1 y1 x2 y2 p q by omega)
    omega
  · have a := divR_nonpos hd h
    have b := divR_nonpos h3 (show 1000000 * crossM x1 y1 x2 y2 p q ≤ 0 by omega)
    omega
theorem seek_ge (f : Nat → Bool) : ∀ n k, k ≤ seek f n k
  | 0, k => by unfold seek; exact Nat.le_refl _
  | n + 1, k => by
    unfold seek
    split
    · exact Nat.le_refl _
    · exact Nat.le_trans (Nat.le_succ k) (seek_ge f n (k + 1))
theorem seek_mono {f g : Nat → Bool} (h : ∀ k, g k = true → f k = true) : ∀ n k, seek f n k ≤ seek g n k
  | 0, k => by unfold seek; exact Nat.le_refl _
  | n + 1, k => by
    by_cases hg : g k = true
    · have hf := h k hg
      unfold seek
      simp [hf, hg]
    · by_cases hf : f k = true
      · have := seek_ge g (n + 1) k
        have e : seek f (n + 1) k = k := by unfold seek; simp [hf]
        omega
      · have e1 : seek f (n + 1) k = seek f n (k + 1) := by rw [seek]; simp [hf]
        have e2 : seek g (n + 1) k = seek g n (k + 1) := by rw [seek]; simp [hg]
        rw [e1, e2]
        exact seek_mono h n (k + 1)
theorem seek_yes {f : Nat → Bool} : ∀ n k, seek f n k < n + k → f (seek f n k) = true
  | 0, k, h => by unfold seek at h; omega
  | n + 1, k, h => by
    by_cases hf : f k = true
    · have e : seek f (n + 1) k = k := by unfold seek; simp [hf]
      rw [e]; exact hf
    · have e1 : seek f (n + 1) k = seek f n (k + 1) := by rw [seek]; simp [hf]
      rw [e1] at h ⊢
      exact seek_yes n (k + 1) (by omega)
theorem seek_no {f : Nat → Bool} : ∀ n k j, k ≤ j → j < seek f n k → f j = false
  | 0, k, j, h1, h => by unfold seek at h; omega
  | n + 1, k, j, h1, h => by
    by_cases hf : f k = true
    · have e : seek f (n + 1) k = k := by unfold seek; simp [hf]
      omega
    · have e1 : seek f (n + 1) k = seek f n (k + 1) := by rw [seek]; simp [hf]
      rw [e1] at h
      rcases (by omega : j = k ∨ k + 1 ≤ j) with rfl | h2
      · simpa using hf
      · exact seek_no n (k + 1) j h2 h
/-- A wider limit, a wider band. -/
theorem band_wider (n d : Int) (h0 : 0 ≤ d) (hn : 0 ≤ n) : seek (bandF n d 1000) 5000 0 ≤ seek (bandF n d 2000) 5000 0 := by
  refine seek_mono (fun k h => ?_) _ _
  unfold bandF fitsM at *
  simp only [Bool.not_eq_true', decide_eq_false_iff_not] at *
  unfold nearM at *
  have a := rootM_nonneg (d * d + ((k : Int) + 1) * ((k : Int) + 1))
  have b := rootM_nonneg ((d + n) * (d + n) + ((k : Int) + 1) * ((k : Int) + 1))
  have c := Int.mul_nonneg a b
  simp only [Int.mul_assoc] at *
  generalize rootM (d * d + ((k : Int) + 1) * ((k : Int) + 1)) * rootM ((d + n) * (d + n) + ((k : Int) + 1) * ((k : Int) + 1)) = z at *
  omega
/-- The least rear light is just enough. -/
theorem least_facts {x1 y1 x2 y2 lo hi p q eye : Int} (ha : askM x1 y1 x2 y2 lo hi p q eye = 0) (h : leastK x1 y1 x2 y2 lo p q eye < leastN lo) :
    aboveM x1 y1 x2 y2 lo p q eye (lo + 1 + leastK x1 y1 x2 y2 lo p q eye) = true ∧ (1 ≤ leastK x1 y1 x2 y2 lo p q eye → aboveM x1 y1 x2 y2 lo p q eye (lo + 1 + leastK x1 y1 x2 y2 lo p q eye - 1) = false) := by
  refine ⟨above_is _ (seek_yes _ _ (by simpa [leastK] using h)), fun h1 => ?_⟩
  have := above_is (x1 := x1) (y1 := y1) (x2 := x2) (y2 := y2) (lo := lo) (p := p) (q := q) (eye := eye) (leastK x1 y1 x2 y2 lo p q eye - 1) (seek_no (f := leastF x1 y1 x2 y2 lo p q eye) (leastN lo) 0 _ (Nat.zero_le _) (by unfold leastK at *; omega))
  rw [show lo + 1 + (leastK x1 y1 x2 y2 lo p q eye : Int) - 1 = lo + 1 + ((leastK x1 y1 x2 y2 lo p q eye - 1 : Nat) : Int) by omega]
  exact this
/-- A step of 50 or more moves; of D it moves at most D. -/
theorem step_bd {d b : Int} (h1 : 0 ≤ d) (h2 : d ≤ 4000) : (-4000 ≤ stepM d (sinM b) ∧ stepM d (sinM b) ≤ 4000) ∧ (-4000 ≤ stepM d (cosM b) ∧ stepM d (cosM b) ≤ 4000) := by
  have a1 := sinM_bd b
  have a2 := cosM_bd b
  have key : ∀ s : Int, -1000000 ≤ s → s ≤ 1000000 → -4000 ≤ stepM d s ∧ stepM d s ≤ 4000 := fun s s1 s2 => by
    have m1 := Int.mul_le_mul_of_nonneg_left s2 h1
    have m2 := Int.mul_le_mul_of_nonneg_left s1 h1
    have r := divR_mil (d * s)
    unfold stepM
    omega
  exact ⟨key _ a1.1 a1.2, key _ a2.1 a2.2⟩
theorem step_moves {d b : Int} (h1 : 50 ≤ d) : ¬ (stepM d (sinM b) = 0 ∧ stepM d (cosM b) = 0) := by
  intro ⟨e1, e2⟩
  have r1 := divR_mil (d * sinM b)
  have r2 := divR_mil (d * cosM b)
  unfold stepM at e1 e2
  rw [e1] at r1
  rw [e2] at r2
  have h := (sum_ok b).2
  have key : ∀ s : Int, -1000000 ≤ 2000000 * 0 - 2 * (d * s) → 2000000 * 0 - 2 * (d * s) ≤ 1000000 → s * s ≤ 100000000 := fun s s1 s2 => by
    rcases Int.le_total 0 s with h0 | h0
    · have : 50 * s ≤ d * s := Int.mul_le_mul_of_nonneg_right h1 h0
      have hs : s ≤ 10000 := by omega
      have := Int.mul_le_mul hs hs h0 (by omega)
      omega
    · have : d * s ≤ 50 * s := Int.mul_le_mul_of_nonpos_right h1 h0
      have hs : -s ≤ 10000 := by omega
      have := Int.mul_le_mul hs hs (by omega) (by omega)
      rw [Int.neg_mul_neg] at this
      omega
  have k1 := key _ r1.1 r1.2
  have k2 := key _ r2.1 r2.2
  omega
end Go.Proofs.Ytnikdafbnkedkaa
