/-
  Plain laws of numbers, no program in sight: the nearest quotient, the square root that is rounded down. Each under the conditions that it states.
-/
set_option linter.unusedVariables false
set_option maxRecDepth 100000
set_option linter.unusedSimpArgs false
namespace Go.Proofs.YtpnffdkkmibchaaGreatDoor

/-! ### The nearest quotient, halves away from nought -/
def divR (a b : Int) : Int :=
  if b < 0 then (if -a < 0 then -((-b - 2 * -a) / (2 * -b)) else (2 * -a + -b) / (2 * -b))
  else (if a < 0 then -((b - 2 * a) / (2 * b)) else (2 * a + b) / (2 * b))

theorem divR_neg (a B : Int) (ha : 0 ≤ a) (hB : 0 < B) : divR a (-B) = -((2 * a + B) / (2 * B)) := by
  unfold divR
  rw [if_pos (by omega)]
  by_cases h : a = 0
  · subst h
    rw [if_neg (by omega), Int.neg_neg]
    have e : (2 * 0 + B) / (2 * B) = 0 := Int.ediv_eq_zero_of_lt (by omega) (by omega)
    have e2 : (2 * -0 + B) / (2 * B) = 0 := Int.ediv_eq_zero_of_lt (by omega) (by omega)
    rw [e, e2]; rfl
  · rw [if_pos (by omega), Int.neg_neg]
    congr 2
    omega
theorem near (A B : Int) (hA : 0 ≤ A) (hB : 0 < B) : (2 * A + B) / (2 * B) = if B - A % B ≤ A % B then A / B + 1 else A / B := by
  have h1 := Int.mul_ediv_add_emod A B
  have h2 := Int.emod_nonneg A (by omega : B ≠ 0)
  have h3 := Int.emod_lt_of_pos A hB
  have e : 2 * A + B = (2 * (A % B) + B) + 2 * B * (A / B) := by
    rw [Int.mul_assoc]
    omega
  rw [e, Int.add_mul_ediv_left _ _ (by omega : 2 * B ≠ 0)]
  split
  · have e2 : 2 * (A % B) + B = (2 * (A % B) - B) + 2 * B * 1 := by omega
    rw [e2, Int.add_mul_ediv_left _ _ (by omega : 2 * B ≠ 0), Int.ediv_eq_zero_of_lt (by omega) (by omega)]
    omega
  · rw [Int.ediv_eq_zero_of_lt (by omega) (by omega)]
    omega
theorem near_up {A B : Int} (hA : 0 ≤ A) (hB : 0 < B) (h : B - A % B ≤ A % B) : A / B + 1 = (2 * A + B) / (2 * B) := by rw [near A B hA hB, if_pos h]
theorem near_down {A B : Int} (hA : 0 ≤ A) (hB : 0 < B) (h : A % B < B - A % B) : A / B = (2 * A + B) / (2 * B) := by rw [near A B hA hB, if_neg (by omega)]

/-! ### The square root, rounded down -/
def isq : Nat → Nat
  | 0 => 0
  | n + 1 => if (isq n + 1) * (isq n + 1) ≤ n + 1 then isq n + 1 else isq n
theorem isq_spec (n : Nat) : isq n * isq n ≤ n ∧ n < (isq n + 1) * (isq n + 1) := by
  induction n with
  | zero => simp [isq]
  | succ n ih =>
    simp only [isq]
    split
    · rename_i h
      refine ⟨h, ?_⟩
      have e : (isq n + 1 + 1) * (isq n + 1 + 1) = (isq n + 1) * (isq n + 1) + 2 * (isq n + 1) + 1 := by
        rw [Nat.add_mul (isq n + 1) 1, Nat.mul_add (isq n + 1) (isq n + 1) 1]; omega
      omega
    · rename_i h
      exact ⟨by omega, by omega⟩
def rootM (n : Int) : Int := (isq n.toNat : Int)
theorem rootM_nonneg (n : Int) : 0 ≤ rootM n := by unfold rootM; omega
theorem rootM_le (n : Int) (h : 0 ≤ n) : rootM n * rootM n ≤ n := by
  have := (isq_spec n.toNat).1
  unfold rootM
  have e : ((isq n.toNat : Nat) : Int) * (isq n.toNat : Nat) = ((isq n.toNat * isq n.toNat : Nat) : Int) := by rw [Int.natCast_mul]
  rw [e]; omega
theorem rootM_lt (n : Int) (h : 0 ≤ n) : n < (rootM n + 1) * (rootM n + 1) := by
  have := (isq_spec n.toNat).2
  unfold rootM
  have e : ((isq n.toNat : Nat) + 1 : Int) * ((isq n.toNat : Nat) + 1) = (((isq n.toNat + 1) * (isq n.toNat + 1) : Nat) : Int) := by rw [Int.natCast_mul]; rfl
  rw [e]; omega
theorem rootM_neg (n : Int) (h : n ≤ 0) : rootM n = 0 := by
  unfold rootM
  have : n.toNat = 0 := by omega
  rw [this]; rfl
theorem sq_mono {a b : Int} (h0 : 0 ≤ a) (h : a ≤ b) : a * a ≤ b * b := Int.mul_le_mul h h h0 (by omega)
theorem rootM_iff (m n : Int) (h : 1 ≤ m) : m * m ≤ n ↔ m ≤ rootM n := by
  have hm := sq_mono (a := 1) (b := m) (by omega) h
  by_cases hn : 0 ≤ n
  · constructor
    · intro h2
      rcases (by omega : (rootM n) < m ∨ m ≤ (rootM n)) with h3 | h3
      · have := rootM_lt n hn
        have := sq_mono (a := rootM n + 1) (b := m) (by have := rootM_nonneg n; omega) (by omega)
        omega
      · exact h3
    · intro h2
      have := rootM_le n hn
      have := sq_mono (a := m) (b := rootM n) (by omega) h2
      omega
  · rw [rootM_neg n (by omega)]
    omega
theorem rootM_max (n : Int) (h : n ≤ 9223372036854775807) : rootM n ≤ 3037000499 := by
  rcases (by omega : (rootM n) < 3037000500 ∨ 3037000500 ≤ (rootM n)) with h2 | h2
  · omega
  · have := (rootM_iff 3037000500 n (by omega)).2 h2
    omega
theorem rootM_mono {m n : Int} (h : m ≤ n) : rootM m ≤ rootM n := by
  rcases (by omega : 0 < (rootM m) ∨ (rootM m) ≤ 0) with h2 | h2
  · exact (rootM_iff _ _ (by omega)).1 (Int.le_trans ((rootM_iff _ m (by omega)).2 (Int.le_refl _)) h)
  · have := rootM_nonneg n; omega
theorem rootM_bd {n B : Int} (hB : 0 ≤ B) (h : n < (B + 1) * (B + 1)) : rootM n ≤ B := by
  rcases (by omega : B < (rootM n) ∨ (rootM n) ≤ B) with h2 | h2
  · have := (rootM_iff (B + 1) n (by omega)).2 (by omega); omega
  · exact h2
theorem rootM_pos {n : Int} (h : 1 ≤ n) : 1 ≤ rootM n := (rootM_iff 1 n (by omega)).1 (by omega)

/-! ### Products of bounded numbers -/
theorem mul_bd {x y B C : Int} (hx : -B ≤ x) (hx' : x ≤ B) (hy : -C ≤ y) (hy' : y ≤ C) : -(B * C) ≤ x * y ∧ x * y ≤ B * C := by
  have hB : 0 ≤ B := by omega
  have hC : 0 ≤ C := by omega
  have h : (x * y).natAbs ≤ (B * C).natAbs := by
    rw [Int.natAbs_mul, Int.natAbs_mul]
    exact Nat.mul_le_mul (by omega) (by omega)
  have h2 : 0 ≤ B * C := Int.mul_nonneg hB hC
  omega
theorem sq_bd {x B : Int} (hx : -B ≤ x) (hx' : x ≤ B) : 0 ≤ x * x ∧ x * x ≤ B * B := by
  have h := mul_bd hx hx' hx hx'
  refine ⟨?_, h.2⟩
  rcases Int.le_total 0 x with h0 | h0
  · exact Int.mul_nonneg h0 h0
  · exact Int.mul_nonneg_of_nonpos_of_nonpos h0 h0
end Go.Proofs.YtpnffdkkmibchaaGreatDoor
