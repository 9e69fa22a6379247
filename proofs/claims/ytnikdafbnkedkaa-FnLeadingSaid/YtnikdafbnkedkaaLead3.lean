/-
  Contracts of leading lines, on: steering, open lights, lights in line, one above the other, the least height: the program's and the reference's. Each under the conditions that it states.
-/
import Derived.Test.YtnikdafbnkedkaaLead2
import Derived.Test.YtnikdafbnkedkaaBear
set_option linter.unusedVariables false
set_option maxRecDepth 100000
set_option linter.unusedSimpArgs false
namespace Go.Proofs.Ytnikdafbnkedkaa
open Go.RowKit BigFrame


/-- The first k below n + k with f, or n + k. -/
def seek (f : Nat → Bool) : Nat → Nat → Nat
  | 0, k => k
  | n + 1, k => if f k = true then k else seek f n (k + 1)
theorem seek_hit {f : Nat → Bool} {N k : Nat} (h : k < N) (hf : f k = true) : seek f (N - k) k = k := by
  obtain ⟨m, hm⟩ : ∃ m, N - k = m + 1 := ⟨N - k - 1, by omega⟩
  rw [hm]; simp [seek, hf]
theorem seek_miss {f : Nat → Bool} {N k : Nat} (h : k < N) (hf : f k = false) : seek f (N - k) k = seek f (N - (k + 1)) (k + 1) := by
  obtain ⟨m, hm⟩ : ∃ m, N - k = m + 1 := ⟨N - k - 1, by omega⟩
  rw [hm, show N - (k + 1) = m by omega]; simp [seek, hf]
theorem seek_end {f : Nat → Bool} (N : Nat) : seek f (N - N) N = N := by rw [Nat.sub_self]; rfl
theorem seek_le (f : Nat → Bool) (n k : Nat) : seek f n k ≤ n + k := by
  induction n generalizing k with
  | zero => simp [seek]
  | succ n ih =>
    simp only [seek]
    split
    · omega
    · have := ih (k + 1); omega

theorem openC_ok {x1 y1 x2 y2 lo hi p q : Int} (h : openC x1 y1 x2 y2 lo hi p q = 0) : vLead x1 y1 x2 y2 lo hi = true ∧ vPoint p q = true ∧ ¬ (p = x1 ∧ q = y1) ∧ ¬ (p = x2 ∧ q = y2) := by
  unfold openC at h
  split at h
  · rename_i h1
    rw [Bool.and_eq_true] at h1
    split at h
    · omega
    · rename_i h2
      exact ⟨h1.1, h1.2, fun e => h2 (Or.inl e), fun e => h2 (Or.inr e)⟩
  · omega
theorem aheadN_at (x1 y1 x2 y2 : Int) : aheadN x1 y1 x2 y2 x1 y1 = 0 ∧ aheadN x1 y1 x2 y2 x2 y2 = -((x1 - x2) * (x1 - x2) + (y1 - y2) * (y1 - y2)) := by
  unfold aheadN
  have e : ∀ a b : Int, (a - b) * (b - a) = -((a - b) * (a - b)) := fun a b => by rw [← Int.mul_neg]; congr 1; omega
  rw [e, e]
  constructor
  · simp
  · omega
theorem ahead_at {x1 y1 x2 y2 p q : Int} (bn : ¬ (x1 = x2 ∧ y1 = y2)) (h : (p = x1 ∧ q = y1) ∨ (p = x2 ∧ q = y2)) : aheadM x1 y1 x2 y2 p q ≤ 0 := by
  have hd := distM_pos bn
  unfold aheadM
  apply divR_nonpos hd
  rcases h with ⟨rfl, rfl⟩ | ⟨rfl, rfl⟩
  · rw [(aheadN_at _ _ _ _).1]; omega
  · rw [(aheadN_at _ _ _ _).2]
    have sq : ∀ z : Int, 0 ≤ z * z := fun z => by
      rcases Int.le_total 0 z with h | h
      · exact Int.mul_nonneg h h
      · exact Int.mul_nonneg_of_nonpos_of_nonpos h h
    have := sq (x1 - p)
    have := sq (y1 - q)
    omega
theorem aheadM_bd {x1 y1 x2 y2 p q : Int} (b1 : 0 ≤ x1 ∧ x1 ≤ 200000) (b2 : 0 ≤ y1 ∧ y1 ≤ 200000) (b3 : 0 ≤ x2 ∧ x2 ≤ 200000) (b4 : 0 ≤ y2 ∧ y2 ≤ 200000) (b5 : 0 ≤ p ∧ p ≤ 200000) (b6 : 0 ≤ q ∧ q ≤ 200000) (bn : ¬ (x1 = x2 ∧ y1 = y2)) : -80000000001 ≤ aheadM x1 y1 x2 y2 p q ∧ aheadM x1 y1 x2 y2 p q ≤ 80000000001 := by
  have h := aheadN_bd b1 b2 b3 b4 b5 b6
  have := divR_bd (A := 80000000000) (distM_pos bn) h.1 h.2
  unfold aheadM; omega
theorem openM_bd {x1 y1 x2 y2 p q : Int} (b1 : 0 ≤ x1 ∧ x1 ≤ 200000) (b2 : 0 ≤ y1 ∧ y1 ≤ 200000) (b3 : 0 ≤ x2 ∧ x2 ≤ 200000) (b4 : 0 ≤ y2 ∧ y2 ≤ 200000) (b5 : 0 ≤ p ∧ p ≤ 200000) (b6 : 0 ≤ q ∧ q ≤ 200000) (e1 : ¬ (p = x1 ∧ q = y1)) (e2 : ¬ (p = x2 ∧ q = y2)) : -80000000000000001 ≤ openM x1 y1 x2 y2 p q ∧ openM x1 y1 x2 y2 p q ≤ 80000000000000001 := by
  have h := crossM_bd b5 b6 b1 b2 b3 b4
  have k := prod_bd (distM_pos e1) (distM_bd b5 b6 b1 b2).2 (distM_pos e2) (distM_bd b5 b6 b3 b4).2
  have := divR_bd (a := 1000000 * crossM p q x1 y1 x2 y2) (A := 80000000000000000) k.1 (by omega) (by omega)
  unfold openM; omega
def inLineM (x1 y1 x2 y2 lo hi p q lim : Int) : Bool := vLead x1 y1 x2 y2 lo hi && vPoint p q && inB lim 0 100000 && decide (0 < aheadM x1 y1 x2 y2 p q) && decide (max (openM x1 y1 x2 y2 p q) (-(openM x1 y1 x2 y2 p q)) ≤ lim)
theorem inLine_not {x1 y1 x2 y2 lo hi p q lim : Int} (h : ¬ openC x1 y1 x2 y2 lo hi p q = 0) : inLineM x1 y1 x2 y2 lo hi p q lim = false := by
  unfold inLineM
  cases hv : vLead x1 y1 x2 y2 lo hi
  · simp
  cases hp : vPoint p q
  · simp
  unfold openC at h
  rw [hv, hp] at h
  simp only [Bool.and_self, if_true] at h
  split at h
  · rename_i h2
    have := ahead_at (vLead_yes hv).bn h2
    rw [decide_eq_false (show ¬ 0 < aheadM x1 y1 x2 y2 p q by omega)]
    simp
  · exact absurd rfl h

theorem impl_gap (a b : Int) (w : World) (h1 : -4000000000000000000 ≤ a) (h2 : a ≤ 4000000000000000000) (h3 : -4000000000000000000 ≤ b) (h4 : b ≤ 4000000000000000000) : Calls Try.prog 130 #[.int .i64 a, .int .i64 b] w fun e w' => e = .returned (.int .i64 (max (a - b) (b - a))) ∧ w = w' := by
  go_enter Try.func130, Try.ntmps130
  go_wp2
  all_goals (go_ret; exact ⟨ret_int (by omega), rfl⟩)

theorem impl_InLine (x1 y1 x2 y2 lo hi p q lim : Int) (w : World) :
    Calls Try.prog 67 #[.agg #[.int .i64 x1, .int .i64 y1, .int .i64 x2, .int .i64 y2, .int .i64 lo, .int .i64 hi], .agg #[.int .i64 p, .int .i64 q], .int .i64 lim] w fun e w' => e = .returned (.bool (inLineM x1 y1 x2 y2 lo hi p q lim)) ∧ Below w.heap.size w w' := by
  by_cases hc : openC x1 y1 x2 y2 lo hi p q = 0
  · obtain ⟨hv, hp, e1, e2⟩ := openC_ok hc
    obtain ⟨b1, b2, b3, b4, bn, _, _, _⟩ := vLead_yes hv
    obtain ⟨b5, b6⟩ := vPoint_yes hp
    have k1 := openM_bd b1 b2 b3 b4 b5 b6 e1 e2
    have hC := Lib.hid hc
    have hV : Hid (openV x1 y1 x2 y2 lo hi p q = openM x1 y1 x2 y2 p q) := by apply Lib.hid; unfold openV; rw [hc]; simp
    have hO : ∀ w, Calls Try.prog 65 #[.agg #[.int .i64 x1, .int .i64 y1, .int .i64 x2, .int .i64 y2, .int .i64 lo, .int .i64 hi], .agg #[.int .i64 p, .int .i64 q]] w fun e w' => e = .returned (.tuple #[.int .i64 (openM x1 y1 x2 y2 p q), .int .i64 0]) ∧ Below w.heap.size w w' := fun w => by
      have := impl_OpenOf x1 y1 x2 y2 lo hi p q w
      rw [hV.out, hC.out] at this; exact this
    have hm : Hid (inLineM x1 y1 x2 y2 lo hi p q lim = (inB lim 0 100000 && (decide (0 < aheadM x1 y1 x2 y2 p q) && decide (max (openM x1 y1 x2 y2 p q) (-(openM x1 y1 x2 y2 p q)) ≤ lim)))) := by
      apply Lib.hid; unfold inLineM; rw [hv, hp]; simp [Bool.and_assoc]
    have E := Lib.hid bn
    clear hc hv hp e1 e2 bn
    rw [hm.out]
    go_enter Try.func67, Try.ntmps67
    go_wp2_with (first | (go_at_call 65; refine (hO _).mono ?_; rintro e w1 ⟨rfl, hb1⟩; have hB1 := bnext (w := w) (by go_grown) hb1; have hS1 := hB1.size; ((have hz1 : w.heap.size < w1.heap.size := by have := hb1.size; (try simp only [World.size_alloc, World.size_setCell, World.size_drew] at this); omega); (have hy1 : w.heap.size + 1 < w1.heap.size := by have := hb1.size; (try simp only [World.size_alloc, World.size_setCell, World.size_drew] at this); omega)); obtain ⟨hc1, hf1⟩ := bcell hb1; clear hb1) | (go_at_call 129; refine (impl_isOpen _ _).mono ?_; rintro e w' ⟨rfl, rfl⟩) | (go_at_call 128; refine (impl_ahead _ _ _ _ _ _ _ _ _ b1 b2 b3 b4 b5 b6 E.out).mono ?_; rintro e w1 ⟨rfl, hb1⟩; have hB1 := bnext (w := w) (by go_grown) hb1; have hS1 := hB1.size; ((have hz1 : w.heap.size < w1.heap.size := by have := hb1.size; (try simp only [World.size_alloc, World.size_setCell, World.size_drew] at this); omega); (have hy1 : w.heap.size + 1 < w1.heap.size := by have := hb1.size; (try simp only [World.size_alloc, World.size_setCell, World.size_drew] at this); omega)); obtain ⟨hc1, hf1⟩ := bcell hb1; clear hb1) | (go_at_call 130; refine (impl_gap _ _ _ (by omega) (by omega) (by omega) (by omega)).mono ?_; rintro e w' ⟨rfl, rfl⟩))
    all_goals (go_ret; exact ⟨ret_bool (by first | (simp [*]; done) | (simp [*]; omega)), by go_grown⟩)
  · have hm := Lib.hid (inLine_not (lim := lim) hc)
    have hb : (openC x1 y1 x2 y2 lo hi p q == 0) = false := beq_eq_false_iff_ne.2 hc
    have hC : ∃ c, openC x1 y1 x2 y2 lo hi p q = c := ⟨_, rfl⟩
    clear hc
    go_enter Try.func67, Try.ntmps67
    go_wp2_with (go_at_call 65; refine (impl_OpenOf _ _ _ _ _ _ _ _ _).mono ?_; rintro e w1 ⟨rfl, hb1⟩; have hB1 := bnext (w := w) (by go_grown) hb1; have hS1 := hB1.size; ((have hz1 : w.heap.size < w1.heap.size := by have := hb1.size; (try simp only [World.size_alloc, World.size_setCell, World.size_drew] at this); omega); (have hy1 : w.heap.size + 1 < w1.heap.size := by have := hb1.size; (try simp only [World.size_alloc, World.size_setCell, World.size_drew] at this); omega)); obtain ⟨hc1, hf1⟩ := bcell hb1; clear hb1)
    go_ret
    exact ⟨ret_bool hm.out.symm, by go_grown⟩

end Go.Proofs.Ytnikdafbnkedkaa
