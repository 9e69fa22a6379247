/-
  Contracts of leading lines, on: off the line, ahead, open, in line, above: the program's and the reference's. Each under the conditions that it states.
-/
import Derived.Test.YtnikdafbnkedkaaLeading
import Derived.Test.YtnikdafbnkedkaaAngle
set_option linter.unusedVariables false
set_option maxRecDepth 100000
set_option linter.unusedSimpArgs false
namespace Go.Proofs.Ytnikdafbnkedkaa
open Go.RowKit BigFrame

def okC (b : Bool) : Int := if b then 0 else 1
theorem okC_yes {b : Bool} (h : b = true) : okC b = 0 := by rw [h]; rfl
theorem okC_no {b : Bool} (h : b = false) : okC b = 1 := by rw [h]; rfl
theorem divR_lt {a b : Int} (hb : 1 ≤ b) (h : a < 0) : divR a b = -((b - 2 * a) / (2 * b)) := by
  unfold divR; rw [if_neg (by omega), if_pos h]
theorem divR_ge {a b : Int} (hb : 1 ≤ b) (h : ¬ a < 0) : divR a b = (2 * a + b) / (2 * b) := by
  unfold divR; rw [if_neg (by omega), if_neg h]
theorem divR_bd {a b A : Int} (hb : 1 ≤ b) (h1 : -A ≤ a) (h2 : a ≤ A) : -A - 1 ≤ divR a b ∧ divR a b ≤ A + 1 := by
  by_cases h : a < 0
  · rw [divR_lt hb h]
    have k1 := Int.ediv_nonneg (show 0 ≤ b - 2 * a by omega) (show 0 ≤ 2 * b by omega)
    have k2 : (b - 2 * a) / (2 * b) ≤ -a + 1 := by
      apply Int.ediv_le_of_le_mul (by omega)
      have := Int.mul_le_mul_of_nonneg_left hb (show 0 ≤ -a by omega)
      have e : (-a + 1) * (2 * b) = 2 * (-a * b) + 2 * b := by rw [Int.add_mul, Int.mul_left_comm]; omega
      omega
    omega
  · rw [divR_ge hb h]
    have k1 := Int.ediv_nonneg (show 0 ≤ 2 * a + b by omega) (show 0 ≤ 2 * b by omega)
    have k2 : (2 * a + b) / (2 * b) ≤ a + 1 := by
      apply Int.ediv_le_of_le_mul (by omega)
      have := Int.mul_le_mul_of_nonneg_left hb (show 0 ≤ a by omega)
      have e : (a + 1) * (2 * b) = 2 * (a * b) + 2 * b := by rw [Int.add_mul, Int.mul_left_comm]; omega
      omega
    omega
theorem divR_nonpos {a b : Int} (hb : 1 ≤ b) (h : a ≤ 0) : divR a b ≤ 0 := by
  by_cases h1 : a < 0
  · rw [divR_lt hb h1]
    have k1 := Int.ediv_nonneg (show 0 ≤ b - 2 * a by omega) (show 0 ≤ 2 * b by omega); omega
  · rw [divR_ge hb h1, Int.ediv_eq_zero_of_lt (by omega) (by omega)]; omega
theorem divR_nonneg {a b : Int} (hb : 1 ≤ b) (h : 0 ≤ a) : 0 ≤ divR a b := by
  rw [divR_ge hb (by omega)]
  exact Int.ediv_nonneg (by omega) (by omega)

def offV (x1 y1 x2 y2 lo hi p q : Int) : Int := if vLead x1 y1 x2 y2 lo hi && vPoint p q then divR (crossM x1 y1 x2 y2 p q) (distM x1 y1 x2 y2) else 0
def aheadN (x1 y1 x2 y2 p q : Int) : Int := (x1 - x2) * (p - x1) + (y1 - y2) * (q - y1)
def aheadM (x1 y1 x2 y2 p q : Int) : Int := divR (aheadN x1 y1 x2 y2 p q) (distM x1 y1 x2 y2)
def aheadV (x1 y1 x2 y2 lo hi p q : Int) : Int := if vLead x1 y1 x2 y2 lo hi && vPoint p q then aheadM x1 y1 x2 y2 p q else 0
theorem aheadN_bd {x1 y1 x2 y2 p q : Int} (h1 : 0 ≤ x1 ∧ x1 ≤ 200000) (h2 : 0 ≤ y1 ∧ y1 ≤ 200000) (h3 : 0 ≤ x2 ∧ x2 ≤ 200000) (h4 : 0 ≤ y2 ∧ y2 ≤ 200000) (h5 : 0 ≤ p ∧ p ≤ 200000) (h6 : 0 ≤ q ∧ q ≤ 200000) :
    -80000000000 ≤ aheadN x1 y1 x2 y2 p q ∧ aheadN x1 y1 x2 y2 p q ≤ 80000000000 := by
  have k1 := mul_bd (x := x1 - x2) (y := p - x1) (B := 200000) (C := 200000) (by omega) (by omega) (by omega) (by omega)
  have k2 := mul_bd (x := y1 - y2) (y := q - y1) (B := 200000) (C := 200000) (by omega) (by omega) (by omega) (by omega)
  unfold aheadN; omega

theorem impl_OffLine (x1 y1 x2 y2 lo hi p q : Int) (w : World) :
    Calls Try.prog 64 #[.agg #[.int .i64 x1, .int .i64 y1, .int .i64 x2, .int .i64 y2, .int .i64 lo, .int .i64 hi], .agg #[.int .i64 p, .int .i64 q]] w fun e w' => e = .returned (.tuple #[.int .i64 (offV x1 y1 x2 y2 lo hi p q), .int .i64 (okC (vLead x1 y1 x2 y2 lo hi && vPoint p q))]) ∧ Below w.heap.size w w' := by
  unfold offV okC
  cases hv : vLead x1 y1 x2 y2 lo hi
  · go_enter Try.func64, Try.ntmps64
    go_wp2_with (go_at_call 125; refine (impl_ValidLeading _ _ _ _ _ _ _).mono ?_; rintro e w1 ⟨rfl, hb1⟩; have hB1 := bnext (w := w) (by go_grown) hb1; have hS1 := hB1.size; ((have hz1 : w.heap.size < w1.heap.size := by have := hb1.size; (try simp only [World.size_alloc, World.size_setCell, World.size_drew] at this); omega); (have hy1 : w.heap.size + 1 < w1.heap.size := by have := hb1.size; (try simp only [World.size_alloc, World.size_setCell, World.size_drew] at this); omega)); obtain ⟨hc1, hf1⟩ := bcell hb1; clear hb1)
    go_ret2
    exact ⟨ret_ii (by simp) (by simp), by go_grown⟩
  cases hp : vPoint p q
  · go_enter Try.func64, Try.ntmps64
    go_wp2_with (first | (go_at_call 125; refine (impl_ValidLeading _ _ _ _ _ _ _).mono ?_; rintro e w1 ⟨rfl, hb1⟩; have hB1 := bnext (w := w) (by go_grown) hb1; have hS1 := hB1.size; ((have hz1 : w.heap.size < w1.heap.size := by have := hb1.size; (try simp only [World.size_alloc, World.size_setCell, World.size_drew] at this); omega); (have hy1 : w.heap.size + 1 < w1.heap.size := by have := hb1.size; (try simp only [World.size_alloc, World.size_setCell, World.size_drew] at this); omega)); obtain ⟨hc1, hf1⟩ := bcell hb1; clear hb1) | (go_at_call 79; refine (impl_ValidPoint _ _ _).mono ?_; rintro e w1 ⟨rfl, hb1⟩; have hB1 := bnext (w := w) (by go_grown) hb1; have hS1 := hB1.size; ((have hz1 : w.heap.size < w1.heap.size := by have := hb1.size; (try simp only [World.size_alloc, World.size_setCell, World.size_drew] at this); omega); (have hy1 : w.heap.size + 1 < w1.heap.size := by have := hb1.size; (try simp only [World.size_alloc, World.size_setCell, World.size_drew] at this); omega)); obtain ⟨hc1, hf1⟩ := bcell hb1; clear hb1))
    go_ret2
    exact ⟨ret_ii (by simp) (by simp), by go_grown⟩
  obtain ⟨b1, b2, b3, b4, bn, _, _, _⟩ := vLead_yes hv
  obtain ⟨b5, b6⟩ := vPoint_yes hp
  have k1 := crossM_bd b1 b2 b3 b4 b5 b6
  have k2 := distM_bd b1 b2 b3 b4
  have k3 := distM_pos bn
  go_enter Try.func64, Try.ntmps64
  go_wp2_with (first | (go_at_call 125; refine (impl_ValidLeading _ _ _ _ _ _ _).mono ?_; rintro e w1 ⟨rfl, hb1⟩; have hB1 := bnext (w := w) (by go_grown) hb1; have hS1 := hB1.size; ((have hz1 : w.heap.size < w1.heap.size := by have := hb1.size; (try simp only [World.size_alloc, World.size_setCell, World.size_drew] at this); omega); (have hy1 : w.heap.size + 1 < w1.heap.size := by have := hb1.size; (try simp only [World.size_alloc, World.size_setCell, World.size_drew] at this); omega)); obtain ⟨hc1, hf1⟩ := bcell hb1; clear hb1) | (go_at_call 79; refine (impl_ValidPoint _ _ _).mono ?_; rintro e w1 ⟨rfl, hb1⟩; have hB1 := bnext (w := w) (by go_grown) hb1; have hS1 := hB1.size; ((have hz1 : w.heap.size < w1.heap.size := by have := hb1.size; (try simp only [World.size_alloc, World.size_setCell, World.size_drew] at this); omega); (have hy1 : w.heap.size + 1 < w1.heap.size := by have := hb1.size; (try simp only [World.size_alloc, World.size_setCell, World.size_drew] at this); omega)); obtain ⟨hc1, hf1⟩ := bcell hb1; clear hb1))
  refine wp_region_grew (by kernel_rfl) (by kernel_rfl) ?_
  repeat (first | (go_big_quiet_step ((first | (go_at_call 127; exact grew_of (impl_cross _ _ _ _ _ _ _ b1 b2 b3 b4 b5 b6)) | (go_at_call 109; exact grew_of (impl_Distance _ _ _ _ _ b1 b2 b3 b4)) | (go_at_call 126; exact grew_same (impl_divRound _ _ _ (by omega) (by omega) (by omega) (by omega) (by omega)))))) | (quiet_step ((first | (go_at_call 127; exact grew_of (impl_cross _ _ _ _ _ _ _ b1 b2 b3 b4 b5 b6)) | (go_at_call 109; exact grew_of (impl_Distance _ _ _ _ _ b1 b2 b3 b4)) | (go_at_call 126; exact grew_same (impl_divRound _ _ _ (by omega) (by omega) (by omega) (by omega) (by omega)))))))
  refine wpQuiet_nil ?_
  rintro _ ⟨⟨w9, hb9⟩, rfl⟩
  try dsimp only
  obtain ⟨hc9, hf9⟩ := bcell hb9
  go_wp2
  go_ret2
  exact ⟨ret_ii (by simp) (by simp), bnext (by go_grown) hb9⟩

theorem impl_ahead (x1 y1 x2 y2 lo hi p q : Int) (w : World) (b1 : 0 ≤ x1 ∧ x1 ≤ 200000) (b2 : 0 ≤ y1 ∧ y1 ≤ 200000) (b3 : 0 ≤ x2 ∧ x2 ≤ 200000) (b4 : 0 ≤ y2 ∧ y2 ≤ 200000) (b5 : 0 ≤ p ∧ p ≤ 200000) (b6 : 0 ≤ q ∧ q ≤ 200000) (bn : ¬ (x1 = x2 ∧ y1 = y2)) :
    Calls Try.prog 128 #[.agg #[.int .i64 x1, .int .i64 y1, .int .i64 x2, .int .i64 y2, .int .i64 lo, .int .i64 hi], .agg #[.int .i64 p, .int .i64 q]] w fun e w' => e = .returned (.int .i64 (aheadM x1 y1 x2 y2 p q)) ∧ Below w.heap.size w w' := by
  have e1 := mul_bd (x := x1 - x2) (y := p - x1) (B := 200000) (C := 200000) (by omega) (by omega) (by omega) (by omega)
  have e2 := mul_bd (x := y1 - y2) (y := q - y1) (B := 200000) (C := 200000) (by omega) (by omega) (by omega) (by omega)
  have k2 := distM_bd b1 b2 b3 b4
  have k3 := distM_pos bn
  go_enter Try.func128, Try.ntmps128
  go_wp2_with (first | (go_at_call 109; refine (impl_Distance _ _ _ _ _ b1 b2 b3 b4).mono ?_; rintro e w1 ⟨rfl, hb1⟩; have hB1 := bnext (w := w) (by go_grown) hb1; have hS1 := hB1.size; ((have hz1 : w.heap.size < w1.heap.size := by have := hb1.size; (try simp only [World.size_alloc, World.size_setCell, World.size_drew] at this); omega); (have hy1 : w.heap.size + 1 < w1.heap.size := by have := hb1.size; (try simp only [World.size_alloc, World.size_setCell, World.size_drew] at this); omega)); obtain ⟨hc1, hf1⟩ := bcell hb1; clear hb1) | (go_at_call 126; refine (impl_divRound _ _ _ (by omega) (by omega) (by omega) (by omega) (by omega)).mono ?_; rintro e w' ⟨rfl, rfl⟩))
  go_ret
  exact ⟨rfl, by go_grown⟩

theorem impl_AheadOf (x1 y1 x2 y2 lo hi p q : Int) (w : World) :
    Calls Try.prog 66 #[.agg #[.int .i64 x1, .int .i64 y1, .int .i64 x2, .int .i64 y2, .int .i64 lo, .int .i64 hi], .agg #[.int .i64 p, .int .i64 q]] w fun e w' => e = .returned (.tuple #[.int .i64 (aheadV x1 y1 x2 y2 lo hi p q), .int .i64 (okC (vLead x1 y1 x2 y2 lo hi && vPoint p q))]) ∧ Below w.heap.size w w' := by
  unfold aheadV okC
  cases hv : vLead x1 y1 x2 y2 lo hi
  · go_enter Try.func66, Try.ntmps66
    go_wp2_with (go_at_call 125; refine (impl_ValidLeading _ _ _ _ _ _ _).mono ?_; rintro e w1 ⟨rfl, hb1⟩; have hB1 := bnext (w := w) (by go_grown) hb1; have hS1 := hB1.size; ((have hz1 : w.heap.size < w1.heap.size := by have := hb1.size; (try simp only [World.size_alloc, World.size_setCell, World.size_drew] at this); omega); (have hy1 : w.heap.size + 1 < w1.heap.size := by have := hb1.size; (try simp only [World.size_alloc, World.size_setCell, World.size_drew] at this); omega)); obtain ⟨hc1, hf1⟩ := bcell hb1; clear hb1)
    go_ret2
    exact ⟨ret_ii (by simp) (by simp), by go_grown⟩
  cases hp : vPoint p q
  · go_enter Try.func66, Try.ntmps66
    go_wp2_with (first | (go_at_call 125; refine (impl_ValidLeading _ _ _ _ _ _ _).mono ?_; rintro e w1 ⟨rfl, hb1⟩; have hB1 := bnext (w := w) (by go_grown) hb1; have hS1 := hB1.size; ((have hz1 : w.heap.size < w1.heap.size := by have := hb1.size; (try simp only [World.size_alloc, World.size_setCell, World.size_drew] at this); omega); (have hy1 : w.heap.size + 1 < w1.heap.size := by have := hb1.size; (try simp only [World.size_alloc, World.size_setCell, World.size_drew] at this); omega)); obtain ⟨hc1, hf1⟩ := bcell hb1; clear hb1) | (go_at_call 79; refine (impl_ValidPoint _ _ _).mono ?_; rintro e w1 ⟨rfl, hb1⟩; have hB1 := bnext (w := w) (by go_grown) hb1; have hS1 := hB1.size; ((have hz1 : w.heap.size < w1.heap.size := by have := hb1.size; (try simp only [World.size_alloc, World.size_setCell, World.size_drew] at this); omega); (have hy1 : w.heap.size + 1 < w1.heap.size := by have := hb1.size; (try simp only [World.size_alloc, World.size_setCell, World.size_drew] at this); omega)); obtain ⟨hc1, hf1⟩ := bcell hb1; clear hb1))
    go_ret2
    exact ⟨ret_ii (by simp) (by simp), by go_grown⟩
  obtain ⟨b1, b2, b3, b4, bn, _, _, _⟩ := vLead_yes hv
  obtain ⟨b5, b6⟩ := vPoint_yes hp
  go_enter Try.func66, Try.ntmps66
  go_wp2_with (first | (go_at_call 125; refine (impl_ValidLeading _ _ _ _ _ _ _).mono ?_; rintro e w1 ⟨rfl, hb1⟩; have hB1 := bnext (w := w) (by go_grown) hb1; have hS1 := hB1.size; ((have hz1 : w.heap.size < w1.heap.size := by have := hb1.size; (try simp only [World.size_alloc, World.size_setCell, World.size_drew] at this); omega); (have hy1 : w.heap.size + 1 < w1.heap.size := by have := hb1.size; (try simp only [World.size_alloc, World.size_setCell, World.size_drew] at this); omega)); obtain ⟨hc1, hf1⟩ := bcell hb1; clear hb1) | (go_at_call 79; refine (impl_ValidPoint _ _ _).mono ?_; rintro e w1 ⟨rfl, hb1⟩; have hB1 := bnext (w := w) (by go_grown) hb1; have hS1 := hB1.size; ((have hz1 : w.heap.size < w1.heap.size := by have := hb1.size; (try simp only [World.size_alloc, World.size_setCell, World.size_drew] at this); omega); (have hy1 : w.heap.size + 1 < w1.heap.size := by have := hb1.size; (try simp only [World.size_alloc, World.size_setCell, World.size_drew] at this); omega)); obtain ⟨hc1, hf1⟩ := bcell hb1; clear hb1) | (go_at_call 128; refine (impl_ahead _ _ _ _ _ _ _ _ _ b1 b2 b3 b4 b5 b6 bn).mono ?_; rintro e w1 ⟨rfl, hb1⟩; have hB1 := bnext (w := w) (by go_grown) hb1; have hS1 := hB1.size; (skip); obtain ⟨hc1, hf1⟩ := bcell hb1; clear hb1))
  go_ret2
  exact ⟨ret_ii (by simp) (by simp), by go_grown⟩

def openM (x1 y1 x2 y2 p q : Int) : Int := divR (1000000 * crossM p q x1 y1 x2 y2) (distM p q x1 y1 * distM p q x2 y2)
/-- 0: seen; 1: not valid; 6: at one of the lights. -/
def openC (x1 y1 x2 y2 lo hi p q : Int) : Int := if vLead x1 y1 x2 y2 lo hi && vPoint p q then (if (p = x1 ∧ q = y1) ∨ (p = x2 ∧ q = y2) then 6 else 0) else 1
def openV (x1 y1 x2 y2 lo hi p q : Int) : Int := if openC x1 y1 x2 y2 lo hi p q = 0 then openM x1 y1 x2 y2 p q else 0
theorem prod_bd {a b : Int} (h1 : 1 ≤ a) (h2 : a ≤ 282842) (h3 : 1 ≤ b) (h4 : b ≤ 282842) : 1 ≤ a * b ∧ a * b ≤ 80000000000 := by
  have k := Int.mul_le_mul h2 h4 (by omega) (by omega)
  have l := Int.mul_le_mul h1 h3 (by omega) (by omega)
  omega
set_option maxHeartbeats 1600000 in
theorem impl_OpenOf (x1 y1 x2 y2 lo hi p q : Int) (w : World) :
    Calls Try.prog 65 #[.agg #[.int .i64 x1, .int .i64 y1, .int .i64 x2, .int .i64 y2, .int .i64 lo, .int .i64 hi], .agg #[.int .i64 p, .int .i64 q]] w fun e w' => e = .returned (.tuple #[.int .i64 (openV x1 y1 x2 y2 lo hi p q), .int .i64 (openC x1 y1 x2 y2 lo hi p q)]) ∧ Below w.heap.size w w' := by
  cases hv : vLead x1 y1 x2 y2 lo hi
  · have hC : Hid (openC x1 y1 x2 y2 lo hi p q = 1) := by apply Lib.hid; unfold openC; simp [hv]
    have hV : Hid (openV x1 y1 x2 y2 lo hi p q = 0) := by apply Lib.hid; unfold openV; rw [hC.out]; simp
    go_enter Try.func65, Try.ntmps65
    go_wp2_with (go_at_call 125; refine (impl_ValidLeading _ _ _ _ _ _ _).mono ?_; rintro e w1 ⟨rfl, hb1⟩; have hB1 := bnext (w := w) (by go_grown) hb1; have hS1 := hB1.size; ((have hz1 : w.heap.size < w1.heap.size := by have := hb1.size; (try simp only [World.size_alloc, World.size_setCell, World.size_drew] at this); omega); (have hy1 : w.heap.size + 1 < w1.heap.size := by have := hb1.size; (try simp only [World.size_alloc, World.size_setCell, World.size_drew] at this); omega)); obtain ⟨hc1, hf1⟩ := bcell hb1; clear hb1)
    go_ret2
    exact ⟨ret_ii hV.out.symm hC.out.symm, by go_grown⟩
  cases hp : vPoint p q
  · have hC : Hid (openC x1 y1 x2 y2 lo hi p q = 1) := by apply Lib.hid; unfold openC; simp [hp]
    have hV : Hid (openV x1 y1 x2 y2 lo hi p q = 0) := by apply Lib.hid; unfold openV; rw [hC.out]; simp
    go_enter Try.func65, Try.ntmps65
    go_wp2_with (first | (go_at_call 125; refine (impl_ValidLeading _ _ _ _ _ _ _).mono ?_; rintro e w1 ⟨rfl, hb1⟩; have hB1 := bnext (w := w) (by go_grown) hb1; have hS1 := hB1.size; ((have hz1 : w.heap.size < w1.heap.size := by have := hb1.size; (try simp only [World.size_alloc, World.size_setCell, World.size_drew] at this); omega); (have hy1 : w.heap.size + 1 < w1.heap.size := by have := hb1.size; (try simp only [World.size_alloc, World.size_setCell, World.size_drew] at this); omega)); obtain ⟨hc1, hf1⟩ := bcell hb1; clear hb1) | (go_at_call 79; refine (impl_ValidPoint _ _ _).mono ?_; rintro e w1 ⟨rfl, hb1⟩; have hB1 := bnext (w := w) (by go_grown) hb1; have hS1 := hB1.size; ((have hz1 : w.heap.size < w1.heap.size := by have := hb1.size; (try simp only [World.size_alloc, World.size_setCell, World.size_drew] at this); omega); (have hy1 : w.heap.size + 1 < w1.heap.size := by have := hb1.size; (try simp only [World.size_alloc, World.size_setCell, World.size_drew] at this); omega)); obtain ⟨hc1, hf1⟩ := bcell hb1; clear hb1))
    go_ret2
    exact ⟨ret_ii hV.out.symm hC.out.symm, by go_grown⟩
  by_cases e1 : p = x1 ∧ q = y1
  · have hC : Hid (openC x1 y1 x2 y2 lo hi p q = 6) := by apply Lib.hid; unfold openC; rw [if_pos (by simp [hv, hp]), if_pos (Or.inl e1)]
    have hV : Hid (openV x1 y1 x2 y2 lo hi p q = 0) := by apply Lib.hid; unfold openV; rw [hC.out]; simp
    obtain ⟨rfl, rfl⟩ := e1
    go_enter Try.func65, Try.ntmps65
    go_wp2_with (first | (go_at_call 125; refine (impl_ValidLeading _ _ _ _ _ _ _).mono ?_; rintro e w1 ⟨rfl, hb1⟩; have hB1 := bnext (w := w) (by go_grown) hb1; have hS1 := hB1.size; ((have hz1 : w.heap.size < w1.heap.size := by have := hb1.size; (try simp only [World.size_alloc, World.size_setCell, World.size_drew] at this); omega); (have hy1 : w.heap.size + 1 < w1.heap.size := by have := hb1.size; (try simp only [World.size_alloc, World.size_setCell, World.size_drew] at this); omega)); obtain ⟨hc1, hf1⟩ := bcell hb1; clear hb1) | (go_at_call 79; refine (impl_ValidPoint _ _ _).mono ?_; rintro e w1 ⟨rfl, hb1⟩; have hB1 := bnext (w := w) (by go_grown) hb1; have hS1 := hB1.size; ((have hz1 : w.heap.size < w1.heap.size := by have := hb1.size; (try simp only [World.size_alloc, World.size_setCell, World.size_drew] at this); omega); (have hy1 : w.heap.size + 1 < w1.heap.size := by have := hb1.size; (try simp only [World.size_alloc, World.size_setCell, World.size_drew] at this); omega)); obtain ⟨hc1, hf1⟩ := bcell hb1; clear hb1))
    go_ret2
    exact ⟨ret_ii hV.out.symm hC.out.symm, by go_grown⟩
  by_cases e2 : p = x2 ∧ q = y2
  · have hC : Hid (openC x1 y1 x2 y2 lo hi p q = 6) := by apply Lib.hid; unfold openC; rw [if_pos (by simp [hv, hp]), if_pos (Or.inr e2)]
    have hV : Hid (openV x1 y1 x2 y2 lo hi p q = 0) := by apply Lib.hid; unfold openV; rw [hC.out]; simp
    obtain ⟨rfl, rfl⟩ := e2
    go_enter Try.func65, Try.ntmps65
    go_wp2_with (first | (go_at_call 125; refine (impl_ValidLeading _ _ _ _ _ _ _).mono ?_; rintro e w1 ⟨rfl, hb1⟩; have hB1 := bnext (w := w) (by go_grown) hb1; have hS1 := hB1.size; ((have hz1 : w.heap.size < w1.heap.size := by have := hb1.size; (try simp only [World.size_alloc, World.size_setCell, World.size_drew] at this); omega); (have hy1 : w.heap.size + 1 < w1.heap.size := by have := hb1.size; (try simp only [World.size_alloc, World.size_setCell, World.size_drew] at this); omega)); obtain ⟨hc1, hf1⟩ := bcell hb1; clear hb1) | (go_at_call 79; refine (impl_ValidPoint _ _ _).mono ?_; rintro e w1 ⟨rfl, hb1⟩; have hB1 := bnext (w := w) (by go_grown) hb1; have hS1 := hB1.size; ((have hz1 : w.heap.size < w1.heap.size := by have := hb1.size; (try simp only [World.size_alloc, World.size_setCell, World.size_drew] at this); omega); (have hy1 : w.heap.size + 1 < w1.heap.size := by have := hb1.size; (try simp only [World.size_alloc, World.size_setCell, World.size_drew] at this); omega)); obtain ⟨hc1, hf1⟩ := bcell hb1; clear hb1))
    all_goals (go_ret2
               exact ⟨ret_ii hV.out.symm hC.out.symm, by go_grown⟩)
  have hC : Hid (openC x1 y1 x2 y2 lo hi p q = 0) := by apply Lib.hid; unfold openC; simp [hv, hp, e1, e2]
  have hV : Hid (openV x1 y1 x2 y2 lo hi p q = openM x1 y1 x2 y2 p q) := by apply Lib.hid; unfold openV; rw [hC.out]; simp
  obtain ⟨b1, b2, b3, b4, bn, _, _, _⟩ := vLead_yes hv
  obtain ⟨b5, b6⟩ := vPoint_yes hp
  have k1 := crossM_bd b5 b6 b1 b2 b3 b4
  have k2 := distM_bd b5 b6 b1 b2
  have k3 := distM_pos e1
  have k4 := distM_bd b5 b6 b3 b4
  have k5 := distM_pos e2
  have k6 := prod_bd k3 k2.2 k5 k4.2
  have hne1 : ¬ p = x1 ∨ (p = x1 ∧ ¬ q = y1) := by omega
  have hne2 : ¬ p = x2 ∨ (p = x2 ∧ ¬ q = y2) := by omega
  clear e1 e2 k3 k5
  rcases hne1 with e | ⟨rfl, e⟩
  · have g1 : (p == x1) = false := beq_eq_false_iff_ne.2 e
    clear e
    rcases hne2 with e | ⟨rfl, e⟩
    · have g2 : (p == x2) = false := beq_eq_false_iff_ne.2 e
      clear e
      go_enter Try.func65, Try.ntmps65
      go_wp2_with (first | (go_at_call 125; refine (impl_ValidLeading _ _ _ _ _ _ _).mono ?_; rintro e w1 ⟨rfl, hb1⟩; have hB1 := bnext (w := w) (by go_grown) hb1; have hS1 := hB1.size; ((have hz1 : w.heap.size < w1.heap.size := by have := hb1.size; (try simp only [World.size_alloc, World.size_setCell, World.size_drew] at this); omega); (have hy1 : w.heap.size + 1 < w1.heap.size := by have := hb1.size; (try simp only [World.size_alloc, World.size_setCell, World.size_drew] at this); omega)); obtain ⟨hc1, hf1⟩ := bcell hb1; clear hb1) | (go_at_call 79; refine (impl_ValidPoint _ _ _).mono ?_; rintro e w1 ⟨rfl, hb1⟩; have hB1 := bnext (w := w) (by go_grown) hb1; have hS1 := hB1.size; ((have hz1 : w.heap.size < w1.heap.size := by have := hb1.size; (try simp only [World.size_alloc, World.size_setCell, World.size_drew] at this); omega); (have hy1 : w.heap.size + 1 < w1.heap.size := by have := hb1.size; (try simp only [World.size_alloc, World.size_setCell, World.size_drew] at this); omega)); obtain ⟨hc1, hf1⟩ := bcell hb1; clear hb1))
      refine wp_region_grew (by kernel_rfl) (by kernel_rfl) ?_
      repeat (first | (go_big_quiet_step ((first | (go_at_call 127; exact grew_of (impl_cross _ _ _ _ _ _ _ b5 b6 b1 b2 b3 b4)) | (go_at_call 109; exact grew_of (impl_Distance _ _ _ _ _ b5 b6 b1 b2)) | (go_at_call 109; exact grew_of (impl_Distance _ _ _ _ _ b5 b6 b3 b4)) | (go_at_call 126; exact grew_same (impl_divRound _ _ _ (by omega) (by omega) (by omega) (by omega) (by omega)))))) | (quiet_step ((first | (go_at_call 127; exact grew_of (impl_cross _ _ _ _ _ _ _ b5 b6 b1 b2 b3 b4)) | (go_at_call 109; exact grew_of (impl_Distance _ _ _ _ _ b5 b6 b1 b2)) | (go_at_call 109; exact grew_of (impl_Distance _ _ _ _ _ b5 b6 b3 b4)) | (go_at_call 126; exact grew_same (impl_divRound _ _ _ (by omega) (by omega) (by omega) (by omega) (by omega)))))))
      refine wpQuiet_nil ?_
      rintro _ ⟨⟨w9, hb9⟩, rfl⟩
      try dsimp only
      obtain ⟨hc9, hf9⟩ := bcell hb9
      go_wp2
      go_ret2
      exact ⟨ret_ii hV.out.symm hC.out.symm, bnext (by go_grown) hb9⟩
    · have g2 : (q == y2) = false := beq_eq_false_iff_ne.2 e
      clear e
      go_enter Try.func65, Try.ntmps65
      go_wp2_with (first | (go_at_call 125; refine (impl_ValidLeading _ _ _ _ _ _ _).mono ?_; rintro e w1 ⟨rfl, hb1⟩; have hB1 := bnext (w := w) (by go_grown) hb1; have hS1 := hB1.size; ((have hz1 : w.heap.size < w1.heap.size := by have := hb1.size; (try simp only [World.size_alloc, World.size_setCell, World.size_drew] at this); omega); (have hy1 : w.heap.size + 1 < w1.heap.size := by have := hb1.size; (try simp only [World.size_alloc, World.size_setCell, World.size_drew] at this); omega)); obtain ⟨hc1, hf1⟩ := bcell hb1; clear hb1) | (go_at_call 79; refine (impl_ValidPoint _ _ _).mono ?_; rintro e w1 ⟨rfl, hb1⟩; have hB1 := bnext (w := w) (by go_grown) hb1; have hS1 := hB1.size; ((have hz1 : w.heap.size < w1.heap.size := by have := hb1.size; (try simp only [World.size_alloc, World.size_setCell, World.size_drew] at this); omega); (have hy1 : w.heap.size + 1 < w1.heap.size := by have := hb1.size; (try simp only [World.size_alloc, World.size_setCell, World.size_drew] at this); omega)); obtain ⟨hc1, hf1⟩ := bcell hb1; clear hb1))
      refine wp_region_grew (by kernel_rfl) (by kernel_rfl) ?_
      repeat (first | (go_big_quiet_step ((first | (go_at_call 127; exact grew_of (impl_cross _ _ _ _ _ _ _ b5 b6 b1 b2 b3 b4)) | (go_at_call 109; exact grew_of (impl_Distance _ _ _ _ _ b5 b6 b1 b2)) | (go_at_call 109; exact grew_of (impl_Distance _ _ _ _ _ b5 b6 b3 b4)) | (go_at_call 126; exact grew_same (impl_divRound _ _ _ (by omega) (by omega) (by omega) (by omega) (by omega)))))) | (quiet_step ((first | (go_at_call 127; exact grew_of (impl_cross _ _ _ _ _ _ _ b5 b6 b1 b2 b3 b4)) | (go_at_call 109; exact grew_of (impl_Distance _ _ _ _ _ b5 b6 b1 b2)) | (go_at_call 109; exact grew_of (impl_Distance _ _ _ _ _ b5 b6 b3 b4)) | (go_at_call 126; exact grew_same (impl_divRound _ _ _ (by omega) (by omega) (by omega) (by omega) (by omega)))))))
      refine wpQuiet_nil ?_
      rintro _ ⟨⟨w9, hb9⟩, rfl⟩
      try dsimp only
      obtain ⟨hc9, hf9⟩ := bcell hb9
      go_wp2
      go_ret2
      exact ⟨ret_ii hV.out.symm hC.out.symm, bnext (by go_grown) hb9⟩
  · have g1 : (q == y1) = false := beq_eq_false_iff_ne.2 e
    clear e
    rcases hne2 with e | ⟨rfl, e⟩
    · have g2 : (p == x2) = false := beq_eq_false_iff_ne.2 e
      clear e
      go_enter Try.func65, Try.ntmps65
      go_wp2_with (first | (go_at_call 125; refine (impl_ValidLeading _ _ _ _ _ _ _).mono ?_; rintro e w1 ⟨rfl, hb1⟩; have hB1 := bnext (w := w) (by go_grown) hb1; have hS1 := hB1.size; ((have hz1 : w.heap.size < w1.heap.size := by have := hb1.size; (try simp only [World.size_alloc, World.size_setCell, World.size_drew] at this); omega); (have hy1 : w.heap.size + 1 < w1.heap.size := by have := hb1.size; (try simp only [World.size_alloc, World.size_setCell, World.size_drew] at this); omega)); obtain ⟨hc1, hf1⟩ := bcell hb1; clear hb1) | (go_at_call 79; refine (impl_ValidPoint _ _ _).mono ?_; rintro e w1 ⟨rfl, hb1⟩; have hB1 := bnext (w := w) (by go_grown) hb1; have hS1 := hB1.size; ((have hz1 : w.heap.size < w1.heap.size := by have := hb1.size; (try simp only [World.size_alloc, World.size_setCell, World.size_drew] at this); omega); (have hy1 : w.heap.size + 1 < w1.heap.size := by have := hb1.size; (try simp only [World.size_alloc, World.size_setCell, World.size_drew] at this); omega)); obtain ⟨hc1, hf1⟩ := bcell hb1; clear hb1))
      refine wp_region_grew (by kernel_rfl) (by kernel_rfl) ?_
      repeat (first | (go_big_quiet_step ((first | (go_at_call 127; exact grew_of (impl_cross _ _ _ _ _ _ _ b5 b6 b1 b2 b3 b4)) | (go_at_call 109; exact grew_of (impl_Distance _ _ _ _ _ b5 b6 b1 b2)) | (go_at_call 109; exact grew_of (impl_Distance _ _ _ _ _ b5 b6 b3 b4)) | (go_at_call 126; exact grew_same (impl_divRound _ _ _ (by omega) (by omega) (by omega) (by omega) (by omega)))))) | (quiet_step ((first | (go_at_call 127; exact grew_of (impl_cross _ _ _ _ _ _ _ b5 b6 b1 b2 b3 b4)) | (go_at_call 109; exact grew_of (impl_Distance _ _ _ _ _ b5 b6 b1 b2)) | (go_at_call 109; exact grew_of (impl_Distance _ _ _ _ _ b5 b6 b3 b4)) | (go_at_call 126; exact grew_same (impl_divRound _ _ _ (by omega) (by omega) (by omega) (by omega) (by omega)))))))
      refine wpQuiet_nil ?_
      rintro _ ⟨⟨w9, hb9⟩, rfl⟩
      try dsimp only
      obtain ⟨hc9, hf9⟩ := bcell hb9
      go_wp2
      go_ret2
      exact ⟨ret_ii hV.out.symm hC.out.symm, bnext (by go_grown) hb9⟩
    · have g2 : (q == y2) = false := beq_eq_false_iff_ne.2 e
      clear e
      go_enter Try.func65, Try.ntmps65
      go_wp2_with (first | (go_at_call 125; refine (impl_ValidLeading _ _ _ _ _ _ _).mono ?_; rintro e w1 ⟨rfl, hb1⟩; have hB1 := bnext (w := w) (by go_grown) hb1; have hS1 := hB1.size; ((have hz1 : w.heap.size < w1.heap.size := by have := hb1.size; (try simp only [World.size_alloc, World.size_setCell, World.size_drew] at this); omega); (have hy1 : w.heap.size + 1 < w1.heap.size := by have := hb1.size; (try simp only [World.size_alloc, World.size_setCell, World.size_drew] at this); omega)); obtain ⟨hc1, hf1⟩ := bcell hb1; clear hb1) | (go_at_call 79; refine (impl_ValidPoint _ _ _).mono ?_; rintro e w1 ⟨rfl, hb1⟩; have hB1 := bnext (w := w) (by go_grown) hb1; have hS1 := hB1.size; ((have hz1 : w.heap.size < w1.heap.size := by have := hb1.size; (try simp only [World.size_alloc, World.size_setCell, World.size_drew] at this); omega); (have hy1 : w.heap.size + 1 < w1.heap.size := by have := hb1.size; (try simp only [World.size_alloc, World.size_setCell, World.size_drew] at this); omega)); obtain ⟨hc1, hf1⟩ := bcell hb1; clear hb1))
      refine wp_region_grew (by kernel_rfl) (by kernel_rfl) ?_
      repeat (first | (go_big_quiet_step ((first | (go_at_call 127; exact grew_of (impl_cross _ _ _ _ _ _ _ b5 b6 b1 b2 b3 b4)) | (go_at_call 109; exact grew_of (impl_Distance _ _ _ _ _ b5 b6 b1 b2)) | (go_at_call 109; exact grew_of (impl_Distance _ _ _ _ _ b5 b6 b3 b4)) | (go_at_call 126; exact grew_same (impl_divRound _ _ _ (by omega) (by omega) (by omega) (by omega) (by omega)))))) | (quiet_step ((first | (go_at_call 127; exact grew_of (impl_cross _ _ _ _ _ _ _ b5 b6 b1 b2 b3 b4)) | (go_at_call 109; exact grew_of (impl_Distance _ _ _ _ _ b5 b6 b1 b2)) | (go_at_call 109; exact grew_of (impl_Distance _ _ _ _ _ b5 b6 b3 b4)) | (go_at_call 126; exact grew_same (impl_divRound _ _ _ (by omega) (by omega) (by omega) (by omega) (by omega)))))))
      refine wpQuiet_nil ?_
      rintro _ ⟨⟨w9, hb9⟩, rfl⟩
      try dsimp only
      obtain ⟨hc9, hf9⟩ := bcell hb9
      go_wp2
      go_ret2
      exact ⟨ret_ii hV.out.symm hC.out.symm, bnext (by go_grown) hb9⟩

end Go.Proofs.Ytnikdafbnkedkaa
