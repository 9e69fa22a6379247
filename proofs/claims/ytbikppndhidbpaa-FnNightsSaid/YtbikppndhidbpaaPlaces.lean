/-
  Contracts of points, roots, quotients, distances: the program's and the reference's. Each under the conditions that it states: coordinates and numbers in their bounds.
-/
import Derived.Test.YtbikppndhidbpaaBase
import Derived.Test.YtbikppndhidbpaaNum
set_option linter.unusedVariables false
set_option maxRecDepth 100000
set_option linter.unusedSimpArgs false
namespace Go.Proofs.Ytbikppndhidbpaa
open Go.RowKit BigFrame

def vPoint (x y : Int) : Bool := inB x 0 200000 && inB y 0 200000
theorem vPoint_yes {x y : Int} (h : vPoint x y = true) : (0 ≤ x ∧ x ≤ 200000) ∧ (0 ≤ y ∧ y ≤ 200000) := by
  unfold vPoint at h; rw [Bool.and_eq_true, inB_yes, inB_yes] at h; exact h
def sqM (ax ay bx by_ : Int) : Int := (ax - bx) * (ax - bx) + (ay - by_) * (ay - by_)
def distM (ax ay bx by_ : Int) : Int := rootM (sqM ax ay bx by_)
def crossM (ax ay bx by_ cx cy : Int) : Int := (bx - ax) * (cy - ay) - (by_ - ay) * (cx - ax)

theorem toPoint_any (x y : Int) (w : World) :
    Calls Try.prog 83 #[.agg #[.int .i64 x, .int .i64 y]] w fun e w' => e = .returned (.agg #[.int .i64 x, .int .i64 y]) ∧ Below w.heap.size w w' := by
  go_enter Try.func83, Try.ntmps83
  go_wp2
  go_returns
  exact ⟨rfl, by go_grown⟩

theorem eqPoint_any (x y u v : Int) (w : World) :
    Calls Try.prog 88 #[.agg #[.int .i64 x, .int .i64 y], .agg #[.int .i64 u, .int .i64 v]] w fun e w' => e = .returned (.bool (x == u && y == v)) ∧ Below w.heap.size w w' := by
  go_enter Try.func88, Try.ntmps88
  go_wp2
  all_goals (go_ret; exact ⟨ret_bool (by simp_all), by go_grown⟩)

theorem impl_divRound (a b : Int) (w : World) (hb : b ≠ 0) (ha1 : -2000000000000000000 ≤ a) (ha2 : a ≤ 2000000000000000000) (hb1 : -2000000000000000000 ≤ b) (hb2 : b ≤ 2000000000000000000) :
    Calls Try.prog 95 #[.int .i64 a, .int .i64 b] w fun e w' => e = .returned (.int .i64 (divR a b)) ∧ w = w' := by
  by_cases hb0 : b < 0
  · by_cases ha0 : a < 0
    · obtain ⟨B, rfl⟩ : ∃ B, b = -B := ⟨-b, by omega⟩
      obtain ⟨A, rfl⟩ : ∃ A, a = -A := ⟨-a, by omega⟩
      have HD : Hid (divR (-A) (-B) = (2 * A + B) / (2 * B)) := by apply Lib.hid; unfold divR; rw [if_pos (by omega), if_neg (by omega), Int.neg_neg, Int.neg_neg]
      have n1 := Lib.hid (@near_up A B (by omega) (by omega))
      have n2 := Lib.hid (@near_down A B (by omega) (by omega))
      have m1 := Int.emod_nonneg A (show B ≠ 0 by omega)
      have m2 := Int.emod_lt_of_pos A (show 0 < B by omega)
      have m3 := Int.ediv_nonneg (show 0 ≤ A by omega) (show 0 ≤ B by omega)
      have m4 := Int.ediv_le_self (a := A) B (by omega)
      have d1 : decide (0 < A) = true := decide_eq_true (by omega)
      have d2 : decide (0 < B) = true := decide_eq_true (by omega)
      go_enter Try.func95, Try.ntmps95
      go_wp2
      all_goals (go_ret; refine ⟨ret_int ?_, rfl⟩; rw [HD.out]; first | (rw [← n1.out (by omega)]; done) | (rw [← n2.out (by omega)]; done))
    · obtain ⟨B, rfl⟩ : ∃ B, b = -B := ⟨-b, by omega⟩
      have HD : Hid (divR a (-B) = -((2 * a + B) / (2 * B))) := by apply Lib.hid; exact divR_neg a B (by omega) (by omega)
      have n1 := Lib.hid (@near_up a B (by omega) (by omega))
      have n2 := Lib.hid (@near_down a B (by omega) (by omega))
      have m1 := Int.emod_nonneg a (show B ≠ 0 by omega)
      have m2 := Int.emod_lt_of_pos a (show 0 < B by omega)
      have m3 := Int.ediv_nonneg (show 0 ≤ a by omega) (show 0 ≤ B by omega)
      have m4 := Int.ediv_le_self (a := a) B (by omega)
      have d1 : decide (a < 0) = false := decide_eq_false (by omega)
      have d2 : decide (0 < B) = true := decide_eq_true (by omega)
      go_enter Try.func95, Try.ntmps95
      go_wp2
      all_goals (go_ret; refine ⟨ret_int ?_, rfl⟩; rw [HD.out]; first | (rw [← n1.out (by omega)]; done) | (rw [← n2.out (by omega)]; done))
  · by_cases ha0 : a < 0
    · obtain ⟨A, rfl⟩ : ∃ A, a = -A := ⟨-a, by omega⟩
      have HD : Hid (divR (-A) b = -((2 * A + b) / (2 * b))) := by apply Lib.hid; unfold divR; rw [if_neg (by omega), if_pos (by omega)]; congr 2; omega
      have n1 := Lib.hid (@near_up A b (by omega) (by omega))
      have n2 := Lib.hid (@near_down A b (by omega) (by omega))
      have m1 := Int.emod_nonneg A (show b ≠ 0 by omega)
      have m2 := Int.emod_lt_of_pos A (show 0 < b by omega)
      have m3 := Int.ediv_nonneg (show 0 ≤ A by omega) (show 0 ≤ b by omega)
      have m4 := Int.ediv_le_self (a := A) b (by omega)
      have d1 : decide (0 < A) = true := decide_eq_true (by omega)
      have d2 : decide (b < 0) = false := decide_eq_false (by omega)
      go_enter Try.func95, Try.ntmps95
      go_wp2
      all_goals (go_ret; refine ⟨ret_int ?_, rfl⟩; rw [HD.out]; first | (rw [← n1.out (by omega)]; done) | (rw [← n2.out (by omega)]; done))
    · have HD : Hid (divR a b = (2 * a + b) / (2 * b)) := by apply Lib.hid; unfold divR; rw [if_neg (by omega), if_neg (by omega)]
      have n1 := Lib.hid (@near_up a b (by omega) (by omega))
      have n2 := Lib.hid (@near_down a b (by omega) (by omega))
      have m1 := Int.emod_nonneg a (show b ≠ 0 by omega)
      have m2 := Int.emod_lt_of_pos a (show 0 < b by omega)
      have m3 := Int.ediv_nonneg (show 0 ≤ a by omega) (show 0 ≤ b by omega)
      have m4 := Int.ediv_le_self (a := a) b (by omega)
      have d1 : decide (a < 0) = false := decide_eq_false (by omega)
      have d2 : decide (b < 0) = false := decide_eq_false (by omega)
      go_enter Try.func95, Try.ntmps95
      go_wp2
      all_goals (go_ret; refine ⟨ret_int ?_, rfl⟩; rw [HD.out]; first | (rw [← n1.out (by omega)]; done) | (rw [← n2.out (by omega)]; done))

end Go.Proofs.Ytbikppndhidbpaa
