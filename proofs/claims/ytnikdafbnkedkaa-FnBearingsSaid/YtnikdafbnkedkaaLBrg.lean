/-
  FnBearings: bearings there and back, the step by bearing and distance, squares of sines and cosines, turns. Under no condition.
-/
import Derived.Test.YtnikdafbnkedkaaBrg
set_option linter.unusedVariables false
set_option linter.unnecessarySimpa false
set_option maxRecDepth 100000
set_option linter.unusedSimpArgs false
namespace Go.Proofs.Ytnikdafbnkedkaa
open Go.RowKit BigFrame
theorem own : ownKnob Try.prog.godebug = none := by kernel_rfl
theorem laidOut : laidOutB Try.prog = true := by kernel_rfl

theorem sq_lim {x : Int} (h : -1000000 ≤ x ∧ x ≤ 1000000) : 0 ≤ x * x ∧ x * x ≤ 1000000000000 := by
  have := sq_bd (x := x) (B := 1000000) (by omega) (by omega)
  omega
theorem mv_valid {x y b d : Int} (h : mvC x y b d = 0) : vPoint (mvX x b d) (mvY y b d) = true := by
  unfold mvC at h
  split at h
  · split at h
    · split at h
      · assumption
      · omega
    · omega
  · omega
namespace fnBearings
open Go.ChangeShapes Go.WideShapes Go.ChangeAt Go.RowKit
set_option linter.unusedVariables false
set_option maxHeartbeats 6400000 in
theorem walk (W : World) (A0 : Option Addr) (c0 : Nat) (L0 : List Int) (s0 : Sl W W.heap.size A0 (bytesL L0)) (b0 : ∀ z ∈ L0, IntKind.u8.has z) (m0 : L0.length ≤ maxLen) (A1 : Option Addr) (c1 : Nat) (L1 : List Int) (s1 : Sl W W.heap.size A1 (bytesL L1)) (b1 : ∀ z ∈ L1, IntKind.u8.has z) (m1 : L1.length ≤ maxLen) :
    Calls Try.prog 3 #[.slice A0 L0.length c0, .slice A1 L1.length c1] W fun e w' => e = .returned (.bool true) ∧ Below W.heap.size W w' := by
  by_cases hl0 : 1048576 < L0.length
  · go_enter Try.func3, Try.ntmps3
    go_wp2_with (first | (go_at_call 12; refine (long_any _ _ _ _ (by assumption)).mono ?_; rintro e w' ⟨rfl, rfl⟩))
    go_ret
    exact ⟨rfl, Below.refl _ _⟩
  by_cases hl1 : 1048576 < L1.length
  · go_enter Try.func3, Try.ntmps3
    go_wp2_with (first | (go_at_call 12; refine (long_any _ _ _ _ (by assumption)).mono ?_; rintro e w' ⟨rfl, rfl⟩))
    go_ret
    exact ⟨rfl, Below.refl _ _⟩
  have S0 := Lib.hid s0
  have S1 := Lib.hid s1
  have U0 := Lib.hid b0
  have U1 := Lib.hid b1
  clear s0 s1 b0 b1
  go_enter Try.func3, Try.ntmps3
  go_wp2_with (go_at_call 12; refine (long_any _ _ _ _ (by assumption)).mono ?_; rintro e w' ⟨rfl, rfl⟩)
  refine (draw_bearing L0 _ _ W.heap.size _ S0.out (Nat.le_refl _) U0.out (by omega)).mono ?_
  rintro e w ⟨x1, y1, x2, y2, hbd, rfl, hB0⟩
  cases v1 : vPoint x1 y1
  · have hbe : ∀ w, Calls Try.prog 14 #[.agg #[.int .i64 x1, .int .i64 y1], .agg #[.int .i64 x2, .int .i64 y2]] w fun e w' => e = .returned (.int .i64 0) ∧ Below w.heap.size w w' := fun w => impl_Bearing_no _ _ _ _ w (by simp [vPoint2, v1])
    have hbf : ∀ w, Calls Try.prog 14 #[.agg #[.int .i64 x2, .int .i64 y2], .agg #[.int .i64 x1, .int .i64 y1]] w fun e w' => e = .returned (.int .i64 0) ∧ Below w.heap.size w w' := fun w => impl_Bearing_no _ _ _ _ w (by simp [vPoint2, v1])
    go_wp2_with (first | (go_at_call 14; with_reducible refine (hbe _).mono ?_; rintro e w1 ⟨rfl, hb1⟩; have hB1 := bnext (w := w) (by go_grown) hb1; have hS1 := hB1.size; ((have hz1 : w.heap.size < w1.heap.size := by have := hb1.size; (try simp only [World.size_alloc, World.size_setCell, World.size_drew] at this); omega); (have hy1 : w.heap.size + 1 < w1.heap.size := by have := hb1.size; (try simp only [World.size_alloc, World.size_setCell, World.size_drew] at this); omega)); obtain ⟨hc1, hf1⟩ := bcell hb1; clear hb1) | (go_at_call 14; with_reducible refine (hbf _).mono ?_; rintro e w1 ⟨rfl, hb1⟩; have hB1 := bnext (w := w) (by go_grown) hb1; have hS1 := hB1.size; ((have hz1 : w.heap.size < w1.heap.size := by have := hb1.size; (try simp only [World.size_alloc, World.size_setCell, World.size_drew] at this); omega); (have hy1 : w.heap.size + 1 < w1.heap.size := by have := hb1.size; (try simp only [World.size_alloc, World.size_setCell, World.size_drew] at this); omega)); obtain ⟨hc1, hf1⟩ := bcell hb1; clear hb1) | (go_at_call 15; refine (spec_ValidPoint _ _ _).mono ?_; rintro e w1 ⟨rfl, hb1⟩; have hB1 := bnext (w := w) (by go_grown) hb1; have hS1 := hB1.size; ((have hz1 : w.heap.size < w1.heap.size := by have := hb1.size; (try simp only [World.size_alloc, World.size_setCell, World.size_drew] at this); omega); (have hy1 : w.heap.size + 1 < w1.heap.size := by have := hb1.size; (try simp only [World.size_alloc, World.size_setCell, World.size_drew] at this); omega)); obtain ⟨hc1, hf1⟩ := bcell hb1; clear hb1))
    clear hbf
    clear hbe
    refine (draw_turn L1 _ _ W.heap.size _ (S1.out.below (bnext hB0 (show Below w.heap.size w _ by go_grown))) (bnext hB0 (show Below w.heap.size w _ by go_grown)).size U1.out (by omega)).mono ?_
    rintro e wt ⟨a, b, ha, hb, rfl, hbt⟩
    have i1 := has_i64 ha
    have i2 := has_i64 hb
    have t1 := turnM_bd a b
    have t2 := turn_sym b a
    have t3 := turn_self a
    obtain ⟨T, hT⟩ : ∃ T, turnM a b = T := ⟨_, rfl⟩
    rw [hT] at t1 t2
    have hsi : ∀ w, Calls Try.prog 20 #[.int .i64 a] w fun e w' => e = .returned (.int .i64 (sinM a)) ∧ w = w' := fun w => impl_Sine a w
    have hco : ∀ w, Calls Try.prog 21 #[.int .i64 a] w fun e w' => e = .returned (.int .i64 (cosM a)) ∧ w = w' := fun w => impl_Cosine a w
    have ht1 : ∀ w, Calls Try.prog 16 #[.int .i64 a, .int .i64 b] w fun e w' => e = .returned (.int .i64 T) ∧ w = w' := fun w => by rw [← hT]; exact impl_Turn a b w
    have ht2 : ∀ w, Calls Try.prog 16 #[.int .i64 b, .int .i64 a] w fun e w' => e = .returned (.int .i64 T) ∧ w = w' := fun w => by rw [← t2]; exact impl_Turn b a w
    have ht3 : ∀ w, Calls Try.prog 16 #[.int .i64 a, .int .i64 a] w fun e w' => e = .returned (.int .i64 0) ∧ w = w' := fun w => by rw [← t3]; exact impl_Turn a a w
    have q1 := sq_lim (sinM_bd a)
    have q2 := sq_lim (cosM_bd a)
    have q3 := sum_ok a
    have q4 := sinM_bd a
    have q5 := cosM_bd a
    generalize sinM a = s at hsi q1 q3 q4
    generalize cosM a = c at hco q2 q3 q5
    clear t2 t3 hT
    go_wp2_with (first | (go_at_call 20; refine (hsi _).mono ?_; rintro e w' ⟨rfl, rfl⟩) | (go_at_call 21; refine (hco _).mono ?_; rintro e w' ⟨rfl, rfl⟩) | (go_at_call 16; with_reducible refine (ht1 _).mono ?_; rintro e w' ⟨rfl, rfl⟩) | (go_at_call 16; with_reducible refine (ht2 _).mono ?_; rintro e w' ⟨rfl, rfl⟩) | (go_at_call 16; with_reducible refine (ht3 _).mono ?_; rintro e w' ⟨rfl, rfl⟩))
    go_ret
    exact ⟨rfl, bnext (bnext hB0 (show Below w.heap.size w _ by go_grown)) hbt⟩
  cases v2 : vPoint x2 y2
  · have hbe : ∀ w, Calls Try.prog 14 #[.agg #[.int .i64 x1, .int .i64 y1], .agg #[.int .i64 x2, .int .i64 y2]] w fun e w' => e = .returned (.int .i64 0) ∧ Below w.heap.size w w' := fun w => impl_Bearing_no _ _ _ _ w (by simp [vPoint2, v1, v2])
    have hbf : ∀ w, Calls Try.prog 14 #[.agg #[.int .i64 x2, .int .i64 y2], .agg #[.int .i64 x1, .int .i64 y1]] w fun e w' => e = .returned (.int .i64 0) ∧ Below w.heap.size w w' := fun w => impl_Bearing_no _ _ _ _ w (by simp [vPoint2, v1, v2])
    go_wp2_with (first | (go_at_call 14; with_reducible refine (hbe _).mono ?_; rintro e w1 ⟨rfl, hb1⟩; have hB1 := bnext (w := w) (by go_grown) hb1; have hS1 := hB1.size; ((have hz1 : w.heap.size < w1.heap.size := by have := hb1.size; (try simp only [World.size_alloc, World.size_setCell, World.size_drew] at this); omega); (have hy1 : w.heap.size + 1 < w1.heap.size := by have := hb1.size; (try simp only [World.size_alloc, World.size_setCell, World.size_drew] at this); omega)); obtain ⟨hc1, hf1⟩ := bcell hb1; clear hb1) | (go_at_call 14; with_reducible refine (hbf _).mono ?_; rintro e w1 ⟨rfl, hb1⟩; have hB1 := bnext (w := w) (by go_grown) hb1; have hS1 := hB1.size; ((have hz1 : w.heap.size < w1.heap.size := by have := hb1.size; (try simp only [World.size_alloc, World.size_setCell, World.size_drew] at this); omega); (have hy1 : w.heap.size + 1 < w1.heap.size := by have := hb1.size; (try simp only [World.size_alloc, World.size_setCell, World.size_drew] at this); omega)); obtain ⟨hc1, hf1⟩ := bcell hb1; clear hb1) | (go_at_call 15; refine (spec_ValidPoint _ _ _).mono ?_; rintro e w1 ⟨rfl, hb1⟩; have hB1 := bnext (w := w) (by go_grown) hb1; have hS1 := hB1.size; ((have hz1 : w.heap.size < w1.heap.size := by have := hb1.size; (try simp only [World.size_alloc, World.size_setCell, World.size_drew] at this); omega); (have hy1 : w.heap.size + 1 < w1.heap.size := by have := hb1.size; (try simp only [World.size_alloc, World.size_setCell, World.size_drew] at this); omega)); obtain ⟨hc1, hf1⟩ := bcell hb1; clear hb1))
    clear hbf
    clear hbe
    refine (draw_turn L1 _ _ W.heap.size _ (S1.out.below (bnext hB0 (show Below w.heap.size w _ by go_grown))) (bnext hB0 (show Below w.heap.size w _ by go_grown)).size U1.out (by omega)).mono ?_
    rintro e wt ⟨a, b, ha, hb, rfl, hbt⟩
    have i1 := has_i64 ha
    have i2 := has_i64 hb
    have t1 := turnM_bd a b
    have t2 := turn_sym b a
    have t3 := turn_self a
    obtain ⟨T, hT⟩ : ∃ T, turnM a b = T := ⟨_, rfl⟩
    rw [hT] at t1 t2
    have hsi : ∀ w, Calls Try.prog 20 #[.int .i64 a] w fun e w' => e = .returned (.int .i64 (sinM a)) ∧ w = w' := fun w => impl_Sine a w
    have hco : ∀ w, Calls Try.prog 21 #[.int .i64 a] w fun e w' => e = .returned (.int .i64 (cosM a)) ∧ w = w' := fun w => impl_Cosine a w
    have ht1 : ∀ w, Calls Try.prog 16 #[.int .i64 a, .int .i64 b] w fun e w' => e = .returned (.int .i64 T) ∧ w = w' := fun w => by rw [← hT]; exact impl_Turn a b w
    have ht2 : ∀ w, Calls Try.prog 16 #[.int .i64 b, .int .i64 a] w fun e w' => e = .returned (.int .i64 T) ∧ w = w' := fun w => by rw [← t2]; exact impl_Turn b a w
    have ht3 : ∀ w, Calls Try.prog 16 #[.int .i64 a, .int .i64 a] w fun e w' => e = .returned (.int .i64 0) ∧ w = w' := fun w => by rw [← t3]; exact impl_Turn a a w
    have q1 := sq_lim (sinM_bd a)
    have q2 := sq_lim (cosM_bd a)
    have q3 := sum_ok a
    have q4 := sinM_bd a
    have q5 := cosM_bd a
    generalize sinM a = s at hsi q1 q3 q4
    generalize cosM a = c at hco q2 q3 q5
    clear t2 t3 hT
    go_wp2_with (first | (go_at_call 20; refine (hsi _).mono ?_; rintro e w' ⟨rfl, rfl⟩) | (go_at_call 21; refine (hco _).mono ?_; rintro e w' ⟨rfl, rfl⟩) | (go_at_call 16; with_reducible refine (ht1 _).mono ?_; rintro e w' ⟨rfl, rfl⟩) | (go_at_call 16; with_reducible refine (ht2 _).mono ?_; rintro e w' ⟨rfl, rfl⟩) | (go_at_call 16; with_reducible refine (ht3 _).mono ?_; rintro e w' ⟨rfl, rfl⟩))
    go_ret
    exact ⟨rfl, bnext (bnext hB0 (show Below w.heap.size w _ by go_grown)) hbt⟩
  obtain ⟨a1, a2⟩ := vPoint_yes v1
  obtain ⟨a3, a4⟩ := vPoint_yes v2
  have hbe : ∀ w, Calls Try.prog 14 #[.agg #[.int .i64 x1, .int .i64 y1], .agg #[.int .i64 x2, .int .i64 y2]] w fun e w' => e = .returned (.int .i64 (bearM (x2 - x1) (y2 - y1))) ∧ Below w.heap.size w w' := fun w => impl_Bearing _ _ _ _ w a1 a2 a3 a4
  have hbf : ∀ w, Calls Try.prog 14 #[.agg #[.int .i64 x2, .int .i64 y2], .agg #[.int .i64 x1, .int .i64 y1]] w fun e w' => e = .returned (.int .i64 (bearM (x1 - x2) (y1 - y2))) ∧ Below w.heap.size w w' := fun w => impl_Bearing _ _ _ _ w a3 a4 a1 a2
  have hdi : ∀ w, Calls Try.prog 17 #[.agg #[.int .i64 x1, .int .i64 y1], .agg #[.int .i64 x2, .int .i64 y2]] w fun e w' => e = .returned (.int .i64 (distM x1 y1 x2 y2)) ∧ Below w.heap.size w w' := fun w => spec_Distance _ _ _ _ w a1 a2 a3 a4
  have hXb := bearM_bd (x2 - x1) (y2 - y1)
  have hYb := bearM_bd (x1 - x2) (y1 - y2)
  have hDb := distM_bd a1 a2 a3 a4
  have hback : ¬ (x1 = x2 ∧ y1 = y2) → 179 ≤ turnM (bearM (x2 - x1) (y2 - y1)) (bearM (x1 - x2) (y1 - y2)) := fun hn => by
    have h := turn_back (X := x2 - x1) (Y := y2 - y1) (by omega)
    rw [show -(x2 - x1) = x1 - x2 by omega, show -(y2 - y1) = y1 - y2 by omega] at h
    exact h
  obtain ⟨X, hX⟩ : ∃ X, bearM (x2 - x1) (y2 - y1) = X := ⟨_, rfl⟩
  obtain ⟨Y, hY⟩ : ∃ Y, bearM (x1 - x2) (y1 - y2) = Y := ⟨_, rfl⟩
  obtain ⟨D, hD⟩ : ∃ D, distM x1 y1 x2 y2 = D := ⟨_, rfl⟩
  rw [hX] at hbe hXb hback
  rw [hY] at hbf hYb hback
  rw [hD] at hdi hDb
  have htu : ∀ w, Calls Try.prog 16 #[.int .i64 X, .int .i64 Y] w fun e w' => e = .returned (.int .i64 (turnM X Y)) ∧ w = w' := fun w => impl_Turn X Y w
  generalize turnM X Y = T at htu hback
  clear hY hbd
  by_cases hn : x1 = x2 ∧ y1 = y2
  · obtain ⟨rfl, rfl⟩ := hn
    clear hback hbf
    have hbf := hbe
    by_cases hm : mvC x1 y1 X D = 0
    · have hmv : ∀ w, Calls Try.prog 18 #[.agg #[.int .i64 x1, .int .i64 y1], .int .i64 X, .int .i64 D] w fun e w' => e = .returned (.tuple #[.agg #[.int .i64 (mvX x1 X D), .int .i64 (mvY y1 X D)], .int .i64 0]) ∧ Below w.heap.size w w' := fun w => by
        have h := impl_Move x1 y1 X D w
        unfold mvV at h
        rw [hm, if_pos rfl, if_pos rfl] at h
        exact h
      have hvp := mv_valid hm
      have hpb := vPoint_yes hvp
      have hE := near_end x1 y1 x1 y1 a1 a2 a3 a4
      rw [hX, hD] at hE
      have hde : ∀ w, Calls Try.prog 17 #[.agg #[.int .i64 (mvX x1 X D), .int .i64 (mvY y1 X D)], .agg #[.int .i64 x1, .int .i64 y1]] w fun e w' => e = .returned (.int .i64 (distM (mvX x1 X D) (mvY y1 X D) x1 y1)) ∧ Below w.heap.size w w' := fun w => spec_Distance _ _ _ _ w hpb.1 hpb.2 a3 a4
      have hEb := distM_bd hpb.1 hpb.2 a3 a4
      generalize distM (mvX x1 X D) (mvY y1 X D) x1 y1 = E at hE hde hEb
      generalize mvX x1 X D = px at *
      generalize mvY y1 X D = py at *
      clear hm hvp hpb hX hD
      have nX1 : ¬ X < 0 := by omega
      have nX2 : ¬ 359 < X := by omega
      have nX3 : X ≤ 359 := by omega
      have nX4 : 0 ≤ X := by omega
      have dX1 : decide (X < 0) = false := decide_eq_false nX1
      have dX2 : decide (359 < X) = false := decide_eq_false nX2
      go_wp2_with (first | (go_at_call 14; with_reducible refine (hbe _).mono ?_; rintro e w1 ⟨rfl, hb1⟩; have hB1 := bnext (w := w) (by go_grown) hb1; have hS1 := hB1.size; ((have hz1 : w.heap.size < w1.heap.size := by have := hb1.size; (try simp only [World.size_alloc, World.size_setCell, World.size_drew] at this); omega); (have hy1 : w.heap.size + 1 < w1.heap.size := by have := hb1.size; (try simp only [World.size_alloc, World.size_setCell, World.size_drew] at this); omega)); obtain ⟨hc1, hf1⟩ := bcell hb1; clear hb1) | (go_at_call 14; with_reducible refine (hbf _).mono ?_; rintro e w1 ⟨rfl, hb1⟩; have hB1 := bnext (w := w) (by go_grown) hb1; have hS1 := hB1.size; ((have hz1 : w.heap.size < w1.heap.size := by have := hb1.size; (try simp only [World.size_alloc, World.size_setCell, World.size_drew] at this); omega); (have hy1 : w.heap.size + 1 < w1.heap.size := by have := hb1.size; (try simp only [World.size_alloc, World.size_setCell, World.size_drew] at this); omega)); obtain ⟨hc1, hf1⟩ := bcell hb1; clear hb1) | (go_at_call 15; refine (spec_ValidPoint _ _ _).mono ?_; rintro e w1 ⟨rfl, hb1⟩; have hB1 := bnext (w := w) (by go_grown) hb1; have hS1 := hB1.size; ((have hz1 : w.heap.size < w1.heap.size := by have := hb1.size; (try simp only [World.size_alloc, World.size_setCell, World.size_drew] at this); omega); (have hy1 : w.heap.size + 1 < w1.heap.size := by have := hb1.size; (try simp only [World.size_alloc, World.size_setCell, World.size_drew] at this); omega)); obtain ⟨hc1, hf1⟩ := bcell hb1; clear hb1) | (go_at_call 16; with_reducible refine (htu _).mono ?_; rintro e w' ⟨rfl, rfl⟩) | (go_at_call 17; with_reducible refine (hdi _).mono ?_; rintro e w1 ⟨rfl, hb1⟩; have hB1 := bnext (w := w) (by go_grown) hb1; have hS1 := hB1.size; ((have hz1 : w.heap.size < w1.heap.size := by have := hb1.size; (try simp only [World.size_alloc, World.size_setCell, World.size_drew] at this); omega); (have hy1 : w.heap.size + 1 < w1.heap.size := by have := hb1.size; (try simp only [World.size_alloc, World.size_setCell, World.size_drew] at this); omega)); obtain ⟨hc1, hf1⟩ := bcell hb1; clear hb1) | (go_at_call 17; with_reducible refine (hde _).mono ?_; rintro e w1 ⟨rfl, hb1⟩; have hB1 := bnext (w := w) (by go_grown) hb1; have hS1 := hB1.size; (skip); obtain ⟨hc1, hf1⟩ := bcell hb1; clear hb1) | (go_at_call 18; refine (hmv _).mono ?_; rintro e w1 ⟨rfl, hb1⟩; have hB1 := bnext (w := w) (by go_grown) hb1; have hS1 := hB1.size; ((have hz1 : w.heap.size < w1.heap.size := by have := hb1.size; (try simp only [World.size_alloc, World.size_setCell, World.size_drew] at this); omega); (have hy1 : w.heap.size + 1 < w1.heap.size := by have := hb1.size; (try simp only [World.size_alloc, World.size_setCell, World.size_drew] at this); omega)); obtain ⟨hc1, hf1⟩ := bcell hb1; clear hb1))
      clear hbf hdi hmv hde
      clear hbe
      refine (draw_turn L1 _ _ W.heap.size _ (S1.out.below (bnext hB0 (show Below w.heap.size w _ by go_grown))) (bnext hB0 (show Below w.heap.size w _ by go_grown)).size U1.out (by omega)).mono ?_
      rintro e wt ⟨a, b, ha, hb, rfl, hbt⟩
      have i1 := has_i64 ha
      have i2 := has_i64 hb
      have t1 := turnM_bd a b
      have t2 := turn_sym b a
      have t3 := turn_self a
      obtain ⟨T, hT⟩ : ∃ T, turnM a b = T := ⟨_, rfl⟩
      rw [hT] at t1 t2
      have hsi : ∀ w, Calls Try.prog 20 #[.int .i64 a] w fun e w' => e = .returned (.int .i64 (sinM a)) ∧ w = w' := fun w => impl_Sine a w
      have hco : ∀ w, Calls Try.prog 21 #[.int .i64 a] w fun e w' => e = .returned (.int .i64 (cosM a)) ∧ w = w' := fun w => impl_Cosine a w
      have ht1 : ∀ w, Calls Try.prog 16 #[.int .i64 a, .int .i64 b] w fun e w' => e = .returned (.int .i64 T) ∧ w = w' := fun w => by rw [← hT]; exact impl_Turn a b w
      have ht2 : ∀ w, Calls Try.prog 16 #[.int .i64 b, .int .i64 a] w fun e w' => e = .returned (.int .i64 T) ∧ w = w' := fun w => by rw [← t2]; exact impl_Turn b a w
      have ht3 : ∀ w, Calls Try.prog 16 #[.int .i64 a, .int .i64 a] w fun e w' => e = .returned (.int .i64 0) ∧ w = w' := fun w => by rw [← t3]; exact impl_Turn a a w
      have q1 := sq_lim (sinM_bd a)
      have q2 := sq_lim (cosM_bd a)
      have q3 := sum_ok a
      have q4 := sinM_bd a
      have q5 := cosM_bd a
      generalize sinM a = s at hsi q1 q3 q4
      generalize cosM a = c at hco q2 q3 q5
      clear t2 t3 hT
      go_wp2_with (first | (go_at_call 20; refine (hsi _).mono ?_; rintro e w' ⟨rfl, rfl⟩) | (go_at_call 21; refine (hco _).mono ?_; rintro e w' ⟨rfl, rfl⟩) | (go_at_call 16; with_reducible refine (ht1 _).mono ?_; rintro e w' ⟨rfl, rfl⟩) | (go_at_call 16; with_reducible refine (ht2 _).mono ?_; rintro e w' ⟨rfl, rfl⟩) | (go_at_call 16; with_reducible refine (ht3 _).mono ?_; rintro e w' ⟨rfl, rfl⟩))
      go_ret
      exact ⟨rfl, bnext (bnext hB0 (show Below w.heap.size w _ by go_grown)) hbt⟩
    · have hmv : ∀ w, Calls Try.prog 18 #[.agg #[.int .i64 x1, .int .i64 y1], .int .i64 X, .int .i64 D] w fun e w' => e = .returned (.tuple #[.agg #[.int .i64 0, .int .i64 0], .int .i64 (mvC x1 y1 X D)]) ∧ Below w.heap.size w w' := fun w => by
        have h := impl_Move x1 y1 X D w
        unfold mvV at h
        rw [if_neg hm, if_neg hm] at h
        exact h
      generalize mvC x1 y1 X D = cm at hmv hm
      clear hX hD
      have nX1 : ¬ X < 0 := by omega
      have nX2 : ¬ 359 < X := by omega
      have nX3 : X ≤ 359 := by omega
      have nX4 : 0 ≤ X := by omega
      have dX1 : decide (X < 0) = false := decide_eq_false nX1
      have dX2 : decide (359 < X) = false := decide_eq_false nX2
      go_wp2_with (first | (go_at_call 14; with_reducible refine (hbe _).mono ?_; rintro e w1 ⟨rfl, hb1⟩; have hB1 := bnext (w := w) (by go_grown) hb1; have hS1 := hB1.size; ((have hz1 : w.heap.size < w1.heap.size := by have := hb1.size; (try simp only [World.size_alloc, World.size_setCell, World.size_drew] at this); omega); (have hy1 : w.heap.size + 1 < w1.heap.size := by have := hb1.size; (try simp only [World.size_alloc, World.size_setCell, World.size_drew] at this); omega)); obtain ⟨hc1, hf1⟩ := bcell hb1; clear hb1) | (go_at_call 14; with_reducible refine (hbf _).mono ?_; rintro e w1 ⟨rfl, hb1⟩; have hB1 := bnext (w := w) (by go_grown) hb1; have hS1 := hB1.size; ((have hz1 : w.heap.size < w1.heap.size := by have := hb1.size; (try simp only [World.size_alloc, World.size_setCell, World.size_drew] at this); omega); (have hy1 : w.heap.size + 1 < w1.heap.size := by have := hb1.size; (try simp only [World.size_alloc, World.size_setCell, World.size_drew] at this); omega)); obtain ⟨hc1, hf1⟩ := bcell hb1; clear hb1) | (go_at_call 15; refine (spec_ValidPoint _ _ _).mono ?_; rintro e w1 ⟨rfl, hb1⟩; have hB1 := bnext (w := w) (by go_grown) hb1; have hS1 := hB1.size; ((have hz1 : w.heap.size < w1.heap.size := by have := hb1.size; (try simp only [World.size_alloc, World.size_setCell, World.size_drew] at this); omega); (have hy1 : w.heap.size + 1 < w1.heap.size := by have := hb1.size; (try simp only [World.size_alloc, World.size_setCell, World.size_drew] at this); omega)); obtain ⟨hc1, hf1⟩ := bcell hb1; clear hb1) | (go_at_call 16; with_reducible refine (htu _).mono ?_; rintro e w' ⟨rfl, rfl⟩) | (go_at_call 17; with_reducible refine (hdi _).mono ?_; rintro e w1 ⟨rfl, hb1⟩; have hB1 := bnext (w := w) (by go_grown) hb1; have hS1 := hB1.size; ((have hz1 : w.heap.size < w1.heap.size := by have := hb1.size; (try simp only [World.size_alloc, World.size_setCell, World.size_drew] at this); omega); (have hy1 : w.heap.size + 1 < w1.heap.size := by have := hb1.size; (try simp only [World.size_alloc, World.size_setCell, World.size_drew] at this); omega)); obtain ⟨hc1, hf1⟩ := bcell hb1; clear hb1) | (go_at_call 17; with_reducible refine (hde _).mono ?_; rintro e w1 ⟨rfl, hb1⟩; have hB1 := bnext (w := w) (by go_grown) hb1; have hS1 := hB1.size; (skip); obtain ⟨hc1, hf1⟩ := bcell hb1; clear hb1) | (go_at_call 18; refine (hmv _).mono ?_; rintro e w1 ⟨rfl, hb1⟩; have hB1 := bnext (w := w) (by go_grown) hb1; have hS1 := hB1.size; ((have hz1 : w.heap.size < w1.heap.size := by have := hb1.size; (try simp only [World.size_alloc, World.size_setCell, World.size_drew] at this); omega); (have hy1 : w.heap.size + 1 < w1.heap.size := by have := hb1.size; (try simp only [World.size_alloc, World.size_setCell, World.size_drew] at this); omega)); obtain ⟨hc1, hf1⟩ := bcell hb1; clear hb1))
      clear hbf hdi hmv
      clear hbe
      refine (draw_turn L1 _ _ W.heap.size _ (S1.out.below (bnext hB0 (show Below w.heap.size w _ by go_grown))) (bnext hB0 (show Below w.heap.size w _ by go_grown)).size U1.out (by omega)).mono ?_
      rintro e wt ⟨a, b, ha, hb, rfl, hbt⟩
      have i1 := has_i64 ha
      have i2 := has_i64 hb
      have t1 := turnM_bd a b
      have t2 := turn_sym b a
      have t3 := turn_self a
      obtain ⟨T, hT⟩ : ∃ T, turnM a b = T := ⟨_, rfl⟩
      rw [hT] at t1 t2
      have hsi : ∀ w, Calls Try.prog 20 #[.int .i64 a] w fun e w' => e = .returned (.int .i64 (sinM a)) ∧ w = w' := fun w => impl_Sine a w
      have hco : ∀ w, Calls Try.prog 21 #[.int .i64 a] w fun e w' => e = .returned (.int .i64 (cosM a)) ∧ w = w' := fun w => impl_Cosine a w
      have ht1 : ∀ w, Calls Try.prog 16 #[.int .i64 a, .int .i64 b] w fun e w' => e = .returned (.int .i64 T) ∧ w = w' := fun w => by rw [← hT]; exact impl_Turn a b w
      have ht2 : ∀ w, Calls Try.prog 16 #[.int .i64 b, .int .i64 a] w fun e w' => e = .returned (.int .i64 T) ∧ w = w' := fun w => by rw [← t2]; exact impl_Turn b a w
      have ht3 : ∀ w, Calls Try.prog 16 #[.int .i64 a, .int .i64 a] w fun e w' => e = .returned (.int .i64 0) ∧ w = w' := fun w => by rw [← t3]; exact impl_Turn a a w
      have q1 := sq_lim (sinM_bd a)
      have q2 := sq_lim (cosM_bd a)
      have q3 := sum_ok a
      have q4 := sinM_bd a
      have q5 := cosM_bd a
      generalize sinM a = s at hsi q1 q3 q4
      generalize cosM a = c at hco q2 q3 q5
      clear t2 t3 hT
      go_wp2_with (first | (go_at_call 20; refine (hsi _).mono ?_; rintro e w' ⟨rfl, rfl⟩) | (go_at_call 21; refine (hco _).mono ?_; rintro e w' ⟨rfl, rfl⟩) | (go_at_call 16; with_reducible refine (ht1 _).mono ?_; rintro e w' ⟨rfl, rfl⟩) | (go_at_call 16; with_reducible refine (ht2 _).mono ?_; rintro e w' ⟨rfl, rfl⟩) | (go_at_call 16; with_reducible refine (ht3 _).mono ?_; rintro e w' ⟨rfl, rfl⟩))
      go_ret
      exact ⟨rfl, bnext (bnext hB0 (show Below w.heap.size w _ by go_grown)) hbt⟩
  have hT := hback hn
  clear hback
  rcases (by omega : ¬ x1 = x2 ∨ (x1 = x2 ∧ ¬ y1 = y2)) with e | ⟨rfl, e⟩
  · have g1 : (x1 == x2) = false := beq_eq_false_iff_ne.2 e
    clear e hn
    by_cases hm : mvC x1 y1 X D = 0
    · have hmv : ∀ w, Calls Try.prog 18 #[.agg #[.int .i64 x1, .int .i64 y1], .int .i64 X, .int .i64 D] w fun e w' => e = .returned (.tuple #[.agg #[.int .i64 (mvX x1 X D), .int .i64 (mvY y1 X D)], .int .i64 0]) ∧ Below w.heap.size w w' := fun w => by
        have h := impl_Move x1 y1 X D w
        unfold mvV at h
        rw [hm, if_pos rfl, if_pos rfl] at h
        exact h
      have hvp := mv_valid hm
      have hpb := vPoint_yes hvp
      have hE := near_end x1 y1 x2 y2 a1 a2 a3 a4
      rw [hX, hD] at hE
      have hde : ∀ w, Calls Try.prog 17 #[.agg #[.int .i64 (mvX x1 X D), .int .i64 (mvY y1 X D)], .agg #[.int .i64 x2, .int .i64 y2]] w fun e w' => e = .returned (.int .i64 (distM (mvX x1 X D) (mvY y1 X D) x2 y2)) ∧ Below w.heap.size w w' := fun w => spec_Distance _ _ _ _ w hpb.1 hpb.2 a3 a4
      have hEb := distM_bd hpb.1 hpb.2 a3 a4
      generalize distM (mvX x1 X D) (mvY y1 X D) x2 y2 = E at hE hde hEb
      generalize mvX x1 X D = px at *
      generalize mvY y1 X D = py at *
      clear hm hvp hpb hX hD
      have nX1 : ¬ X < 0 := by omega
      have nX2 : ¬ 359 < X := by omega
      have nX3 : X ≤ 359 := by omega
      have nX4 : 0 ≤ X := by omega
      have dX1 : decide (X < 0) = false := decide_eq_false nX1
      have dX2 : decide (359 < X) = false := decide_eq_false nX2
      go_wp2_with (first | (go_at_call 14; with_reducible refine (hbe _).mono ?_; rintro e w1 ⟨rfl, hb1⟩; have hB1 := bnext (w := w) (by go_grown) hb1; have hS1 := hB1.size; ((have hz1 : w.heap.size < w1.heap.size := by have := hb1.size; (try simp only [World.size_alloc, World.size_setCell, World.size_drew] at this); omega); (have hy1 : w.heap.size + 1 < w1.heap.size := by have := hb1.size; (try simp only [World.size_alloc, World.size_setCell, World.size_drew] at this); omega)); obtain ⟨hc1, hf1⟩ := bcell hb1; clear hb1) | (go_at_call 14; with_reducible refine (hbf _).mono ?_; rintro e w1 ⟨rfl, hb1⟩; have hB1 := bnext (w := w) (by go_grown) hb1; have hS1 := hB1.size; ((have hz1 : w.heap.size < w1.heap.size := by have := hb1.size; (try simp only [World.size_alloc, World.size_setCell, World.size_drew] at this); omega); (have hy1 : w.heap.size + 1 < w1.heap.size := by have := hb1.size; (try simp only [World.size_alloc, World.size_setCell, World.size_drew] at this); omega)); obtain ⟨hc1, hf1⟩ := bcell hb1; clear hb1) | (go_at_call 15; refine (spec_ValidPoint _ _ _).mono ?_; rintro e w1 ⟨rfl, hb1⟩; have hB1 := bnext (w := w) (by go_grown) hb1; have hS1 := hB1.size; ((have hz1 : w.heap.size < w1.heap.size := by have := hb1.size; (try simp only [World.size_alloc, World.size_setCell, World.size_drew] at this); omega); (have hy1 : w.heap.size + 1 < w1.heap.size := by have := hb1.size; (try simp only [World.size_alloc, World.size_setCell, World.size_drew] at this); omega)); obtain ⟨hc1, hf1⟩ := bcell hb1; clear hb1) | (go_at_call 16; with_reducible refine (htu _).mono ?_; rintro e w' ⟨rfl, rfl⟩) | (go_at_call 17; with_reducible refine (hdi _).mono ?_; rintro e w1 ⟨rfl, hb1⟩; have hB1 := bnext (w := w) (by go_grown) hb1; have hS1 := hB1.size; ((have hz1 : w.heap.size < w1.heap.size := by have := hb1.size; (try simp only [World.size_alloc, World.size_setCell, World.size_drew] at this); omega); (have hy1 : w.heap.size + 1 < w1.heap.size := by have := hb1.size; (try simp only [World.size_alloc, World.size_setCell, World.size_drew] at this); omega)); obtain ⟨hc1, hf1⟩ := bcell hb1; clear hb1) | (go_at_call 17; with_reducible refine (hde _).mono ?_; rintro e w1 ⟨rfl, hb1⟩; have hB1 := bnext (w := w) (by go_grown) hb1; have hS1 := hB1.size; (skip); obtain ⟨hc1, hf1⟩ := bcell hb1; clear hb1) | (go_at_call 18; refine (hmv _).mono ?_; rintro e w1 ⟨rfl, hb1⟩; have hB1 := bnext (w := w) (by go_grown) hb1; have hS1 := hB1.size; ((have hz1 : w.heap.size < w1.heap.size := by have := hb1.size; (try simp only [World.size_alloc, World.size_setCell, World.size_drew] at this); omega); (have hy1 : w.heap.size + 1 < w1.heap.size := by have := hb1.size; (try simp only [World.size_alloc, World.size_setCell, World.size_drew] at this); omega)); obtain ⟨hc1, hf1⟩ := bcell hb1; clear hb1))
      clear hbf hdi hmv hde
      clear hbe
      refine (draw_turn L1 _ _ W.heap.size _ (S1.out.below (bnext hB0 (show Below w.heap.size w _ by go_grown))) (bnext hB0 (show Below w.heap.size w _ by go_grown)).size U1.out (by omega)).mono ?_
      rintro e wt ⟨a, b, ha, hb, rfl, hbt⟩
      have i1 := has_i64 ha
      have i2 := has_i64 hb
      have t1 := turnM_bd a b
      have t2 := turn_sym b a
      have t3 := turn_self a
      obtain ⟨T, hT⟩ : ∃ T, turnM a b = T := ⟨_, rfl⟩
      rw [hT] at t1 t2
      have hsi : ∀ w, Calls Try.prog 20 #[.int .i64 a] w fun e w' => e = .returned (.int .i64 (sinM a)) ∧ w = w' := fun w => impl_Sine a w
      have hco : ∀ w, Calls Try.prog 21 #[.int .i64 a] w fun e w' => e = .returned (.int .i64 (cosM a)) ∧ w = w' := fun w => impl_Cosine a w
      have ht1 : ∀ w, Calls Try.prog 16 #[.int .i64 a, .int .i64 b] w fun e w' => e = .returned (.int .i64 T) ∧ w = w' := fun w => by rw [← hT]; exact impl_Turn a b w
      have ht2 : ∀ w, Calls Try.prog 16 #[.int .i64 b, .int .i64 a] w fun e w' => e = .returned (.int .i64 T) ∧ w = w' := fun w => by rw [← t2]; exact impl_Turn b a w
      have ht3 : ∀ w, Calls Try.prog 16 #[.int .i64 a, .int .i64 a] w fun e w' => e = .returned (.int .i64 0) ∧ w = w' := fun w => by rw [← t3]; exact impl_Turn a a w
      have q1 := sq_lim (sinM_bd a)
      have q2 := sq_lim (cosM_bd a)
      have q3 := sum_ok a
      have q4 := sinM_bd a
      have q5 := cosM_bd a
      generalize sinM a = s at hsi q1 q3 q4
      generalize cosM a = c at hco q2 q3 q5
      clear t2 t3 hT
      go_wp2_with (first | (go_at_call 20; refine (hsi _).mono ?_; rintro e w' ⟨rfl, rfl⟩) | (go_at_call 21; refine (hco _).mono ?_; rintro e w' ⟨rfl, rfl⟩) | (go_at_call 16; with_reducible refine (ht1 _).mono ?_; rintro e w' ⟨rfl, rfl⟩) | (go_at_call 16; with_reducible refine (ht2 _).mono ?_; rintro e w' ⟨rfl, rfl⟩) | (go_at_call 16; with_reducible refine (ht3 _).mono ?_; rintro e w' ⟨rfl, rfl⟩))
      go_ret
      exact ⟨rfl, bnext (bnext hB0 (show Below w.heap.size w _ by go_grown)) hbt⟩
    · have hmv : ∀ w, Calls Try.prog 18 #[.agg #[.int .i64 x1, .int .i64 y1], .int .i64 X, .int .i64 D] w fun e w' => e = .returned (.tuple #[.agg #[.int .i64 0, .int .i64 0], .int .i64 (mvC x1 y1 X D)]) ∧ Below w.heap.size w w' := fun w => by
        have h := impl_Move x1 y1 X D w
        unfold mvV at h
        rw [if_neg hm, if_neg hm] at h
        exact h
      generalize mvC x1 y1 X D = cm at hmv hm
      clear hX hD
      have nX1 : ¬ X < 0 := by omega
      have nX2 : ¬ 359 < X := by omega
      have nX3 : X ≤ 359 := by omega
      have nX4 : 0 ≤ X := by omega
      have dX1 : decide (X < 0) = false := decide_eq_false nX1
      have dX2 : decide (359 < X) = false := decide_eq_false nX2
      go_wp2_with (first | (go_at_call 14; with_reducible refine (hbe _).mono ?_; rintro e w1 ⟨rfl, hb1⟩; have hB1 := bnext (w := w) (by go_grown) hb1; have hS1 := hB1.size; ((have hz1 : w.heap.size < w1.heap.size := by have := hb1.size; (try simp only [World.size_alloc, World.size_setCell, World.size_drew] at this); omega); (have hy1 : w.heap.size + 1 < w1.heap.size := by have := hb1.size; (try simp only [World.size_alloc, World.size_setCell, World.size_drew] at this); omega)); obtain ⟨hc1, hf1⟩ := bcell hb1; clear hb1) | (go_at_call 14; with_reducible refine (hbf _).mono ?_; rintro e w1 ⟨rfl, hb1⟩; have hB1 := bnext (w := w) (by go_grown) hb1; have hS1 := hB1.size; ((have hz1 : w.heap.size < w1.heap.size := by have := hb1.size; (try simp only [World.size_alloc, World.size_setCell, World.size_drew] at this); omega); (have hy1 : w.heap.size + 1 < w1.heap.size := by have := hb1.size; (try simp only [World.size_alloc, World.size_setCell, World.size_drew] at this); omega)); obtain ⟨hc1, hf1⟩ := bcell hb1; clear hb1) | (go_at_call 15; refine (spec_ValidPoint _ _ _).mono ?_; rintro e w1 ⟨rfl, hb1⟩; have hB1 := bnext (w := w) (by go_grown) hb1; have hS1 := hB1.size; ((have hz1 : w.heap.size < w1.heap.size := by have := hb1.size; (try simp only [World.size_alloc, World.size_setCell, World.size_drew] at this); omega); (have hy1 : w.heap.size + 1 < w1.heap.size := by have := hb1.size; (try simp only [World.size_alloc, World.size_setCell, World.size_drew] at this); omega)); obtain ⟨hc1, hf1⟩ := bcell hb1; clear hb1) | (go_at_call 16; with_reducible refine (htu _).mono ?_; rintro e w' ⟨rfl, rfl⟩) | (go_at_call 17; with_reducible refine (hdi _).mono ?_; rintro e w1 ⟨rfl, hb1⟩; have hB1 := bnext (w := w) (by go_grown) hb1; have hS1 := hB1.size; ((have hz1 : w.heap.size < w1.heap.size := by have := hb1.size; (try simp only [World.size_alloc, World.size_setCell, World.size_drew] at this); omega); (have hy1 : w.heap.size + 1 < w1.heap.size := by have := hb1.size; (try simp only [World.size_alloc, World.size_setCell, World.size_drew] at this); omega)); obtain ⟨hc1, hf1⟩ := bcell hb1; clear hb1) | (go_at_call 17; with_reducible refine (hde _).mono ?_; rintro e w1 ⟨rfl, hb1⟩; have hB1 := bnext (w := w) (by go_grown) hb1; have hS1 := hB1.size; (skip); obtain ⟨hc1, hf1⟩ := bcell hb1; clear hb1) | (go_at_call 18; refine (hmv _).mono ?_; rintro e w1 ⟨rfl, hb1⟩; have hB1 := bnext (w := w) (by go_grown) hb1; have hS1 := hB1.size; ((have hz1 : w.heap.size < w1.heap.size := by have := hb1.size; (try simp only [World.size_alloc, World.size_setCell, World.size_drew] at this); omega); (have hy1 : w.heap.size + 1 < w1.heap.size := by have := hb1.size; (try simp only [World.size_alloc, World.size_setCell, World.size_drew] at this); omega)); obtain ⟨hc1, hf1⟩ := bcell hb1; clear hb1))
      clear hbf hdi hmv
      clear hbe
      refine (draw_turn L1 _ _ W.heap.size _ (S1.out.below (bnext hB0 (show Below w.heap.size w _ by go_grown))) (bnext hB0 (show Below w.heap.size w _ by go_grown)).size U1.out (by omega)).mono ?_
      rintro e wt ⟨a, b, ha, hb, rfl, hbt⟩
      have i1 := has_i64 ha
      have i2 := has_i64 hb
      have t1 := turnM_bd a b
      have t2 := turn_sym b a
      have t3 := turn_self a
      obtain ⟨T, hT⟩ : ∃ T, turnM a b = T := ⟨_, rfl⟩
      rw [hT] at t1 t2
      have hsi : ∀ w, Calls Try.prog 20 #[.int .i64 a] w fun e w' => e = .returned (.int .i64 (sinM a)) ∧ w = w' := fun w => impl_Sine a w
      have hco : ∀ w, Calls Try.prog 21 #[.int .i64 a] w fun e w' => e = .returned (.int .i64 (cosM a)) ∧ w = w' := fun w => impl_Cosine a w
      have ht1 : ∀ w, Calls Try.prog 16 #[.int .i64 a, .int .i64 b] w fun e w' => e = .returned (.int .i64 T) ∧ w = w' := fun w => by rw [← hT]; exact impl_Turn a b w
      have ht2 : ∀ w, Calls Try.prog 16 #[.int .i64 b, .int .i64 a] w fun e w' => e = .returned (.int .i64 T) ∧ w = w' := fun w => by rw [← t2]; exact impl_Turn b a w
      have ht3 : ∀ w, Calls Try.prog 16 #[.int .i64 a, .int .i64 a] w fun e w' => e = .returned (.int .i64 0) ∧ w = w' := fun w => by rw [← t3]; exact impl_Turn a a w
      have q1 := sq_lim (sinM_bd a)
      have q2 := sq_lim (cosM_bd a)
      have q3 := sum_ok a
      have q4 := sinM_bd a
      have q5 := cosM_bd a
      generalize sinM a = s at hsi q1 q3 q4
      generalize cosM a = c at hco q2 q3 q5
      clear t2 t3 hT
      go_wp2_with (first | (go_at_call 20; refine (hsi _).mono ?_; rintro e w' ⟨rfl, rfl⟩) | (go_at_call 21; refine (hco _).mono ?_; rintro e w' ⟨rfl, rfl⟩) | (go_at_call 16; with_reducible refine (ht1 _).mono ?_; rintro e w' ⟨rfl, rfl⟩) | (go_at_call 16; with_reducible refine (ht2 _).mono ?_; rintro e w' ⟨rfl, rfl⟩) | (go_at_call 16; with_reducible refine (ht3 _).mono ?_; rintro e w' ⟨rfl, rfl⟩))
      go_ret
      exact ⟨rfl, bnext (bnext hB0 (show Below w.heap.size w _ by go_grown)) hbt⟩
  · have g1 : (y1 == y2) = false := beq_eq_false_iff_ne.2 e
    clear e hn
    by_cases hm : mvC x1 y1 X D = 0
    · have hmv : ∀ w, Calls Try.prog 18 #[.agg #[.int .i64 x1, .int .i64 y1], .int .i64 X, .int .i64 D] w fun e w' => e = .returned (.tuple #[.agg #[.int .i64 (mvX x1 X D), .int .i64 (mvY y1 X D)], .int .i64 0]) ∧ Below w.heap.size w w' := fun w => by
        have h := impl_Move x1 y1 X D w
        unfold mvV at h
        rw [hm, if_pos rfl, if_pos rfl] at h
        exact h
      have hvp := mv_valid hm
      have hpb := vPoint_yes hvp
      have hE := near_end x1 y1 x1 y2 a1 a2 a3 a4
      rw [hX, hD] at hE
      have hde : ∀ w, Calls Try.prog 17 #[.agg #[.int .i64 (mvX x1 X D), .int .i64 (mvY y1 X D)], .agg #[.int .i64 x1, .int .i64 y2]] w fun e w' => e = .returned (.int .i64 (distM (mvX x1 X D) (mvY y1 X D) x1 y2)) ∧ Below w.heap.size w w' := fun w => spec_Distance _ _ _ _ w hpb.1 hpb.2 a3 a4
      have hEb := distM_bd hpb.1 hpb.2 a3 a4
      generalize distM (mvX x1 X D) (mvY y1 X D) x1 y2 = E at hE hde hEb
      generalize mvX x1 X D = px at *
      generalize mvY y1 X D = py at *
      clear hm hvp hpb hX hD
      have nX1 : ¬ X < 0 := by omega
      have nX2 : ¬ 359 < X := by omega
      have nX3 : X ≤ 359 := by omega
      have nX4 : 0 ≤ X := by omega
      have dX1 : decide (X < 0) = false := decide_eq_false nX1
      have dX2 : decide (359 < X) = false := decide_eq_false nX2
      go_wp2_with (first | (go_at_call 14; with_reducible refine (hbe _).mono ?_; rintro e w1 ⟨rfl, hb1⟩; have hB1 := bnext (w := w) (by go_grown) hb1; have hS1 := hB1.size; ((have hz1 : w.heap.size < w1.heap.size := by have := hb1.size; (try simp only [World.size_alloc, World.size_setCell, World.size_drew] at this); omega); (have hy1 : w.heap.size + 1 < w1.heap.size := by have := hb1.size; (try simp only [World.size_alloc, World.size_setCell, World.size_drew] at this); omega)); obtain ⟨hc1, hf1⟩ := bcell hb1; clear hb1) | (go_at_call 14; with_reducible refine (hbf _).mono ?_; rintro e w1 ⟨rfl, hb1⟩; have hB1 := bnext (w := w) (by go_grown) hb1; have hS1 := hB1.size; ((have hz1 : w.heap.size < w1.heap.size := by have := hb1.size; (try simp only [World.size_alloc, World.size_setCell, World.size_drew] at this); omega); (have hy1 : w.heap.size + 1 < w1.heap.size := by have := hb1.size; (try simp only [World.size_alloc, World.size_setCell, World.size_drew] at this); omega)); obtain ⟨hc1, hf1⟩ := bcell hb1; clear hb1) | (go_at_call 15; refine (spec_ValidPoint _ _ _).mono ?_; rintro e w1 ⟨rfl, hb1⟩; have hB1 := bnext (w := w) (by go_grown) hb1; have hS1 := hB1.size; ((have hz1 : w.heap.size < w1.heap.size := by have := hb1.size; (try simp only [World.size_alloc, World.size_setCell, World.size_drew] at this); omega); (have hy1 : w.heap.size + 1 < w1.heap.size := by have := hb1.size; (try simp only [World.size_alloc, World.size_setCell, World.size_drew] at this); omega)); obtain ⟨hc1, hf1⟩ := bcell hb1; clear hb1) | (go_at_call 16; with_reducible refine (htu _).mono ?_; rintro e w' ⟨rfl, rfl⟩) | (go_at_call 17; with_reducible refine (hdi _).mono ?_; rintro e w1 ⟨rfl, hb1⟩; have hB1 := bnext (w := w) (by go_grown) hb1; have hS1 := hB1.size; ((have hz1 : w.heap.size < w1.heap.size := by have := hb1.size; (try simp only [World.size_alloc, World.size_setCell, World.size_drew] at this); omega); (have hy1 : w.heap.size + 1 < w1.heap.size := by have := hb1.size; (try simp only [World.size_alloc, World.size_setCell, World.size_drew] at this); omega)); obtain ⟨hc1, hf1⟩ := bcell hb1; clear hb1) | (go_at_call 17; with_reducible refine (hde _).mono ?_; rintro e w1 ⟨rfl, hb1⟩; have hB1 := bnext (w := w) (by go_grown) hb1; have hS1 := hB1.size; (skip); obtain ⟨hc1, hf1⟩ := bcell hb1; clear hb1) | (go_at_call 18; refine (hmv _).mono ?_; rintro e w1 ⟨rfl, hb1⟩; have hB1 := bnext (w := w) (by go_grown) hb1; have hS1 := hB1.size; ((have hz1 : w.heap.size < w1.heap.size := by have := hb1.size; (try simp only [World.size_alloc, World.size_setCell, World.size_drew] at this); omega); (have hy1 : w.heap.size + 1 < w1.heap.size := by have := hb1.size; (try simp only [World.size_alloc, World.size_setCell, World.size_drew] at this); omega)); obtain ⟨hc1, hf1⟩ := bcell hb1; clear hb1))
      clear hbf hdi hmv hde
      clear hbe
      refine (draw_turn L1 _ _ W.heap.size _ (S1.out.below (bnext hB0 (show Below w.heap.size w _ by go_grown))) (bnext hB0 (show Below w.heap.size w _ by go_grown)).size U1.out (by omega)).mono ?_
      rintro e wt ⟨a, b, ha, hb, rfl, hbt⟩
      have i1 := has_i64 ha
      have i2 := has_i64 hb
      have t1 := turnM_bd a b
      have t2 := turn_sym b a
      have t3 := turn_self a
      obtain ⟨T, hT⟩ : ∃ T, turnM a b = T := ⟨_, rfl⟩
      rw [hT] at t1 t2
      have hsi : ∀ w, Calls Try.prog 20 #[.int .i64 a] w fun e w' => e = .returned (.int .i64 (sinM a)) ∧ w = w' := fun w => impl_Sine a w
      have hco : ∀ w, Calls Try.prog 21 #[.int .i64 a] w fun e w' => e = .returned (.int .i64 (cosM a)) ∧ w = w' := fun w => impl_Cosine a w
      have ht1 : ∀ w, Calls Try.prog 16 #[.int .i64 a, .int .i64 b] w fun e w' => e = .returned (.int .i64 T) ∧ w = w' := fun w => by rw [← hT]; exact impl_Turn a b w
      have ht2 : ∀ w, Calls Try.prog 16 #[.int .i64 b, .int .i64 a] w fun e w' => e = .returned (.int .i64 T) ∧ w = w' := fun w => by rw [← t2]; exact impl_Turn b a w
      have ht3 : ∀ w, Calls Try.prog 16 #[.int .i64 a, .int .i64 a] w fun e w' => e = .returned (.int .i64 0) ∧ w = w' := fun w => by rw [← t3]; exact impl_Turn a a w
      have q1 := sq_lim (sinM_bd a)
      have q2 := sq_lim (cosM_bd a)
      have q3 := sum_ok a
      have q4 := sinM_bd a
      have q5 := cosM_bd a
      generalize sinM a = s at hsi q1 q3 q4
      generalize cosM a = c at hco q2 q3 q5
      clear t2 t3 hT
      go_wp2_with (first | (go_at_call 20; refine (hsi _).mono ?_; rintro e w' ⟨rfl, rfl⟩) | (go_at_call 21; refine (hco _).mono ?_; rintro e w' ⟨rfl, rfl⟩) | (go_at_call 16; with_reducible refine (ht1 _).mono ?_; rintro e w' ⟨rfl, rfl⟩) | (go_at_call 16; with_reducible refine (ht2 _).mono ?_; rintro e w' ⟨rfl, rfl⟩) | (go_at_call 16; with_reducible refine (ht3 _).mono ?_; rintro e w' ⟨rfl, rfl⟩))
      go_ret
      exact ⟨rfl, bnext (bnext hB0 (show Below w.heap.size w _ by go_grown)) hbt⟩
    · have hmv : ∀ w, Calls Try.prog 18 #[.agg #[.int .i64 x1, .int .i64 y1], .int .i64 X, .int .i64 D] w fun e w' => e = .returned (.tuple #[.agg #[.int .i64 0, .int .i64 0], .int .i64 (mvC x1 y1 X D)]) ∧ Below w.heap.size w w' := fun w => by
        have h := impl_Move x1 y1 X D w
        unfold mvV at h
        rw [if_neg hm, if_neg hm] at h
        exact h
      generalize mvC x1 y1 X D = cm at hmv hm
      clear hX hD
      have nX1 : ¬ X < 0 := by omega
      have nX2 : ¬ 359 < X := by omega
      have nX3 : X ≤ 359 := by omega
      have nX4 : 0 ≤ X := by omega
      have dX1 : decide (X < 0) = false := decide_eq_false nX1
      have dX2 : decide (359 < X) = false := decide_eq_false nX2
      go_wp2_with (first | (go_at_call 14; with_reducible refine (hbe _).mono ?_; rintro e w1 ⟨rfl, hb1⟩; have hB1 := bnext (w := w) (by go_grown) hb1; have hS1 := hB1.size; ((have hz1 : w.heap.size < w1.heap.size := by have := hb1.size; (try simp only [World.size_alloc, World.size_setCell, World.size_drew] at this); omega); (have hy1 : w.heap.size + 1 < w1.heap.size := by have := hb1.size; (try simp only [World.size_alloc, World.size_setCell, World.size_drew] at this); omega)); obtain ⟨hc1, hf1⟩ := bcell hb1; clear hb1) | (go_at_call 14; with_reducible refine (hbf _).mono ?_; rintro e w1 ⟨rfl, hb1⟩; have hB1 := bnext (w := w) (by go_grown) hb1; have hS1 := hB1.size; ((have hz1 : w.heap.size < w1.heap.size := by have := hb1.size; (try simp only [World.size_alloc, World.size_setCell, World.size_drew] at this); omega); (have hy1 : w.heap.size + 1 < w1.heap.size := by have := hb1.size; (try simp only [World.size_alloc, World.size_setCell, World.size_drew] at this); omega)); obtain ⟨hc1, hf1⟩ := bcell hb1; clear hb1) | (go_at_call 15; refine (spec_ValidPoint _ _ _).mono ?_; rintro e w1 ⟨rfl, hb1⟩; have hB1 := bnext (w := w) (by go_grown) hb1; have hS1 := hB1.size; ((have hz1 : w.heap.size < w1.heap.size := by have := hb1.size; (try simp only [World.size_alloc, World.size_setCell, World.size_drew] at this); omega); (have hy1 : w.heap.size + 1 < w1.heap.size := by have := hb1.size; (try simp only [World.size_alloc, World.size_setCell, World.size_drew] at this); omega)); obtain ⟨hc1, hf1⟩ := bcell hb1; clear hb1) | (go_at_call 16; with_reducible refine (htu _).mono ?_; rintro e w' ⟨rfl, rfl⟩) | (go_at_call 17; with_reducible refine (hdi _).mono ?_; rintro e w1 ⟨rfl, hb1⟩; have hB1 := bnext (w := w) (by go_grown) hb1; have hS1 := hB1.size; ((have hz1 : w.heap.size < w1.heap.size := by have := hb1.size; (try simp only [World.size_alloc, World.size_setCell, World.size_drew] at this); omega); (have hy1 : w.heap.size + 1 < w1.heap.size := by have := hb1.size; (try simp only [World.size_alloc, World.size_setCell, World.size_drew] at this); omega)); obtain ⟨hc1, hf1⟩ := bcell hb1; clear hb1) | (go_at_call 17; with_reducible refine (hde _).mono ?_; rintro e w1 ⟨rfl, hb1⟩; have hB1 := bnext (w := w) (by go_grown) hb1; have hS1 := hB1.size; (skip); obtain ⟨hc1, hf1⟩ := bcell hb1; clear hb1) | (go_at_call 18; refine (hmv _).mono ?_; rintro e w1 ⟨rfl, hb1⟩; have hB1 := bnext (w := w) (by go_grown) hb1; have hS1 := hB1.size; ((have hz1 : w.heap.size < w1.heap.size := by have := hb1.size; (try simp only [World.size_alloc, World.size_setCell, World.size_drew] at this); omega); (have hy1 : w.heap.size + 1 < w1.heap.size := by have := hb1.size; (try simp only [World.size_alloc, World.size_setCell, World.size_drew] at this); omega)); obtain ⟨hc1, hf1⟩ := bcell hb1; clear hb1))
      clear hbf hdi hmv
      clear hbe
      refine (draw_turn L1 _ _ W.heap.size _ (S1.out.below (bnext hB0 (show Below w.heap.size w _ by go_grown))) (bnext hB0 (show Below w.heap.size w _ by go_grown)).size U1.out (by omega)).mono ?_
      rintro e wt ⟨a, b, ha, hb, rfl, hbt⟩
      have i1 := has_i64 ha
      have i2 := has_i64 hb
      have t1 := turnM_bd a b
      have t2 := turn_sym b a
      have t3 := turn_self a
      obtain ⟨T, hT⟩ : ∃ T, turnM a b = T := ⟨_, rfl⟩
      rw [hT] at t1 t2
      have hsi : ∀ w, Calls Try.prog 20 #[.int .i64 a] w fun e w' => e = .returned (.int .i64 (sinM a)) ∧ w = w' := fun w => impl_Sine a w
      have hco : ∀ w, Calls Try.prog 21 #[.int .i64 a] w fun e w' => e = .returned (.int .i64 (cosM a)) ∧ w = w' := fun w => impl_Cosine a w
      have ht1 : ∀ w, Calls Try.prog 16 #[.int .i64 a, .int .i64 b] w fun e w' => e = .returned (.int .i64 T) ∧ w = w' := fun w => by rw [← hT]; exact impl_Turn a b w
      have ht2 : ∀ w, Calls Try.prog 16 #[.int .i64 b, .int .i64 a] w fun e w' => e = .returned (.int .i64 T) ∧ w = w' := fun w => by rw [← t2]; exact impl_Turn b a w
      have ht3 : ∀ w, Calls Try.prog 16 #[.int .i64 a, .int .i64 a] w fun e w' => e = .returned (.int .i64 0) ∧ w = w' := fun w => by rw [← t3]; exact impl_Turn a a w
      have q1 := sq_lim (sinM_bd a)
      have q2 := sq_lim (cosM_bd a)
      have q3 := sum_ok a
      have q4 := sinM_bd a
      have q5 := cosM_bd a
      generalize sinM a = s at hsi q1 q3 q4
      generalize cosM a = c at hco q2 q3 q5
      clear t2 t3 hT
      go_wp2_with (first | (go_at_call 20; refine (hsi _).mono ?_; rintro e w' ⟨rfl, rfl⟩) | (go_at_call 21; refine (hco _).mono ?_; rintro e w' ⟨rfl, rfl⟩) | (go_at_call 16; with_reducible refine (ht1 _).mono ?_; rintro e w' ⟨rfl, rfl⟩) | (go_at_call 16; with_reducible refine (ht2 _).mono ?_; rintro e w' ⟨rfl, rfl⟩) | (go_at_call 16; with_reducible refine (ht3 _).mono ?_; rintro e w' ⟨rfl, rfl⟩))
      go_ret
      exact ⟨rfl, bnext (bnext hB0 (show Below w.heap.size w _ by go_grown)) hbt⟩

theorem lifted (os : Os) (started : os.Started) (H : Type) (enc : TypeId × Value → H) :
    ReturnsInHanded {} Try.checked os 3 .any (Rows.fnBearingsSpec.pre6 enc Try.prog Try.f3 Rows.fnBearingsRow.domain false) (Rows.fnBearingsSpec.post enc Try.prog Try.f3 false true false false) := by
  refine returnsInHanded_of_change (C := Try.checked) own started (by kernel_rfl) Try.func3
    (ChangeSpec.witness6 (enc := enc) (C := Try.checked) false ⟨#[], #[.slice none 0 0, .slice none 0 0], []⟩ 8 (by kernel_rfl) (by kernel_rfl) (by kernel_rfl) (by kernel_rfl)) ?_
  intro W base args ds gs before hval0 hW hcnd _
  have hval : ∀ (j : Nat) t v, Try.f3.params[j]? = some t → args[j]? = some v → Value.okWide Try.prog W .any base t v := hval0
  have hW' := hW
  obtain ⟨p, q, hA0, hV, rfl, hfz, hnd⟩ := hW
  have hA : DataW.TrodAll enc Try.prog W 0 (fun _ => true) true Try.f3.params.toList args.toList ds p := hA0
  rw [Try.params3] at hA hval
  obtain ⟨v0, vs0, d0, ds0, p0, q0, hargs, rfl, rfl, h0, r0⟩ := trodAll_cons hA
  obtain ⟨v1, vs1, d1, ds1, p1, q1, rfl, rfl, rfl, h1, r1⟩ := trodAll_cons r0
  obtain ⟨rfl, rfl, rfl⟩ := trodAll_nil r1
  obtain rfl : args = #[v0, v1] := by cases args; simp_all
  have g0 := h0
  have g1 := h1
  obtain ⟨rfl, rfl⟩ := trodVars_none hV
  clear hA0 hval0
  simp only [List.append_nil] at hW'
  have hlt : ∀ x ∈ p0 ++ (p1), x.block < W.heap.size := fun x hx => by simpa using hW'.lt x (by simpa using hx)
  obtain ⟨fu0, hf0⟩ := h0
  obtain ⟨A0, c0, L0, hv0, s0, b0, m0⟩ := open_row8 Try.underlying22 Try.underlying5 (by kernel_rfl) hf0
  obtain ⟨va0, vl0, vc0, rfl⟩ := Go.WideShapes.okWide_slice Try.underlying22 (hval 0 22 _ rfl rfl)
  obtain ⟨rfl, rfl, rfl⟩ : A0 = va0 ∧ L0.length = vl0 ∧ c0 = vc0 := by have := hv0; simp [Value.cells] at this; exact ⟨this.1.symm, this.2.1.symm, this.2.2.symm⟩
  obtain ⟨fu1, hf1⟩ := h1
  obtain ⟨A1, c1, L1, hv1, s1, b1, m1⟩ := open_row8 Try.underlying22 Try.underlying5 (by kernel_rfl) hf1
  obtain ⟨va1, vl1, vc1, rfl⟩ := Go.WideShapes.okWide_slice Try.underlying22 (hval 1 22 _ rfl rfl)
  obtain ⟨rfl, rfl, rfl⟩ : A1 = va1 ∧ L1.length = vl1 ∧ c1 = vc1 := by have := hv1; simp [Value.cells] at this; exact ⟨this.1.symm, this.2.1.symm, this.2.2.symm⟩
  refine (walk W A0 c0 L0 s0 b0 m0 A1 c1 L1 s1 b1 m1).mono fun e W' ⟨he, hg⟩ => ?_
  subst he
  exact ⟨_, rfl, post_below (pa := _) hW' (trodAll_cons_mk (shut_bool Try.underlying4 _) trodAll_mk0) (trodAll_cons_mk (Below.trod laidOut (by kernel_rfl) (of_decide_eq_true (by kernel_rfl)) g0 hg (fun x hx => hlt x (by simp [hx]))) (trodAll_cons_mk (Below.trod laidOut (by kernel_rfl) (of_decide_eq_true (by kernel_rfl)) g1 hg (fun x hx => hlt x (by simp [hx]))) trodAll_mk0)) rfl (by simp) hg⟩

theorem over : Rows.fnBearingsRow.holds Try.pinned (OpenSpec.ofChange Rows.fnBearingsSpec) :=
  OpenClaim.holds_of_wide 3 Try.f3 rfl rfl rfl rfl rfl rfl rfl ⟨rfl, rfl, rfl, rfl, rfl⟩ rfl rfl rfl rfl rfl (by kernel_rfl) Try.func3 (by kernel_rfl)
    (of_decide_eq_true (by kernel_rfl)) (by unfold Func.isWrapper; first | (rw [if_pos (by decide +kernel)]; kernel_rfl) | (rw [if_neg (by decide +kernel)]; exact ⟨rfl, rfl⟩))
    (fun os started H enc _ => lifted os started H enc)

theorem proved : Rows.FnBearingsSaid := over
#print axioms proved
end fnBearings

end Go.Proofs.Ytnikdafbnkedkaa
