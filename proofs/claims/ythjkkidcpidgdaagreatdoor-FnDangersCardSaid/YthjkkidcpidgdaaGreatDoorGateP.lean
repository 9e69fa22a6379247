/-
  Plain laws of gates, no program in sight: the sides of a straight line, gates that differ. Each under the conditions that it states.
-/
import Derived.Test.YthjkkidcpidgdaaGreatDoorBtwP
set_option linter.unusedVariables false
set_option maxRecDepth 100000
set_option linter.unusedSimpArgs false
namespace Go.Proofs.YthjkkidcpidgdaaGreatDoor
/-! ### Gates: the sides of a straight line, gates that differ -/
/-- The rounding moves a place by less than half of a unit each way: how far it lies beside the line. -/
theorem cross_part {ax ay bx by_ i n : Int} (hn : 1 ≤ n) : -(max (bx - ax) (-(bx - ax)) + max (by_ - ay) (-(by_ - ay))) ≤ 2 * crossM ax ay bx by_ (btwC ax bx i n) (btwC ay by_ i n) ∧ 2 * crossM ax ay bx by_ (btwC ax bx i n) (btwC ay by_ i n) ≤ max (bx - ax) (-(bx - ax)) + max (by_ - ay) (-(by_ - ay)) := by
  have nx := divR_near (a := i * (bx - ax)) hn
  have ny := divR_near (a := i * (by_ - ay)) hn
  unfold btwC
  have ec : crossM ax ay bx by_ (ax + divR (i * (bx - ax)) n) (ay + divR (i * (by_ - ay)) n) = (bx - ax) * divR (i * (by_ - ay)) n - (by_ - ay) * divR (i * (bx - ax)) n := by unfold crossM; grind
  rw [ec]
  generalize divR (i * (bx - ax)) n = rx at *
  generalize divR (i * (by_ - ay)) n = ry at *
  generalize bx - ax = dx at *
  generalize by_ - ay = dy at *
  have ec : n * (dx * ry - dy * rx) = dx * (n * ry - i * dy) - dy * (n * rx - i * dx) := by grind
  generalize n * rx - i * dx = ex at *
  generalize n * ry - i * dy = ey at *
  generalize dx * ry - dy * rx = c at *
  have hx := mul_bd (x := dx) (y := 2 * ey) (B := max dx (-dx)) (C := n) (by omega) (by omega) (by omega) (by omega)
  have hy := mul_bd (x := dy) (y := 2 * ex) (B := max dy (-dy)) (C := n) (by omega) (by omega) (by omega) (by omega)
  generalize max dx (-dx) = X at *
  generalize max dy (-dy) = Y at *
  have h3 : n * (2 * c) ≤ n * (X + Y) ∧ n * (-(X + Y)) ≤ n * (2 * c) := by grind
  exact ⟨Int.le_of_mul_le_mul_left h3.2 (by omega), Int.le_of_mul_le_mul_left h3.1 (by omega)⟩
theorem cross_btw {ax ay bx by_ i n : Int} (hn : 1 ≤ n) : -(max (bx - ax) (-(bx - ax)) + max (by_ - ay) (-(by_ - ay))) ≤ 2 * crossM ax ay bx by_ (btwM ax ay bx by_ i n).1 (btwM ax ay bx by_ i n).2 ∧ 2 * crossM ax ay bx by_ (btwM ax ay bx by_ i n).1 (btwM ax ay bx by_ i n).2 ≤ max (bx - ax) (-(bx - ax)) + max (by_ - ay) (-(by_ - ay)) := by
  unfold btwM
  split
  · have h := cross_part (ax := bx) (ay := by_) (bx := ax) (by_ := ay) (i := n - i) hn
    rw [crossM_symm] at h
    simp only
    omega
  · exact cross_part hn
/-- How far the sides of a gate lie from its middle. -/
def wingX (uy vy h n : Int) : Int := divR ((vy - uy) * h) n
/-- Both sides of a gate lie on their sides of a straight line. -/
theorem wing_cross {ux uy vx vy h i n : Int} (hd : distM ux uy vx vy = n) (hn : 1 ≤ n) (hh : 5 ≤ h) :
    0 < crossM ux uy vx vy ((btwM ux uy vx vy i n).1 - wingX uy vy h n) ((btwM ux uy vx vy i n).2 + wingX ux vx h n) ∧
    crossM ux uy vx vy ((btwM ux uy vx vy i n).1 + wingX uy vy h n) ((btwM ux uy vx vy i n).2 - wingX ux vx h n) < 0 := by
  have hc := cross_btw (ax := ux) (ay := uy) (bx := vx) (by_ := vy) (i := i) hn
  have nx := divR_near (a := (vx - ux) * h) hn
  have ny := divR_near (a := (vy - uy) * h) hn
  have hl := rootM_le (sqM ux uy vx vy) (sqM_nonneg _ _ _ _)
  have hl' : rootM (sqM ux uy vx vy) = n := hd
  rw [hl'] at hl
  have e1 : crossM ux uy vx vy ((btwM ux uy vx vy i n).1 - wingX uy vy h n) ((btwM ux uy vx vy i n).2 + wingX ux vx h n) = crossM ux uy vx vy (btwM ux uy vx vy i n).1 (btwM ux uy vx vy i n).2 + ((vx - ux) * wingX ux vx h n + (vy - uy) * wingX uy vy h n) := by unfold crossM; grind
  have e2 : crossM ux uy vx vy ((btwM ux uy vx vy i n).1 + wingX uy vy h n) ((btwM ux uy vx vy i n).2 - wingX ux vx h n) = crossM ux uy vx vy (btwM ux uy vx vy i n).1 (btwM ux uy vx vy i n).2 - ((vx - ux) * wingX ux vx h n + (vy - uy) * wingX uy vy h n) := by unfold crossM; grind
  rw [e1, e2]
  generalize crossM ux uy vx vy (btwM ux uy vx vy i n).1 (btwM ux uy vx vy i n).2 = c at *
  unfold wingX
  have es : sqM ux uy vx vy = (vx - ux) * (vx - ux) + (vy - uy) * (vy - uy) := by unfold sqM; grind
  rw [es] at hl
  generalize divR ((vx - ux) * h) n = gx at *
  generalize divR ((vy - uy) * h) n = gy at *
  generalize vx - ux = dx at *
  generalize vy - uy = dy at *
  have hx := mul_bd (x := dx) (y := 2 * (n * gx - dx * h)) (B := max dx (-dx)) (C := n) (by omega) (by omega) (by omega) (by omega)
  have hy := mul_bd (x := dy) (y := 2 * (n * gy - dy * h)) (B := max dy (-dy)) (C := n) (by omega) (by omega) (by omega) (by omega)
  have q1 := sq_abs dx
  have q2 := sq_abs dy
  have p1 : 0 ≤ max dx (-dx) := by omega
  have p2 : 0 ≤ max dy (-dy) := by omega
  generalize max dx (-dx) = X at *
  generalize max dy (-dy) = Y at *
  have k1 : n * (2 * (dx * gx + dy * gy)) = dx * (2 * (n * gx - dx * h)) + dy * (2 * (n * gy - dy * h)) + 2 * h * (dx * dx + dy * dy) := by grind
  have k2 : n * (2 * (dx * gx + dy * gy)) ≥ 2 * h * (dx * dx + dy * dy) - n * (X + Y) := by grind
  -- n times the sum is less than twice the square
  have k3 : n * (X + Y) < 2 * (dx * dx + dy * dy) := by
    have a1 : (X + Y) * (X + Y) ≤ 2 * (dx * dx + dy * dy) := by have := sqr_nonneg (X - Y); grind
    have a0 : 0 ≤ X + Y := by omega
    generalize X + Y = S at *
    generalize dx * dx + dy * dy = T at *
    have hT : 1 ≤ T := by have := sq_mono (a := 1) (b := n) (by omega) hn; omega
    rcases Int.lt_or_le (n * S) (2 * T) with g | g
    · exact g
    · have b1 := sq_mono (show 0 ≤ 2 * T by omega) g
      have b2 : n * S * (n * S) = n * n * (S * S) := by grind
      have b3 : n * n * (S * S) ≤ T * (2 * T) := Int.mul_le_mul hl a1 (sqr_nonneg S) (by omega)
      have b4 : 0 < T * T := Int.mul_pos (by omega) (by omega)
      grind
  have k4 : 2 * 5 * (dx * dx + dy * dy) ≤ 2 * h * (dx * dx + dy * dy) := Int.mul_le_mul_of_nonneg_right (by omega) (by have := sqr_nonneg dx; have := sqr_nonneg dy; omega)
  have k0 : 0 ≤ n * (X + Y) := Int.mul_nonneg (by omega) (by omega)
  have k5 : n * (X + Y) < n * (2 * (dx * gx + dy * gy)) := by omega
  have k6 := Int.lt_of_mul_lt_mul_left k5 (by omega)
  omega
/-- Places on a straight line that are two units apart differ; so does its end from all others. -/
theorem btwC_apart {a b i j n : Int} (hn : 1 ≤ n) (hab : n * n ≤ 2 * ((b - a) * (b - a))) (h : (i + 2 ≤ j ∨ j + 2 ≤ i) ∨ ((j = n ∨ j = 0) ∧ i ≠ j)) : btwC a b i n ≠ btwC a b j n := by
  intro he
  have h1 := divR_near (a := i * (b - a)) hn
  have h2 : -n ≤ 2 * (n * divR (j * (b - a)) n - j * (b - a)) ∧ 2 * (n * divR (j * (b - a)) n - j * (b - a)) ≤ n ∧ ((j = n ∨ j = 0) → n * divR (j * (b - a)) n - j * (b - a) = 0) := by
    refine ⟨(divR_near hn).1, (divR_near hn).2, ?_⟩
    rintro (rfl | rfl)
    · have e := btwC_all a b j hn
      unfold btwC at e
      rw [show divR (j * (b - a)) j = b - a by omega]
      omega
    · have e := btwC_zero a b n hn
      unfold btwC at e
      rw [show divR (0 * (b - a)) n = 0 by omega]
      omega
  have e : divR (i * (b - a)) n = divR (j * (b - a)) n := by unfold btwC at he; omega
  rw [e] at h1
  generalize divR (j * (b - a)) n = r at h1 h2
  generalize b - a = d at *
  obtain ⟨h2, h3, h4⟩ := h2
  -- 2 |d| <= n
  have key : -n ≤ 2 * d ∧ 2 * d ≤ n := by
    have eij : i * d - j * d = (i - j) * d := by grind
    rcases h with (h | h) | ⟨h, h'⟩
    · have q : (j - i) * d = j * d - i * d := by grind
      rcases Int.le_total 0 d with hd | hd
      · have := Int.mul_le_mul_of_nonneg_right (show 2 ≤ j - i by omega) hd; omega
      · have := Int.mul_le_mul_of_nonpos_right (show 2 ≤ j - i by omega) hd; omega
    · rcases Int.le_total 0 d with hd | hd
      · have := Int.mul_le_mul_of_nonneg_right (show 2 ≤ i - j by omega) hd; omega
      · have := Int.mul_le_mul_of_nonpos_right (show 2 ≤ i - j by omega) hd; omega
    · have h5 := h4 h
      rcases (by omega : 1 ≤ i - j ∨ 1 ≤ j - i) with g | g
      · rcases Int.le_total 0 d with hd | hd
        · have := Int.mul_le_mul_of_nonneg_right g hd; omega
        · have := Int.mul_le_mul_of_nonpos_right g hd; omega
      · have q : (j - i) * d = j * d - i * d := by grind
        rcases Int.le_total 0 d with hd | hd
        · have := Int.mul_le_mul_of_nonneg_right g hd; omega
        · have := Int.mul_le_mul_of_nonpos_right g hd; omega
  have := sq_bd (x := 2 * d) (B := n) key.1 key.2
  have h9 := sq_mono (a := 1) (b := n) (by omega) hn
  grind
theorem btwM_apart {ux uy vx vy i j n : Int} (hd : distM ux uy vx vy = n) (hn : 1 ≤ n) (h : (i + 2 ≤ j ∨ j + 2 ≤ i) ∨ (j = n ∧ i ≠ j)) : btwM ux uy vx vy i n ≠ btwM ux uy vx vy j n := by
  have hl := rootM_le (sqM ux uy vx vy) (sqM_nonneg _ _ _ _)
  have hl' : rootM (sqM ux uy vx vy) = n := hd
  rw [hl'] at hl
  have es : sqM ux uy vx vy = (vx - ux) * (vx - ux) + (vy - uy) * (vy - uy) := by unfold sqM; grind
  have es2 : sqM ux uy vx vy = (ux - vx) * (ux - vx) + (uy - vy) * (uy - vy) := by unfold sqM; grind
  intro he
  unfold btwM at he
  split at he
  · injection he with h1 h2
    rw [es2] at hl
    rcases (by omega : n * n ≤ 2 * ((ux - vx) * (ux - vx)) ∨ n * n ≤ 2 * ((uy - vy) * (uy - vy))) with g | g
    · exact btwC_apart hn g (by omega) h1
    · exact btwC_apart hn g (by omega) h2
  · injection he with h1 h2
    rw [es] at hl
    rcases (by omega : n * n ≤ 2 * ((vx - ux) * (vx - ux)) ∨ n * n ≤ 2 * ((vy - uy) * (vy - uy))) with g | g
    · exact btwC_apart hn g (by omega) h1
    · exact btwC_apart hn g (by omega) h2
theorem distM_zero {a b c d : Int} (h : distM a b c d ≤ 0) : a = c ∧ b = d := by
  have := rootM_lt _ (sqM_nonneg a b c d)
  have h1 : rootM (sqM a b c d) = 0 := by have := distM_nonneg a b c d; unfold distM at *; omega
  rw [h1] at this
  exact sqM_zero (by omega)
end Go.Proofs.YthjkkidcpidgdaaGreatDoor
