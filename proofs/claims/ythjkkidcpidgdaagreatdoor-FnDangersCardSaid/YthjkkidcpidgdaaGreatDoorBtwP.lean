/-
  Plain laws of places and lines, no program in sight: points that divide a segment, distances, the inequality of triangles, places along a line and from its other end. Each under the conditions that it states.
-/
import Derived.Test.YthjkkidcpidgdaaGreatDoorNear
import Derived.Test.YthjkkidcpidgdaaGreatDoorDivN
set_option linter.unusedVariables false
set_option maxRecDepth 100000
set_option linter.unusedSimpArgs false
namespace Go.Proofs.YthjkkidcpidgdaaGreatDoor
/-! ### Points that divide a segment -/
/-- The nearest quotient of a part of d lies between nought and d. -/
theorem divR_part {i n d : Int} (hn : 1 ≤ n) (h0 : 0 ≤ i) (h1 : i ≤ n) : (0 ≤ d → 0 ≤ divR (i * d) n ∧ divR (i * d) n ≤ d) ∧ (d ≤ 0 → d ≤ divR (i * d) n ∧ divR (i * d) n ≤ 0) := by
  have hr := divR_near (a := i * d) hn
  constructor
  · intro hd
    have k1 := Int.mul_nonneg h0 hd
    have k2 := Int.mul_le_mul_of_nonneg_right h1 hd
    refine ⟨divR_nonneg hn k1, ?_⟩
    rcases Int.lt_or_le d (divR (i * d) n) with h | h
    · have k3 := Int.mul_le_mul_of_nonneg_left (show d + 1 ≤ divR (i * d) n by omega) (show 0 ≤ n by omega)
      rw [Int.mul_add] at k3
      omega
    · exact h
  · intro hd
    have k1 := Int.mul_nonpos_of_nonneg_of_nonpos h0 hd
    have k2 := Int.mul_le_mul_of_nonpos_right h1 hd
    refine ⟨?_, divR_nonpos hn k1⟩
    rcases Int.lt_or_le (divR (i * d) n) d with h | h
    · have k3 := Int.mul_le_mul_of_nonneg_left (show divR (i * d) n + 1 ≤ d by omega) (show 0 ≤ n by omega)
      rw [Int.mul_add] at k3
      omega
    · exact h
/-- Whether two ends change places. -/
def turnB (ax ay bx by_ : Int) : Bool := decide (bx < ax) || (decide (ax = bx) && decide (by_ < ay))
def btwC (a b i n : Int) : Int := a + divR (i * (b - a)) n
def btwM (ax ay bx by_ i n : Int) : Int × Int := if turnB ax ay bx by_ then (btwC bx ax (n - i) n, btwC by_ ay (n - i) n) else (btwC ax bx i n, btwC ay by_ i n)
theorem btwC_bd {a b i n : Int} (hn : 1 ≤ n) (h0 : 0 ≤ i) (h1 : i ≤ n) : (a ≤ b → a ≤ btwC a b i n ∧ btwC a b i n ≤ b) ∧ (b ≤ a → b ≤ btwC a b i n ∧ btwC a b i n ≤ a) := by
  have h := divR_part (d := b - a) hn h0 h1
  unfold btwC
  constructor
  · intro hd; have := h.1 (by omega); omega
  · intro hd; have := h.2 (by omega); omega
theorem btwC_in {a b i n lo hi : Int} (hn : 1 ≤ n) (h0 : 0 ≤ i) (h1 : i ≤ n) (ha : lo ≤ a ∧ a ≤ hi) (hb : lo ≤ b ∧ b ≤ hi) : lo ≤ btwC a b i n ∧ btwC a b i n ≤ hi := by
  have h := btwC_bd (a := a) (b := b) hn h0 h1
  rcases Int.le_total a b with hd | hd
  · have := h.1 hd; omega
  · have := h.2 hd; omega
theorem btwC_same (a i n : Int) (hn : 1 ≤ n) : btwC a a i n = a := by
  unfold btwC
  rw [Int.sub_self, Int.mul_zero, divR_ge hn (by omega), Int.ediv_eq_zero_of_lt (by omega) (by omega)]
  omega
theorem turnB_asym {ax ay bx by_ : Int} (h : turnB ax ay bx by_ = true) : turnB bx by_ ax ay = false := by
  unfold turnB at h ⊢
  simp only [Bool.or_eq_true, Bool.and_eq_true, decide_eq_true_eq] at h
  simp only [Bool.or_eq_false_iff, Bool.and_eq_false_imp, decide_eq_true_eq, decide_eq_false_iff_not]
  omega
theorem turnB_none {ax ay bx by_ : Int} (h : turnB ax ay bx by_ = false) (h2 : turnB bx by_ ax ay = false) : ax = bx ∧ ay = by_ := by
  unfold turnB at h h2
  simp only [Bool.or_eq_false_iff, Bool.and_eq_false_imp, decide_eq_true_eq, decide_eq_false_iff_not] at h h2
  omega
/-- Points between two ends are the same from both ends. -/
theorem btw_symm (ax ay bx by_ i n : Int) (hn : 1 ≤ n) : btwM ax ay bx by_ i n = btwM bx by_ ax ay (n - i) n := by
  unfold btwM
  cases h : turnB ax ay bx by_
  · cases h2 : turnB bx by_ ax ay
    · obtain ⟨rfl, rfl⟩ := turnB_none h h2
      simp [btwC_same _ _ _ hn]
    · simp only [Bool.false_eq_true, if_false, if_true]
      rw [show n - (n - i) = i by omega]
  · rw [turnB_asym h]
    simp only [Bool.false_eq_true, if_false, if_true]
theorem btw_in {ax ay bx by_ i n lo hi : Int} (hn : 1 ≤ n) (h0 : 0 ≤ i) (h1 : i ≤ n) (a1 : lo ≤ ax ∧ ax ≤ hi) (a2 : lo ≤ ay ∧ ay ≤ hi) (a3 : lo ≤ bx ∧ bx ≤ hi) (a4 : lo ≤ by_ ∧ by_ ≤ hi) :
    (lo ≤ (btwM ax ay bx by_ i n).1 ∧ (btwM ax ay bx by_ i n).1 ≤ hi) ∧ lo ≤ (btwM ax ay bx by_ i n).2 ∧ (btwM ax ay bx by_ i n).2 ≤ hi := by
  unfold btwM
  split
  · exact ⟨btwC_in hn (by omega) (by omega) a3 a1, btwC_in hn (by omega) (by omega) a4 a2⟩
  · exact ⟨btwC_in hn h0 h1 a1 a3, btwC_in hn h0 h1 a2 a4⟩
/-! ### Distances -/
theorem sqM_nonneg (a b c d : Int) : 0 ≤ sqM a b c d := by
  have h1 := sqr_nonneg (a - c)
  have h2 := sqr_nonneg (b - d)
  unfold sqM; omega
theorem sqM_symm (a b c d : Int) : sqM a b c d = sqM c d a b := by unfold sqM; grind
theorem distM_symm (a b c d : Int) : distM a b c d = distM c d a b := by unfold distM; rw [sqM_symm]
theorem distM_self (a b : Int) : distM a b a b = 0 := by
  unfold distM sqM
  rw [Int.sub_self, Int.sub_self]
  rfl
theorem crossM_symm (ax ay bx by_ px py : Int) : crossM bx by_ ax ay px py = -crossM ax ay bx by_ px py := by unfold crossM; grind
theorem sideM_neg (c : Int) : sideM (-c) = -sideM c := by
  unfold sideM
  split <;> split <;> (try split) <;> omega
theorem alongs (ax ay bx by_ px py : Int) : (ax - bx) * (px - bx) + (ay - by_) * (py - by_) = sqM ax ay bx by_ - ((bx - ax) * (px - ax) + (by_ - ay) * (py - ay)) := by unfold sqM; grind
theorem sqM_zero {a b c d : Int} (h : sqM a b c d ≤ 0) : a = c ∧ b = d := by
  unfold sqM at h
  have h1 := sqr_nonneg (a - c)
  have h2 := sqr_nonneg (b - d)
  have e1 : (a - c) * (a - c) = 0 := by omega
  have e2 : (b - d) * (b - d) = 0 := by omega
  have := Int.mul_eq_zero.1 e1
  have := Int.mul_eq_zero.1 e2
  omega
theorem gap_symm (ax ay bx by_ px py : Int) : gapM ax ay bx by_ px py = gapM bx by_ ax ay px py := by
  have e := alongs ax ay bx by_ px py
  have hz := @sqM_zero ax ay bx by_
  have hs := sqM_symm bx by_ ax ay
  unfold gapM
  rw [e, hs, crossM_symm]
  generalize hA : (bx - ax) * (px - ax) + (by_ - ay) * (py - ay) = al
  by_cases h1 : al ≤ 0
  · rw [if_pos h1]
    by_cases h2 : sqM ax ay bx by_ - al ≤ 0
    · obtain ⟨rfl, rfl⟩ := hz (by omega)
      rw [if_pos h2]
    · rw [if_neg h2, if_pos (by omega)]
  · rw [if_neg h1]
    by_cases h2 : sqM ax ay bx by_ ≤ al
    · rw [if_pos h2, if_pos (by omega)]
    · rw [if_neg h2, if_neg (by omega), if_neg (by omega)]
      congr 1
      omega
theorem cauchy (ax ay bx by_ px py : Int) : crossM ax ay bx by_ px py * crossM ax ay bx by_ px py + ((bx - ax) * (px - ax) + (by_ - ay) * (py - ay)) * ((bx - ax) * (px - ax) + (by_ - ay) * (py - ay)) = sqM ax ay bx by_ * sqM ax ay px py := by unfold crossM sqM; grind
theorem sq_abs (c : Int) : max c (-c) * max c (-c) = c * c := by
  rcases Int.le_total c (-c) with h | h
  · rw [Int.max_eq_right h]; grind
  · rw [Int.max_eq_left h]
theorem gap_le_one (ax ay bx by_ px py : Int) : gapM ax ay bx by_ px py ≤ distM ax ay px py := by
  unfold gapM
  generalize hA : (bx - ax) * (px - ax) + (by_ - ay) * (py - ay) = al
  have hc := cauchy ax ay bx by_ px py
  rw [hA] at hc
  have e2 : sqM bx by_ px py = sqM ax ay px py - 2 * al + sqM ax ay bx by_ := by rw [← hA]; unfold sqM; grind
  split
  · omega
  · rename_i h1
    split
    · unfold distM
      exact rootM_mono (by omega)
    · rename_i h2
      unfold farM distM
      apply rootM_mono
      rw [sq_abs]
      have := sqr_nonneg al
      apply Int.ediv_le_of_le_mul (by omega)
      have e9 : sqM ax ay px py * sqM ax ay bx by_ = sqM ax ay bx by_ * sqM ax ay px py := Int.mul_comm _ _
      omega
theorem gap_le_two (ax ay bx by_ px py : Int) : gapM ax ay bx by_ px py ≤ distM bx by_ px py := by rw [gap_symm]; exact gap_le_one _ _ _ _ _ _
/-- The inequality of triangles, up to the rounding. -/
theorem dist_tri (ax ay bx by_ px py : Int) : distM ax ay bx by_ ≤ distM ax ay px py + distM px py bx by_ + 1 := by
  have hB := rootM_lt _ (sqM_nonneg ax ay px py)
  have hC := rootM_lt _ (sqM_nonneg px py bx by_)
  have hu := rootM_nonneg (sqM ax ay px py)
  have hv := rootM_nonneg (sqM px py bx by_)
  have nB := sqM_nonneg ax ay px py
  have nC := sqM_nonneg px py bx by_
  unfold distM
  generalize rootM (sqM ax ay px py) = u at *
  generalize rootM (sqM px py bx by_) = v at *
  apply rootM_bd (by omega)
  have e : sqM ax ay bx by_ = sqM ax ay px py + sqM px py bx by_ + 2 * ((px - ax) * (bx - px) + (py - ay) * (by_ - py)) := by unfold sqM; grind
  have c : ((px - ax) * (bx - px) + (py - ay) * (by_ - py)) * ((px - ax) * (bx - px) + (py - ay) * (by_ - py)) ≤ sqM ax ay px py * sqM px py bx by_ := by
    have := sqr_nonneg ((px - ax) * (by_ - py) - (py - ay) * (bx - px))
    have e3 : ((px - ax) * (bx - px) + (py - ay) * (by_ - py)) * ((px - ax) * (bx - px) + (py - ay) * (by_ - py)) + ((px - ax) * (by_ - py) - (py - ay) * (bx - px)) * ((px - ax) * (by_ - py) - (py - ay) * (bx - px)) = sqM ax ay px py * sqM px py bx by_ := by unfold sqM; grind
    omega
  generalize (px - ax) * (bx - px) + (py - ay) * (by_ - py) = d at e c
  have hd : d < (u + 1) * (v + 1) := by
    rcases Int.lt_or_le d ((u + 1) * (v + 1)) with h | h
    · exact h
    · have h0 : 0 ≤ (u + 1) * (v + 1) := Int.mul_nonneg (by omega) (by omega)
      have h1 := sq_mono h0 h
      have h2 : sqM ax ay px py * sqM px py bx by_ < (u + 1) * (u + 1) * ((v + 1) * (v + 1)) := by
        rcases Int.lt_or_le 0 (sqM px py bx by_) with h3 | h3
        · exact Int.mul_lt_mul hB (Int.le_of_lt hC) h3 (Int.mul_nonneg (by omega) (by omega))
        · have h4 : sqM px py bx by_ = 0 := by omega
          rw [h4, Int.mul_zero]
          exact Int.mul_pos (Int.mul_pos (by omega) (by omega)) (Int.mul_pos (by omega) (by omega))
      grind
  rw [e]
  grind
/-- A point that divides a segment lies on it. -/
theorem gap_part {ax ay bx by_ i n : Int} (hn : 1 ≤ n) (h0 : 0 ≤ i) (h1 : i ≤ n) : gapM ax ay bx by_ (btwC ax bx i n) (btwC ay by_ i n) = 0 := by
  have px := divR_part (d := bx - ax) hn h0 h1
  have py := divR_part (d := by_ - ay) hn h0 h1
  have nx := divR_near (a := i * (bx - ax)) hn
  have ny := divR_near (a := i * (by_ - ay)) hn
  unfold gapM btwC
  rw [show ax + divR (i * (bx - ax)) n - ax = divR (i * (bx - ax)) n by omega, show ay + divR (i * (by_ - ay)) n - ay = divR (i * (by_ - ay)) n by omega]
  have ec : crossM ax ay bx by_ (ax + divR (i * (bx - ax)) n) (ay + divR (i * (by_ - ay)) n) = (bx - ax) * divR (i * (by_ - ay)) n - (by_ - ay) * divR (i * (bx - ax)) n := by unfold crossM; grind
  rw [ec]
  have es : sqM ax ay bx by_ = (bx - ax) * (bx - ax) + (by_ - ay) * (by_ - ay) := by unfold sqM; grind
  rw [es]
  have d1 : distM ax ay (ax + divR (i * (bx - ax)) n) (ay + divR (i * (by_ - ay)) n) = rootM (divR (i * (bx - ax)) n * divR (i * (bx - ax)) n + divR (i * (by_ - ay)) n * divR (i * (by_ - ay)) n) := by unfold distM sqM; congr 1; grind
  have d2 : distM bx by_ (ax + divR (i * (bx - ax)) n) (ay + divR (i * (by_ - ay)) n) = rootM ((bx - ax - divR (i * (bx - ax)) n) * (bx - ax - divR (i * (bx - ax)) n) + (by_ - ay - divR (i * (by_ - ay)) n) * (by_ - ay - divR (i * (by_ - ay)) n)) := by unfold distM sqM; congr 1; grind
  rw [d1, d2]
  generalize divR (i * (bx - ax)) n = rx at *
  generalize divR (i * (by_ - ay)) n = ry at *
  generalize bx - ax = dx at *
  generalize by_ - ay = dy at *
  have sx : 0 ≤ dx * rx ∧ dx * rx ≤ dx * dx ∧ (dx * rx ≤ 0 → rx = 0) ∧ (dx * dx ≤ dx * rx → dx = rx) := by
    rcases Int.le_total 0 dx with h | h
    · have := px.1 h
      refine ⟨Int.mul_nonneg h this.1, Int.mul_le_mul_of_nonneg_left this.2 h, fun k => ?_, fun k => ?_⟩
      · rcases Int.lt_or_le 0 rx with hr | hr
        · have := Int.mul_pos (show 0 < dx by omega) hr; omega
        · omega
      · rcases Int.lt_or_le rx dx with hr | hr
        · have := Int.mul_lt_mul_of_pos_left hr (show 0 < dx by omega); omega
        · omega
    · have := px.2 h
      refine ⟨Int.mul_nonneg_of_nonpos_of_nonpos h this.2, Int.mul_le_mul_of_nonpos_left h this.1, fun k => ?_, fun k => ?_⟩
      · rcases Int.lt_or_le rx 0 with hr | hr
        · have := Int.mul_pos_of_neg_of_neg (show dx < 0 by omega) hr; omega
        · omega
      · rcases Int.lt_or_le dx rx with hr | hr
        · have := Int.mul_lt_mul_of_neg_left hr (show dx < 0 by omega); omega
        · omega
  have sy : 0 ≤ dy * ry ∧ dy * ry ≤ dy * dy ∧ (dy * ry ≤ 0 → ry = 0) ∧ (dy * dy ≤ dy * ry → dy = ry) := by
    rcases Int.le_total 0 dy with h | h
    · have := py.1 h
      refine ⟨Int.mul_nonneg h this.1, Int.mul_le_mul_of_nonneg_left this.2 h, fun k => ?_, fun k => ?_⟩
      · rcases Int.lt_or_le 0 ry with hr | hr
        · have := Int.mul_pos (show 0 < dy by omega) hr; omega
        · omega
      · rcases Int.lt_or_le ry dy with hr | hr
        · have := Int.mul_lt_mul_of_pos_left hr (show 0 < dy by omega); omega
        · omega
    · have := py.2 h
      refine ⟨Int.mul_nonneg_of_nonpos_of_nonpos h this.2, Int.mul_le_mul_of_nonpos_left h this.1, fun k => ?_, fun k => ?_⟩
      · rcases Int.lt_or_le ry 0 with hr | hr
        · have := Int.mul_pos_of_neg_of_neg (show dy < 0 by omega) hr; omega
        · omega
      · rcases Int.lt_or_le dy ry with hr | hr
        · have := Int.mul_lt_mul_of_neg_left hr (show dy < 0 by omega); omega
        · omega
  split
  · have e1 := sx.2.2.1 (by omega)
    have e2 := sy.2.2.1 (by omega)
    subst e1 e2
    rfl
  · split
    · have e1 := sx.2.2.2 (by omega)
      have e2 := sy.2.2.2 (by omega)
      subst e1 e2
      rw [Int.sub_self, Int.sub_self]
      rfl
    · rename_i hp hq
      have hz : farM (max (dx * ry - dy * rx) (-(dx * ry - dy * rx))) (dx * dx + dy * dy) ≤ 0 := by
        apply farM_lt (by have := sqr_nonneg dx; have := sqr_nonneg dy; omega) (by omega)
        rw [sq_abs]
        have ec : n * (dx * ry - dy * rx) = dx * (n * ry - i * dy) - dy * (n * rx - i * dx) := by grind
        generalize n * rx - i * dx = ex at *
        generalize n * ry - i * dy = ey at *
        generalize dx * ry - dy * rx = c at *
        have hx := mul_bd (x := dx) (y := 2 * ey) (B := max dx (-dx)) (C := n) (by omega) (by omega) (by omega) (by omega)
        have hy := mul_bd (x := dy) (y := 2 * ex) (B := max dy (-dy)) (C := n) (by omega) (by omega) (by omega) (by omega)
        have q1 := sq_abs dx
        have q2 := sq_abs dy
        have p1 : 0 ≤ max dx (-dx) := by omega
        have p2 : 0 ≤ max dy (-dy) := by omega
        generalize max dx (-dx) = X at *
        generalize max dy (-dy) = Y at *
        have h3 : n * (2 * c) ≤ n * (X + Y) ∧ n * (-(X + Y)) ≤ n * (2 * c) := by grind
        have h4 : 2 * c ≤ X + Y := Int.le_of_mul_le_mul_left h3.1 (by omega)
        have h5 : -(X + Y) ≤ 2 * c := Int.le_of_mul_le_mul_left h3.2 (by omega)
        have h6 := (sq_bd (x := 2 * c) (B := X + Y) h5 h4).2
        have h7 := sqr_nonneg (X - Y)
        have h8 := sqr_nonneg c
        have h9 : 0 < dx * dx + dy * dy := by have := sqr_nonneg dx; have := sqr_nonneg dy; omega
        grind
      have := farM_nonneg (max (dx * ry - dy * rx) (-(dx * ry - dy * rx))) (dx * dx + dy * dy)
      omega
theorem gap_btw {ax ay bx by_ i n : Int} (hn : 1 ≤ n) (h0 : 0 ≤ i) (h1 : i ≤ n) : gapM ax ay bx by_ (btwM ax ay bx by_ i n).1 (btwM ax ay bx by_ i n).2 = 0 := by
  unfold btwM
  split
  · rw [gap_symm]
    exact gap_part hn (by omega) (by omega)
  · exact gap_part hn h0 h1
/-! ### Lines: lengths, places along them -/
/-- The length of piece k of a line; of the first k pieces; of all. -/
def segD (P : List RPoint) (k : Nat) : Int := distM (P.getD k default).f0 (P.getD k default).f1 (P.getD (k + 1) default).f0 (P.getD (k + 1) default).f1
def lenTo (P : List RPoint) : Nat → Int
  | 0 => 0
  | k + 1 => lenTo P k + segD P k
def lenM (P : List RPoint) : Int := lenTo P (P.length - 1)
/-- The piece that reaches a distance, and what is left of it. -/
def fndN (P : List RPoint) : Nat → Nat → Int → Nat × Int
  | 0, k, d => (k, d)
  | f + 1, k, d => if segD P k < d then fndN P f (k + 1) (d - segD P k) else (k, d)
def fndM (P : List RPoint) (d : Int) : Nat × Int := fndN P (P.length - 2) 0 d
def partM (P : List RPoint) (k : Nat) (r : Int) : Int × Int := btwM (P.getD k default).f0 (P.getD k default).f1 (P.getD (k + 1) default).f0 (P.getD (k + 1) default).f1 r (segD P k)
def placeM (P : List RPoint) (d : Int) : Int × Int := partM P (fndM P d).1 (fndM P d).2
theorem segD_nonneg (P : List RPoint) (k : Nat) : 0 ≤ segD P k := distM_nonneg _ _ _ _
theorem lenTo_mono (P : List RPoint) {j k : Nat} (h : j ≤ k) : lenTo P j ≤ lenTo P k := by
  induction k with
  | zero => obtain rfl : j = 0 := by omega
            exact Int.le_refl _
  | succ k ih =>
    rcases (by omega : j ≤ k ∨ j = k + 1) with h1 | rfl
    · have := ih h1
      have := segD_nonneg P k
      rw [lenTo]; omega
    · exact Int.le_refl _
theorem lenTo_le (P : List RPoint) {B : Int} (hB : ∀ k, segD P k ≤ B) : ∀ k : Nat, lenTo P k ≤ (k : Int) * B
  | 0 => by simp [lenTo]
  | k + 1 => by
    have h := lenTo_le P hB k
    have h2 := hB k
    rw [lenTo]
    have e : ((k + 1 : Nat) : Int) * B = (k : Int) * B + B := by rw [Int.natCast_add, Int.add_mul]; simp
    rw [e]; omega
theorem fndN_spec (P : List RPoint) (n : Nat) : ∀ (f k : Nat) (d : Int), k + f + 1 = n → 0 ≤ d → lenTo P k + d ≤ lenTo P n →
    (fndN P f k d).1 < n ∧ k ≤ (fndN P f k d).1 ∧ (fndN P f k d).2 = lenTo P k + d - lenTo P (fndN P f k d).1 ∧ 0 ≤ (fndN P f k d).2 ∧ (fndN P f k d).2 ≤ segD P (fndN P f k d).1
  | 0, k, d, hn, h0, hd => by
    subst hn
    rw [Nat.add_zero, lenTo] at hd
    refine ⟨by simp [fndN], by simp [fndN], by simp only [fndN]; omega, h0, ?_⟩
    simp only [fndN]; omega
  | f + 1, k, d, hn, h0, hd => by
    rw [fndN]
    split
    · rename_i h
      have ih := fndN_spec P n f (k + 1) (d - segD P k) (by omega) (by omega) (by rw [lenTo]; omega)
      refine ⟨ih.1, by omega, ?_, ih.2.2.2.1, ih.2.2.2.2⟩
      have := ih.2.2.1
      rw [lenTo] at this
      omega
    · exact ⟨by simp only; omega, by simp, by simp only; omega, h0, by simp only; omega⟩
theorem fndM_spec {P : List RPoint} {d : Int} (h2 : 2 ≤ P.length) (h0 : 0 ≤ d) (hd : d ≤ lenM P) :
    (fndM P d).1 < P.length - 1 ∧ (fndM P d).2 = d - lenTo P (fndM P d).1 ∧ 0 ≤ (fndM P d).2 ∧ (fndM P d).2 ≤ segD P (fndM P d).1 := by
  have h := fndN_spec P (P.length - 1) (P.length - 2) 0 d (by omega) h0 (by rw [lenTo]; unfold lenM at hd; omega)
  refine ⟨h.1, ?_, h.2.2.2.1, h.2.2.2.2⟩
  have := h.2.2.1
  rw [lenTo] at this
  unfold fndM
  omega
theorem btwC_zero (a b n : Int) (hn : 1 ≤ n) : btwC a b 0 n = a := by
  unfold btwC
  rw [Int.zero_mul, divR_ge hn (by omega), Int.ediv_eq_zero_of_lt (by omega) (by omega)]; omega
theorem btwC_all (a b n : Int) (hn : 1 ≤ n) : btwC a b n n = b := by
  have h := divR_near (a := n * (b - a)) hn
  unfold btwC
  have e : n * divR (n * (b - a)) n - n * (b - a) = n * (divR (n * (b - a)) n - (b - a)) := by grind
  rw [e] at h
  obtain ⟨z, hq⟩ : ∃ z, divR (n * (b - a)) n - (b - a) = z := ⟨_, rfl⟩
  rw [hq] at h
  have : z = 0 := by
    rcases (by omega : z = 0 ∨ 1 ≤ z ∨ z ≤ -1) with hz | hz | hz
    · exact hz
    · have := Int.mul_le_mul_of_nonneg_left hz (show 0 ≤ n by omega); omega
    · have := Int.mul_le_mul_of_nonneg_left hz (show 0 ≤ n by omega); omega
  omega
theorem btwM_zero (ax ay bx by_ n : Int) (hn : 1 ≤ n) : btwM ax ay bx by_ 0 n = (ax, ay) := by
  unfold btwM
  split
  · rw [show n - 0 = n by omega, btwC_all _ _ _ hn, btwC_all _ _ _ hn]
  · rw [btwC_zero _ _ _ hn, btwC_zero _ _ _ hn]
theorem btwM_all (ax ay bx by_ n : Int) (hn : 1 ≤ n) : btwM ax ay bx by_ n n = (bx, by_) := by
  rw [btw_symm _ _ _ _ _ _ hn, Int.sub_self, btwM_zero _ _ _ _ _ hn]
theorem partM_zero {P : List RPoint} {k : Nat} (hs : 1 ≤ segD P k) : partM P k 0 = ((P.getD k default).f0, (P.getD k default).f1) := btwM_zero _ _ _ _ _ hs
theorem partM_all {P : List RPoint} {k : Nat} (hs : 1 ≤ segD P k) : partM P k (segD P k) = ((P.getD (k + 1) default).f0, (P.getD (k + 1) default).f1) := btwM_all _ _ _ _ _ hs
/-- Any piece that reaches the distance gives the place. -/
theorem placeM_at {P : List RPoint} {d : Int} {k : Nat} (h2 : 2 ≤ P.length) (hs : ∀ j, j < P.length - 1 → 1 ≤ segD P j) (hk : k < P.length - 1) (h0 : lenTo P k ≤ d) (h1 : d ≤ lenTo P (k + 1)) : placeM P d = partM P k (d - lenTo P k) := by
  have hd0 : 0 ≤ d := Int.le_trans (lenTo_mono P (Nat.zero_le k)) h0
  have hd1 : d ≤ lenM P := Int.le_trans h1 (lenTo_mono P (by omega))
  have hf := fndM_spec h2 hd0 hd1
  unfold placeM
  generalize (fndM P d).1 = j at *
  generalize (fndM P d).2 = r at *
  obtain ⟨hj, rfl, hr0, hr1⟩ := hf
  rcases (by omega : j = k ∨ j < k ∨ k < j) with rfl | hjk | hjk
  · rfl
  · -- j < k
    have m1 := lenTo_mono P (show j + 1 ≤ k by omega)
    have e1 : lenTo P (j + 1) = lenTo P j + segD P j := rfl
    have hkj : k = j + 1 := by
      rcases (by omega : k = j + 1 ∨ j + 2 ≤ k) with h | h
      · exact h
      · have m2 := lenTo_mono P h
        have e2 : lenTo P (j + 2) = lenTo P (j + 1) + segD P (j + 1) := rfl
        have := hs (j + 1) (by omega)
        omega
    subst hkj
    have ed : d - lenTo P j = segD P j := by omega
    have ed2 : d - lenTo P (j + 1) = 0 := by omega
    rw [ed, ed2, partM_all (hs _ hj), partM_zero (hs _ hk)]
  · have m1 := lenTo_mono P (show k + 1 ≤ j by omega)
    have e1 : lenTo P (k + 1) = lenTo P k + segD P k := rfl
    have hkj : j = k + 1 := by
      rcases (by omega : j = k + 1 ∨ k + 2 ≤ j) with h | h
      · exact h
      · have m2 := lenTo_mono P h
        have e2 : lenTo P (k + 2) = lenTo P (k + 1) + segD P (k + 1) := rfl
        have := hs (k + 1) (by omega)
        omega
    subst hkj
    have ed : d - lenTo P k = segD P k := by omega
    have ed2 : d - lenTo P (k + 1) = 0 := by omega
    rw [ed, ed2, partM_all (hs _ hk), partM_zero (hs _ hj)]
/-! ### The line from its other end -/
theorem rev_get (P : List RPoint) {j : Nat} (h : j < P.length) : P.reverse.getD j default = P.getD (P.length - 1 - j) default := by
  rw [List.getD_eq_getElem?_getD, List.getD_eq_getElem?_getD, List.getElem?_reverse h]
theorem rev_seg (P : List RPoint) {j : Nat} (h : j + 1 < P.length) : segD P.reverse j = segD P (P.length - 2 - j) := by
  unfold segD
  rw [rev_get P (show j < P.length by omega), rev_get P h, distM_symm]
  rw [show P.length - 1 - (j + 1) = P.length - 2 - j by omega, show P.length - 2 - j + 1 = P.length - 1 - j by omega]
theorem rev_len (P : List RPoint) : ∀ j : Nat, j + 1 ≤ P.length → lenTo P.reverse j = lenM P - lenTo P (P.length - 1 - j)
  | 0, h => by simp [lenTo, lenM]
  | j + 1, h => by
    rw [lenTo, rev_len P j (by omega), rev_seg P (by omega)]
    have e : P.length - 1 - j = (P.length - 2 - j) + 1 := by omega
    rw [e, lenTo, show P.length - 1 - (j + 1) = P.length - 2 - j by omega]
    omega
theorem rev_lenM (P : List RPoint) (h : 1 ≤ P.length) : lenM P.reverse = lenM P := by
  have := rev_len P (P.length - 1) (by omega)
  rw [show P.length - 1 - (P.length - 1) = 0 by omega] at this
  unfold lenM at this ⊢
  rw [List.length_reverse, this, lenTo]
  omega
theorem rev_place {P : List RPoint} {d : Int} (h2 : 2 ≤ P.length) (hs : ∀ j, j < P.length - 1 → 1 ≤ segD P j) (h0 : 0 ≤ d) (hd : d ≤ lenM P) : placeM P.reverse (lenM P - d) = placeM P d := by
  have hf := fndM_spec h2 h0 hd
  have e : placeM P d = partM P (fndM P d).1 (fndM P d).2 := rfl
  rw [e]
  generalize (fndM P d).1 = k at *
  generalize (fndM P d).2 = r at *
  obtain ⟨hk, rfl, hr0, hr1⟩ := hf
  have e1 : lenTo P (k + 1) = lenTo P k + segD P k := rfl
  have l1 := rev_len P (P.length - 2 - k) (by omega)
  have l2 := rev_len P (P.length - 2 - k + 1) (by omega)
  rw [show P.length - 1 - (P.length - 2 - k) = k + 1 by omega] at l1
  rw [show P.length - 1 - (P.length - 2 - k + 1) = k by omega] at l2
  rw [placeM_at (k := P.length - 2 - k) (by rw [List.length_reverse]; exact h2) (fun j hj => by
    rw [List.length_reverse] at hj
    rw [rev_seg P (by omega)]
    exact hs _ (by omega)) (by rw [List.length_reverse]; omega) (by omega) (by omega)]
  unfold partM
  rw [rev_seg P (by omega), rev_get P (by omega), rev_get P (by omega)]
  rw [show P.length - 1 - (P.length - 2 - k) = k + 1 by omega, show P.length - 1 - (P.length - 2 - k + 1) = k by omega, show P.length - 2 - (P.length - 2 - k) = k by omega]
  rw [btw_symm _ _ _ _ _ _ (hs _ hk)]
  congr 1
  omega
end Go.Proofs.YthjkkidcpidgdaaGreatDoor
