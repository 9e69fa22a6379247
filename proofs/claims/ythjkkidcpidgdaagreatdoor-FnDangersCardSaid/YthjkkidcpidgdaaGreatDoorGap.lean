/-
  Contracts of products that are split, and of the distance of a point from a segment: the program's and the reference's. Each under the conditions that it states.
-/
import Derived.Test.YthjkkidcpidgdaaGreatDoorLead2
set_option linter.unusedVariables false
set_option linter.unnecessarySimpa false
set_option maxRecDepth 100000
set_option linter.unusedSimpArgs false
namespace Go.Proofs.YthjkkidcpidgdaaGreatDoor
open Go.RowKit BigFrame

theorem sqr_nonneg (a : Int) : 0 ≤ a * a := by
  rcases Int.le_total 0 a with h | h
  · exact Int.mul_nonneg h h
  · exact Int.mul_nonneg_of_nonpos_of_nonpos h h
/-- The greatest r whose square times all is at most the square of x. -/
def farM (x all : Int) : Int := rootM (x * x / all)
theorem far_iff {x all r : Int} (ha : 1 ≤ all) (hr : 1 ≤ r) : r * r * all ≤ x * x ↔ r ≤ farM x all := by
  unfold farM
  rw [← rootM_iff _ _ hr]
  exact (Int.le_ediv_iff_mul_le (by omega)).symm
theorem farM_nonneg (x all : Int) : 0 ≤ farM x all := rootM_nonneg _
theorem farM_lt {x all m : Int} (ha : 1 ≤ all) (hm : 0 ≤ m) (h : x * x < (m + 1) * (m + 1) * all) : farM x all ≤ m := by
  rcases Int.lt_or_le m (farM x all) with h1 | h1
  · have := (far_iff (x := x) ha (show 1 ≤ m + 1 by omega)).2 (by omega)
    omega
  · exact h1
/-- A product by its high and its low part. -/
theorem split_le {x y M : Int} (hM : 0 < M) : (x / M < y / M ∨ (x / M = y / M ∧ x % M ≤ y % M)) ↔ x ≤ y := by
  have h1 := Int.ediv_mul_add_emod x M
  have h2 := Int.ediv_mul_add_emod y M
  have r1 := Int.emod_nonneg x (show M ≠ 0 by omega)
  have r2 := Int.emod_nonneg y (show M ≠ 0 by omega)
  have r3 := Int.emod_lt_of_pos x hM
  have r4 := Int.emod_lt_of_pos y hM
  constructor
  · rintro (h | ⟨h, h'⟩)
    · have := Int.mul_le_mul_of_nonneg_right (show x / M + 1 ≤ y / M by omega) (show 0 ≤ M by omega)
      rw [Int.add_mul] at this
      omega
    · rw [h] at h1; omega
  · intro h
    rcases Int.lt_trichotomy (x / M) (y / M) with h3 | h3 | h3
    · exact Or.inl h3
    · refine Or.inr ⟨h3, ?_⟩; rw [h3] at h1; omega
    · exfalso
      have := Int.mul_le_mul_of_nonneg_right (show y / M + 1 ≤ x / M by omega) (show 0 ≤ M by omega)
      rw [Int.add_mul] at this
      omega
theorem prod20 (a b : Int) : a / 1048576 * b + a % 1048576 * b / 1048576 = a * b / 1048576 ∧ a % 1048576 * b % 1048576 = a * b % 1048576 := by
  have h := Int.ediv_mul_add_emod a 1048576
  have e : a * b = a % 1048576 * b + 1048576 * (a / 1048576 * b) := by
    have : a * b = (a / 1048576 * 1048576 + a % 1048576) * b := by rw [h]
    rw [this]; grind
  constructor
  · rw [e, Int.add_mul_ediv_left _ _ (by omega)]; omega
  · rw [e, Int.add_mul_emod_self_left]
theorem prod6 (a b : Int) : a / 1000000 * (b / 1000000) + ((a / 1000000 * (b % 1000000) + a % 1000000 * (b / 1000000)) * 1000000 + a % 1000000 * (b % 1000000)) / 1000000000000 = a * b / 1000000000000 ∧ ((a / 1000000 * (b % 1000000) + a % 1000000 * (b / 1000000)) * 1000000 + a % 1000000 * (b % 1000000)) % 1000000000000 = a * b % 1000000000000 := by
  have h1 := Int.ediv_mul_add_emod a 1000000
  have h2 := Int.ediv_mul_add_emod b 1000000
  have e : a * b = ((a / 1000000 * (b % 1000000) + a % 1000000 * (b / 1000000)) * 1000000 + a % 1000000 * (b % 1000000)) + 1000000000000 * (a / 1000000 * (b / 1000000)) := by
    have : a * b = (a / 1000000 * 1000000 + a % 1000000) * (b / 1000000 * 1000000 + b % 1000000) := by rw [h1, h2]
    rw [this]; grind
  constructor
  · rw [e, Int.add_mul_ediv_left _ _ (by omega)]; omega
  · rw [e, Int.add_mul_emod_self_left]
/-- The distance from the line is within bounds. -/
theorem cross_lim {ax ay bx by_ px py : Int} (h1 : 0 ≤ ax ∧ ax ≤ 200000) (h2 : 0 ≤ ay ∧ ay ≤ 200000) (h3 : 0 ≤ bx ∧ bx ≤ 200000) (h4 : 0 ≤ by_ ∧ by_ ≤ 200000) (h5 : 0 ≤ px ∧ px ≤ 200000) (h6 : 0 ≤ py ∧ py ≤ 200000) :
    crossM ax ay bx by_ px py * crossM ax ay bx by_ px py ≤ 80000000000 * sqM ax ay bx by_ := by
  have hq := sqM_bd h1 h2 h5 h6
  have hs : 0 ≤ sqM ax ay bx by_ := (sqM_bd h1 h2 h3 h4).1
  have e : crossM ax ay bx by_ px py * crossM ax ay bx by_ px py + ((px - ax) * (bx - ax) + (py - ay) * (by_ - ay)) * ((px - ax) * (bx - ax) + (py - ay) * (by_ - ay)) = sqM ax ay px py * sqM ax ay bx by_ := by unfold crossM sqM; grind
  have n := sqr_nonneg ((px - ax) * (bx - ax) + (py - ay) * (by_ - ay))
  have := Int.mul_le_mul_of_nonneg_right hq.2 hs
  omega

def gapM (ax ay bx by_ px py : Int) : Int := if (bx - ax) * (px - ax) + (by_ - ay) * (py - ay) ≤ 0 then distM ax ay px py else if sqM ax ay bx by_ ≤ (bx - ax) * (px - ax) + (by_ - ay) * (py - ay) then distM bx by_ px py else farM (max (crossM ax ay bx by_ px py) (-(crossM ax ay bx by_ px py))) (sqM ax ay bx by_)
theorem mul_lim {u v : Int} (h1 : -200000 ≤ u ∧ u ≤ 200000) (h2 : -200000 ≤ v ∧ v ≤ 200000) : -40000000000 ≤ u * v ∧ u * v ≤ 40000000000 := by
  have a := Int.mul_nonneg (show 0 ≤ 200000 - u by omega) (show 0 ≤ 200000 - v by omega)
  have b := Int.mul_nonneg (show 0 ≤ 200000 + u by omega) (show 0 ≤ 200000 + v by omega)
  have c := Int.mul_nonneg (show 0 ≤ 200000 - u by omega) (show 0 ≤ 200000 + v by omega)
  have d := Int.mul_nonneg (show 0 ≤ 200000 + u by omega) (show 0 ≤ 200000 - v by omega)
  have e1 : (200000 - u) * (200000 - v) = 40000000000 - 200000 * u - 200000 * v + u * v := by grind
  have e2 : (200000 + u) * (200000 + v) = 40000000000 + 200000 * u + 200000 * v + u * v := by grind
  have e3 : (200000 - u) * (200000 + v) = 40000000000 - 200000 * u + 200000 * v - u * v := by grind
  have e4 : (200000 + u) * (200000 - v) = 40000000000 + 200000 * u - 200000 * v - u * v := by grind
  omega
theorem far_lim {c q : Int} (hq : 1 ≤ q) (h : c * c ≤ 80000000000 * q) : farM (max c (-c)) q ≤ 300000 := by
  refine farM_lt hq (by omega) ?_
  have e : max c (-c) * max c (-c) = c * c := by
    rcases Int.le_total 0 c with h | h
    · rw [show max c (-c) = c by omega]
    · rw [show max c (-c) = -c by omega, Int.neg_mul_neg]
  rw [e]
  omega
theorem far_step {x all a b F : Int} (ha : 1 ≤ all) (hF : farM x all = F) (h0 : 0 ≤ a) (h1 : a ≤ F) (h2 : F ≤ b) (h3 : a < b) : 1 ≤ (a + b + 1) / 2 ∧ (a + b + 1) / 2 ≤ b ∧ a < (a + b + 1) / 2 ∧ ((a + b + 1) / 2 * ((a + b + 1) / 2) * all ≤ x * x ↔ (a + b + 1) / 2 ≤ F) := by
  refine ⟨by omega, by omega, by omega, ?_⟩
  rw [far_iff ha (by omega), hF]
theorem impl_product (a b : Int) (w : World) (h1 : 0 ≤ a ∧ a ≤ 200000000000) (h2 : 0 ≤ b ∧ b ≤ 200000000000) :
    Calls Tryz.prog 125 #[.int .i64 a, .int .i64 b] w fun e w' => e = .returned (.tuple #[.int .i64 (a * b / 1048576), .int .i64 (a * b % 1048576)]) ∧ w = w' := by
  have k1 := Int.mul_le_mul (show a % 1048576 ≤ 1048575 by omega) h2.2 h2.1 (by omega)
  have k2 := Int.mul_nonneg (show 0 ≤ a % 1048576 by omega) h2.1
  have k3 := Int.mul_le_mul (show a / 1048576 ≤ 190735 by omega) h2.2 h2.1 (by omega)
  have k4 := Int.mul_nonneg (show 0 ≤ a / 1048576 by omega) h2.1
  have hp := Lib.hid (prod20 a b)
  go_enter Tryz.func125, Tryz.ntmps125
  go_wp2
  go_ret2
  refine ⟨?_, rfl⟩
  rw [← hp.out.1, ← hp.out.2]
  rfl

theorem impl_atMost (a b c d : Int) (w : World) (h1 : 0 ≤ a ∧ a ≤ 200000000000) (h2 : 0 ≤ b ∧ b ≤ 200000000000) (h3 : 0 ≤ c ∧ c ≤ 200000000000) (h4 : 0 ≤ d ∧ d ≤ 200000000000) :
    Calls Tryz.prog 102 #[.int .i64 a, .int .i64 b, .int .i64 c, .int .i64 d] w fun e w' => e = .returned (.bool (decide (a * b ≤ c * d))) ∧ w = w' := by
  have hsp := split_le (x := a * b) (y := c * d) (M := 1048576) (by omega)
  have hp1 := fun w => impl_product a b w h1 h2
  have hp2 := fun w => impl_product c d w h3 h4
  obtain ⟨H, hH⟩ : ∃ H, a * b / 1048576 = H := ⟨_, rfl⟩
  obtain ⟨L, hL⟩ : ∃ H, a * b % 1048576 = H := ⟨_, rfl⟩
  obtain ⟨H2, hH2⟩ : ∃ H, c * d / 1048576 = H := ⟨_, rfl⟩
  obtain ⟨L2, hL2⟩ : ∃ H, c * d % 1048576 = H := ⟨_, rfl⟩
  rw [hH, hL, hH2, hL2] at hsp
  rw [hH, hL] at hp1
  rw [hH2, hL2] at hp2
  have yes : (H < H2 ∨ (H = H2 ∧ L ≤ L2)) → Hid (decide (a * b ≤ c * d) = true) := fun h => Lib.hid (decide_eq_true (hsp.1 h))
  have no : ¬ (H < H2 ∨ (H = H2 ∧ L ≤ L2)) → Hid (decide (a * b ≤ c * d) = false) := fun h => Lib.hid (decide_eq_false (fun q => h (hsp.2 q)))
  clear hH hL hH2 hL2 hsp h1 h2 h3 h4
  generalize decide (a * b ≤ c * d) = Q at yes no ⊢
  rcases (by omega : H < H2 ∨ (¬ H < H2 ∧ H = H2 ∧ L ≤ L2) ∨ (¬ H < H2 ∧ H = H2 ∧ ¬ L ≤ L2) ∨ (¬ H < H2 ∧ ¬ H = H2)) with g | ⟨g, g2, g3⟩ | ⟨g, g2, g3⟩ | ⟨g, g2⟩
  · have HR := yes (by omega)
    have d1 : decide (H < H2) = true := decide_eq_true g
    clear yes no
    go_enter Tryz.func102, Tryz.ntmps102
    go_wp2_with (first | (go_at_call 125; with_reducible refine (hp1 _).mono ?_; rintro e w' ⟨rfl, rfl⟩) | (go_at_call 125; with_reducible refine (hp2 _).mono ?_; rintro e w' ⟨rfl, rfl⟩))
    go_ret
    exact ⟨ret_bool HR.out.symm, rfl⟩
  · have HR := yes (by omega)
    have d1 : decide (H < H2) = false := decide_eq_false g
    have d2 : decide (L ≤ L2) = true := decide_eq_true g3
    have g4 : (H == H2) = true := beq_iff_eq.2 g2
    clear yes no g2
    go_enter Tryz.func102, Tryz.ntmps102
    go_wp2_with (first | (go_at_call 125; with_reducible refine (hp1 _).mono ?_; rintro e w' ⟨rfl, rfl⟩) | (go_at_call 125; with_reducible refine (hp2 _).mono ?_; rintro e w' ⟨rfl, rfl⟩))
    go_ret
    exact ⟨ret_bool HR.out.symm, rfl⟩
  · have HR := no (by omega)
    have d1 : decide (H < H2) = false := decide_eq_false g
    have d2 : decide (L ≤ L2) = false := decide_eq_false g3
    have g4 : (H == H2) = true := beq_iff_eq.2 g2
    clear yes no g2
    go_enter Tryz.func102, Tryz.ntmps102
    go_wp2_with (first | (go_at_call 125; with_reducible refine (hp1 _).mono ?_; rintro e w' ⟨rfl, rfl⟩) | (go_at_call 125; with_reducible refine (hp2 _).mono ?_; rintro e w' ⟨rfl, rfl⟩))
    go_ret
    exact ⟨ret_bool HR.out.symm, rfl⟩
  · have HR := no (by omega)
    have d1 : decide (H < H2) = false := decide_eq_false g
    have g4 : (H == H2) = false := beq_eq_false_iff_ne.2 g2
    clear yes no g2
    go_enter Tryz.func102, Tryz.ntmps102
    go_wp2_with (first | (go_at_call 125; with_reducible refine (hp1 _).mono ?_; rintro e w' ⟨rfl, rfl⟩) | (go_at_call 125; with_reducible refine (hp2 _).mono ?_; rintro e w' ⟨rfl, rfl⟩))
    go_ret
    exact ⟨ret_bool HR.out.symm, rfl⟩

theorem arePoints_3 (x1 y1 x2 y2 x3 y3 : Int) (g : Nat) (w : World) (hg : g < w.heap.size) (c0 : w.cell? ⟨g, 0, none⟩ = some (.int .i64 x1)) (c1 : w.cell? ⟨g, 1, none⟩ = some (.int .i64 y1)) (c2 : w.cell? ⟨g, 2, none⟩ = some (.int .i64 x2)) (c3 : w.cell? ⟨g, 3, none⟩ = some (.int .i64 y2)) (c4 : w.cell? ⟨g, 4, none⟩ = some (.int .i64 x3)) (c5 : w.cell? ⟨g, 5, none⟩ = some (.int .i64 y3)) (hv : vPoint x1 y1 = true) (hv2 : vPoint x2 y2 = true) (hv3 : vPoint x3 y3 = true) :
    Calls Tryz.prog 75 #[.slice (some ⟨g, 0, none⟩) 3 3] w fun e w' => e = .returned (.bool true) ∧ Below w.heap.size w w' := by
  have hs : Sl w w.heap.size (some ⟨g, 0, none⟩) (pcells [(x1, y1), (x2, y2), (x3, y3)]) := fun _ => ⟨g, 0, rfl, hg, fun j u hu => by
    rw [Nat.zero_add]
    match j, hu with
    | 0, hu => simp [pcells] at hu; rw [c0, hu]
    | 1, hu => simp [pcells] at hu; rw [c1, hu]
    | 2, hu => simp [pcells] at hu; rw [c2, hu]
    | 3, hu => simp [pcells] at hu; rw [c3, hu]
    | 4, hu => simp [pcells] at hu; rw [c4, hu]
    | 5, hu => simp [pcells] at hu; rw [c5, hu]
    | j + 6, hu => simp [pcells] at hu⟩
  have h := arePoints_any [(x1, y1), (x2, y2), (x3, y3)] _ 3 _ w hs (Nat.le_refl _) (by simp)
  have e : vPoints [(x1, y1), (x2, y2), (x3, y3)] = true := by simp [vPoints, hv, hv2, hv3]
  rw [e] at h
  exact h
set_option maxHeartbeats 1600000 in
theorem impl_DTS (ax ay bx by_ px py : Int) (w : World) (b1 : 0 ≤ ax ∧ ax ≤ 200000) (b2 : 0 ≤ ay ∧ ay ≤ 200000) (b3 : 0 ≤ bx ∧ bx ≤ 200000) (b4 : 0 ≤ by_ ∧ by_ ≤ 200000) (b5 : 0 ≤ px ∧ px ≤ 200000) (b6 : 0 ≤ py ∧ py ≤ 200000) :
    Calls Tryz.prog 76 #[.agg #[.int .i64 ax, .int .i64 ay], .agg #[.int .i64 bx, .int .i64 by_], .agg #[.int .i64 px, .int .i64 py]] w fun e w' => e = .returned (.int .i64 (gapM ax ay bx by_ px py)) ∧ Below w.heap.size w w' := by
  have v1 : vPoint ax ay = true := by unfold vPoint; rw [inB_mk b1.1 b1.2, inB_mk b2.1 b2.2]; rfl
  have v2 : vPoint bx by_ = true := by unfold vPoint; rw [inB_mk b3.1 b3.2, inB_mk b4.1 b4.2]; rfl
  have v3 : vPoint px py = true := by unfold vPoint; rw [inB_mk b5.1 b5.2, inB_mk b6.1 b6.2]; rfl
  have m1 := mul_lim (u := bx - ax) (v := px - ax) (by omega) (by omega)
  have m2 := mul_lim (u := by_ - ay) (v := py - ay) (by omega) (by omega)
  have m3 := mul_lim (u := px - ax) (v := bx - ax) (by omega) (by omega)
  have m4 := mul_lim (u := py - ay) (v := by_ - ay) (by omega) (by omega)
  have hal2 : (px - ax) * (bx - ax) + (py - ay) * (by_ - ay) = (bx - ax) * (px - ax) + (by_ - ay) * (py - ay) := by rw [Int.mul_comm (px - ax), Int.mul_comm (py - ay)]
  have hqb := sqM_bd b1 b2 b3 b4
  have hcl := cross_lim b1 b2 b3 b4 b5 b6
  have hcb := crossM_bd b1 b2 b3 b4 b5 b6
  have hgd : gapM ax ay bx by_ px py = if (bx - ax) * (px - ax) + (by_ - ay) * (py - ay) ≤ 0 then distM ax ay px py else if sqM ax ay bx by_ ≤ (bx - ax) * (px - ax) + (by_ - ay) * (py - ay) then distM bx by_ px py else farM (max (crossM ax ay bx by_ px py) (-(crossM ax ay bx by_ px py))) (sqM ax ay bx by_) := rfl
  rw [← hal2] at hgd
  obtain ⟨al, hal⟩ : ∃ al, (px - ax) * (bx - ax) + (py - ay) * (by_ - ay) = al := ⟨_, rfl⟩
  rw [hal] at hgd
  have hsq := fun w => impl_squared ax ay bx by_ w b1 b2 b3 b4
  have ha1 := fun w => impl_Distance ax ay px py w b1 b2 b5 b6
  have ha2 := fun w => impl_Distance bx by_ px py w b3 b4 b5 b6
  have hcr := fun w => impl_cross ax ay bx by_ px py w b1 b2 b3 b4 b5 b6
  obtain ⟨q, hqe⟩ : ∃ q, sqM ax ay bx by_ = q := ⟨_, rfl⟩
  obtain ⟨cc, hce⟩ : ∃ q, crossM ax ay bx by_ px py = q := ⟨_, rfl⟩
  rw [hqe] at hgd hqb hcl hsq
  rw [hce] at hgd hcl hcb hcr
  clear hqe hce hal2 m1 m2
  rcases (by omega : al ≤ 0 ∨ (¬ al ≤ 0 ∧ q ≤ al) ∨ (¬ al ≤ 0 ∧ ¬ q ≤ al)) with h | ⟨h, h2⟩ | ⟨h, h2⟩
  · have HG : Hid (gapM ax ay bx by_ px py = distM ax ay px py) := Lib.hid (by rw [hgd, if_pos h])
    clear hgd hcl ha2 hcr
    go_enter Tryz.func76, Tryz.ntmps76
    go_wp2_with (first | (go_at_call 75; refine (arePoints_3 ax ay bx by_ px py _ _ (by simp) (by simp [go_sem]) (by simp [go_sem]) (by simp [go_sem]) (by simp [go_sem]) (by simp [go_sem]) (by simp [go_sem]) v1 v2 v3).mono ?_; rintro e w1 ⟨rfl, hb1⟩; have hB1 := bnext (w := w) (by go_grown) hb1; have hS1 := hB1.size; ((have hz1 : w.heap.size < w1.heap.size := by have := hb1.size; (try simp only [World.size_alloc, World.size_setCell, World.size_drew] at this); omega); (have hy1 : w.heap.size + 1 < w1.heap.size := by have := hb1.size; (try simp only [World.size_alloc, World.size_setCell, World.size_drew] at this); omega); (have hx1 : w.heap.size + 2 < w1.heap.size := by have := hb1.size; (try simp only [World.size_alloc, World.size_setCell, World.size_drew] at this); omega)); obtain ⟨hc1, hf1⟩ := bcell hb1; clear hb1) | (go_at_call 89; refine (hsq _).mono ?_; rintro e w1 ⟨rfl, hb1⟩; have hB1 := bnext (w := w) (by go_grown) hb1; have hS1 := hB1.size; ((have hz1 : w.heap.size < w1.heap.size := by have := hb1.size; (try simp only [World.size_alloc, World.size_setCell, World.size_drew] at this); omega); (have hy1 : w.heap.size + 1 < w1.heap.size := by have := hb1.size; (try simp only [World.size_alloc, World.size_setCell, World.size_drew] at this); omega); (have hx1 : w.heap.size + 2 < w1.heap.size := by have := hb1.size; (try simp only [World.size_alloc, World.size_setCell, World.size_drew] at this); omega)); obtain ⟨hc1, hf1⟩ := bcell hb1; clear hb1) | (go_at_call 52; refine (ha1 _).mono ?_; rintro e w1 ⟨rfl, hb1⟩; have hB1 := bnext (w := w) (by go_grown) hb1; have hS1 := hB1.size; (skip); obtain ⟨hc1, hf1⟩ := bcell hb1; clear hb1))
    go_ret
    exact ⟨ret_int HG.out.symm, hB1⟩
  · have HG : Hid (gapM ax ay bx by_ px py = distM bx by_ px py) := Lib.hid (by rw [hgd, if_neg h, if_pos h2])
    clear hgd hcl ha1 hcr
    go_enter Tryz.func76, Tryz.ntmps76
    go_wp2_with (first | (go_at_call 75; refine (arePoints_3 ax ay bx by_ px py _ _ (by simp) (by simp [go_sem]) (by simp [go_sem]) (by simp [go_sem]) (by simp [go_sem]) (by simp [go_sem]) (by simp [go_sem]) v1 v2 v3).mono ?_; rintro e w1 ⟨rfl, hb1⟩; have hB1 := bnext (w := w) (by go_grown) hb1; have hS1 := hB1.size; ((have hz1 : w.heap.size < w1.heap.size := by have := hb1.size; (try simp only [World.size_alloc, World.size_setCell, World.size_drew] at this); omega); (have hy1 : w.heap.size + 1 < w1.heap.size := by have := hb1.size; (try simp only [World.size_alloc, World.size_setCell, World.size_drew] at this); omega); (have hx1 : w.heap.size + 2 < w1.heap.size := by have := hb1.size; (try simp only [World.size_alloc, World.size_setCell, World.size_drew] at this); omega)); obtain ⟨hc1, hf1⟩ := bcell hb1; clear hb1) | (go_at_call 89; refine (hsq _).mono ?_; rintro e w1 ⟨rfl, hb1⟩; have hB1 := bnext (w := w) (by go_grown) hb1; have hS1 := hB1.size; ((have hz1 : w.heap.size < w1.heap.size := by have := hb1.size; (try simp only [World.size_alloc, World.size_setCell, World.size_drew] at this); omega); (have hy1 : w.heap.size + 1 < w1.heap.size := by have := hb1.size; (try simp only [World.size_alloc, World.size_setCell, World.size_drew] at this); omega); (have hx1 : w.heap.size + 2 < w1.heap.size := by have := hb1.size; (try simp only [World.size_alloc, World.size_setCell, World.size_drew] at this); omega)); obtain ⟨hc1, hf1⟩ := bcell hb1; clear hb1) | (go_at_call 52; refine (ha2 _).mono ?_; rintro e w1 ⟨rfl, hb1⟩; have hB1 := bnext (w := w) (by go_grown) hb1; have hS1 := hB1.size; (skip); obtain ⟨hc1, hf1⟩ := bcell hb1; clear hb1))
    go_ret
    exact ⟨ret_int HG.out.symm, hB1⟩
  · have HG : Hid (gapM ax ay bx by_ px py = farM (max cc (-cc)) q) := Lib.hid (by rw [hgd, if_neg h, if_neg h2])
    have hF3 := far_lim (by omega) hcl
    have hF0 := farM_nonneg (max cc (-cc)) q
    rcases (by omega : 0 ≤ cc ∨ cc < 0) with hc | hc
    · rw [show max cc (-cc) = cc by omega] at HG hF3 hF0
      have d1 : decide (cc < -cc) = false := decide_eq_false (by omega)
      have d2 : ¬ cc < -cc := by omega
      have hxb : 0 ≤ cc ∧ cc ≤ 80000000000 := by omega
      have hq1 : 1 ≤ q := by omega
      obtain ⟨F, hF⟩ : ∃ F, farM cc q = F := ⟨_, rfl⟩
      rw [hF] at HG hF3 hF0
      have HF := Lib.hid hF
      clear hF hgd hcl ha1 ha2
      go_enter Tryz.func76, Tryz.ntmps76
      go_wp2_with (first | (go_at_call 75; refine (arePoints_3 ax ay bx by_ px py _ _ (by simp) (by simp [go_sem]) (by simp [go_sem]) (by simp [go_sem]) (by simp [go_sem]) (by simp [go_sem]) (by simp [go_sem]) v1 v2 v3).mono ?_; rintro e w1 ⟨rfl, hb1⟩; have hB1 := bnext (w := w) (by go_grown) hb1; have hS1 := hB1.size; ((have hz1 : w.heap.size < w1.heap.size := by have := hb1.size; (try simp only [World.size_alloc, World.size_setCell, World.size_drew] at this); omega); (have hy1 : w.heap.size + 1 < w1.heap.size := by have := hb1.size; (try simp only [World.size_alloc, World.size_setCell, World.size_drew] at this); omega); (have hx1 : w.heap.size + 2 < w1.heap.size := by have := hb1.size; (try simp only [World.size_alloc, World.size_setCell, World.size_drew] at this); omega)); obtain ⟨hc1, hf1⟩ := bcell hb1; clear hb1) | (go_at_call 89; refine (hsq _).mono ?_; rintro e w1 ⟨rfl, hb1⟩; have hB1 := bnext (w := w) (by go_grown) hb1; have hS1 := hB1.size; ((have hz1 : w.heap.size < w1.heap.size := by have := hb1.size; (try simp only [World.size_alloc, World.size_setCell, World.size_drew] at this); omega); (have hy1 : w.heap.size + 1 < w1.heap.size := by have := hb1.size; (try simp only [World.size_alloc, World.size_setCell, World.size_drew] at this); omega); (have hx1 : w.heap.size + 2 < w1.heap.size := by have := hb1.size; (try simp only [World.size_alloc, World.size_setCell, World.size_drew] at this); omega)); obtain ⟨hc1, hf1⟩ := bcell hb1; clear hb1) | (go_at_call 101; refine (hcr _).mono ?_; rintro e w1 ⟨rfl, hb1⟩; have hB1 := bnext (w := w) (by go_grown) hb1; have hS1 := hB1.size; (skip); obtain ⟨hc1, hf1⟩ := bcell hb1; clear hb1))
      clear hsq hcr
      go_loopw [10, 11] (fun lo hi wr => ∃ a b : Int, lo = .int .i64 a ∧ hi = .int .i64 b ∧ (0 ≤ a ∧ a ≤ F) ∧ (F ≤ b ∧ b ≤ 400000) ∧ Below w.heap.size w wr) (fun lo hi _ => (intOf hi - intOf lo).toNat)
      case atStart => exact ⟨0, 400000, rfl, rfl, ⟨by omega, hF0⟩, ⟨by omega, by omega⟩, hB1⟩
      case round =>
        clear hB1 hS1 hc1 hf1
        obtain ⟨a, b, rfl, rfl, ⟨ha0, ha1⟩, ⟨hb0, hb1⟩, hB1⟩ := hrel
        by_cases hab : a < b
        · obtain ⟨q1, q2, q3, q4⟩ := far_step hq1 HF.out ha0 ha1 hb0 hab
          obtain ⟨m, hm⟩ : ∃ m, (a + b + 1) / 2 = m := ⟨_, rfl⟩
          rw [hm] at q1 q2 q3 q4
          have mm : 0 ≤ m * m ∧ m * m ≤ 160000000000 := ⟨sqr_nonneg m, by have := Int.mul_le_mul (show m ≤ 400000 by omega) (show m ≤ 400000 by omega) (by omega) (by omega); omega⟩
          have hat := fun w => impl_atMost (m * m) q cc cc w (by omega) (by omega) (by omega) (by omega)
          by_cases hmF : m ≤ F
          · rw [decide_eq_true (q4.2 hmF)] at hat
            clear q4
            go_wp2_with (go_at_call 102; refine (hat _).mono ?_; rintro e w' ⟨rfl, rfl⟩)
            go_roundw
            case rel => exact ⟨m, b, rfl, rfl, ⟨by omega, hmF⟩, ⟨hb0, hb1⟩, hB1⟩
            case measure => simp [intOf]; omega
          · rw [decide_eq_false (fun h => hmF (q4.1 h))] at hat
            clear q4
            go_wp2_with (go_at_call 102; refine (hat _).mono ?_; rintro e w' ⟨rfl, rfl⟩)
            go_roundw
            case rel => exact ⟨a, m - 1, rfl, rfl, ⟨ha0, ha1⟩, ⟨by omega, by omega⟩, hB1⟩
            case measure => simp [intOf]; omega
        · obtain rfl : a = F := by omega
          go_wp2
          go_ret
          exact ⟨ret_int HG.out.symm, hB1⟩
    · obtain ⟨y, hy⟩ : ∃ y, -cc = y := ⟨_, rfl⟩
      rw [show max cc (-cc) = y by omega] at HG hF3 hF0
      have d1 : decide (cc < y) = true := decide_eq_true (by omega)
      have d2 : cc < y := by omega
      have hxb : 0 ≤ y ∧ y ≤ 80000000000 := by omega
      have hq1 : 1 ≤ q := by omega
      obtain ⟨F, hF⟩ : ∃ F, farM y q = F := ⟨_, rfl⟩
      rw [hF] at HG hF3 hF0
      have HF := Lib.hid hF
      clear hF hgd hcl ha1 ha2
      go_enter Tryz.func76, Tryz.ntmps76
      go_wp2_with (first | (go_at_call 75; refine (arePoints_3 ax ay bx by_ px py _ _ (by simp) (by simp [go_sem]) (by simp [go_sem]) (by simp [go_sem]) (by simp [go_sem]) (by simp [go_sem]) (by simp [go_sem]) v1 v2 v3).mono ?_; rintro e w1 ⟨rfl, hb1⟩; have hB1 := bnext (w := w) (by go_grown) hb1; have hS1 := hB1.size; ((have hz1 : w.heap.size < w1.heap.size := by have := hb1.size; (try simp only [World.size_alloc, World.size_setCell, World.size_drew] at this); omega); (have hy1 : w.heap.size + 1 < w1.heap.size := by have := hb1.size; (try simp only [World.size_alloc, World.size_setCell, World.size_drew] at this); omega); (have hx1 : w.heap.size + 2 < w1.heap.size := by have := hb1.size; (try simp only [World.size_alloc, World.size_setCell, World.size_drew] at this); omega)); obtain ⟨hc1, hf1⟩ := bcell hb1; clear hb1) | (go_at_call 89; refine (hsq _).mono ?_; rintro e w1 ⟨rfl, hb1⟩; have hB1 := bnext (w := w) (by go_grown) hb1; have hS1 := hB1.size; ((have hz1 : w.heap.size < w1.heap.size := by have := hb1.size; (try simp only [World.size_alloc, World.size_setCell, World.size_drew] at this); omega); (have hy1 : w.heap.size + 1 < w1.heap.size := by have := hb1.size; (try simp only [World.size_alloc, World.size_setCell, World.size_drew] at this); omega); (have hx1 : w.heap.size + 2 < w1.heap.size := by have := hb1.size; (try simp only [World.size_alloc, World.size_setCell, World.size_drew] at this); omega)); obtain ⟨hc1, hf1⟩ := bcell hb1; clear hb1) | (go_at_call 101; refine (hcr _).mono ?_; rintro e w1 ⟨rfl, hb1⟩; have hB1 := bnext (w := w) (by go_grown) hb1; have hS1 := hB1.size; (skip); obtain ⟨hc1, hf1⟩ := bcell hb1; clear hb1))
      clear hsq hcr
      go_loopw [10, 11] (fun lo hi wr => ∃ a b : Int, lo = .int .i64 a ∧ hi = .int .i64 b ∧ (0 ≤ a ∧ a ≤ F) ∧ (F ≤ b ∧ b ≤ 400000) ∧ Below w.heap.size w wr) (fun lo hi _ => (intOf hi - intOf lo).toNat)
      case atStart => exact ⟨0, 400000, rfl, rfl, ⟨by omega, hF0⟩, ⟨by omega, by omega⟩, hB1⟩
      case round =>
        clear hB1 hS1 hc1 hf1
        obtain ⟨a, b, rfl, rfl, ⟨ha0, ha1⟩, ⟨hb0, hb1⟩, hB1⟩ := hrel
        by_cases hab : a < b
        · obtain ⟨q1, q2, q3, q4⟩ := far_step hq1 HF.out ha0 ha1 hb0 hab
          obtain ⟨m, hm⟩ : ∃ m, (a + b + 1) / 2 = m := ⟨_, rfl⟩
          rw [hm] at q1 q2 q3 q4
          have mm : 0 ≤ m * m ∧ m * m ≤ 160000000000 := ⟨sqr_nonneg m, by have := Int.mul_le_mul (show m ≤ 400000 by omega) (show m ≤ 400000 by omega) (by omega) (by omega); omega⟩
          have hat := fun w => impl_atMost (m * m) q y y w (by omega) (by omega) (by omega) (by omega)
          by_cases hmF : m ≤ F
          · rw [decide_eq_true (q4.2 hmF)] at hat
            clear q4
            go_wp2_with (go_at_call 102; refine (hat _).mono ?_; rintro e w' ⟨rfl, rfl⟩)
            go_roundw
            case rel => exact ⟨m, b, rfl, rfl, ⟨by omega, hmF⟩, ⟨hb0, hb1⟩, hB1⟩
            case measure => simp [intOf]; omega
          · rw [decide_eq_false (fun h => hmF (q4.1 h))] at hat
            clear q4
            go_wp2_with (go_at_call 102; refine (hat _).mono ?_; rintro e w' ⟨rfl, rfl⟩)
            go_roundw
            case rel => exact ⟨a, m - 1, rfl, rfl, ⟨ha0, ha1⟩, ⟨by omega, by omega⟩, hB1⟩
            case measure => simp [intOf]; omega
        · obtain rfl : a = F := by omega
          go_wp2
          go_ret
          exact ⟨ret_int HG.out.symm, hB1⟩

end Go.Proofs.YthjkkidcpidgdaaGreatDoor
