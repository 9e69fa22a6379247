/-
  Contracts of leading lines: what makes one valid, how far a point is off and ahead: the program's and the reference's. Each under the conditions that it states.
-/
import Derived.Test.YthjkkidcpidgdaaGreatDoorPoints
set_option linter.unusedVariables false
set_option maxRecDepth 100000
set_option linter.unusedSimpArgs false
namespace Go.Proofs.YthjkkidcpidgdaaGreatDoor
open Go.RowKit BigFrame

def vLead (x1 y1 x2 y2 lo hi : Int) : Bool := vPoint x1 y1 && (vPoint x2 y2 && (!(x1 == x2 && y1 == y2) && (inB lo 0 3000 && (inB hi 0 3000 && decide (lo < hi)))))
structure LeadB (x1 y1 x2 y2 lo hi : Int) : Prop where
  b1 : 0 ≤ x1 ∧ x1 ≤ 200000
  b2 : 0 ≤ y1 ∧ y1 ≤ 200000
  b3 : 0 ≤ x2 ∧ x2 ≤ 200000
  b4 : 0 ≤ y2 ∧ y2 ≤ 200000
  bn : ¬ (x1 = x2 ∧ y1 = y2)
  bl : 0 ≤ lo ∧ lo ≤ 3000
  bh : 0 ≤ hi ∧ hi ≤ 3000
  bt : lo < hi
theorem vLead_yes {x1 y1 x2 y2 lo hi : Int} (h : vLead x1 y1 x2 y2 lo hi = true) : LeadB x1 y1 x2 y2 lo hi := by
  simp only [vLead, Bool.and_eq_true, decide_eq_true_eq, inB_yes, Bool.not_eq_true', Bool.and_eq_false_iff, beq_eq_false_iff_ne] at h
  obtain ⟨h1, h2, h3, h4, h5, h6⟩ := h
  exact ⟨(vPoint_yes h1).1, (vPoint_yes h1).2, (vPoint_yes h2).1, (vPoint_yes h2).2, fun ⟨e1, e2⟩ => by rcases h3 with h | h <;> contradiction, h4, h5, h6⟩
theorem sqM_bd {x1 y1 x2 y2 : Int} (h1 : 0 ≤ x1 ∧ x1 ≤ 200000) (h2 : 0 ≤ y1 ∧ y1 ≤ 200000) (h3 : 0 ≤ x2 ∧ x2 ≤ 200000) (h4 : 0 ≤ y2 ∧ y2 ≤ 200000) : 0 ≤ sqM x1 y1 x2 y2 ∧ sqM x1 y1 x2 y2 ≤ 80000000000 := by
  have k1 := sq_bd (x := x1 - x2) (B := 200000) (by omega) (by omega)
  have k2 := sq_bd (x := y1 - y2) (B := 200000) (by omega) (by omega)
  unfold sqM; omega
theorem distM_bd {x1 y1 x2 y2 : Int} (h1 : 0 ≤ x1 ∧ x1 ≤ 200000) (h2 : 0 ≤ y1 ∧ y1 ≤ 200000) (h3 : 0 ≤ x2 ∧ x2 ≤ 200000) (h4 : 0 ≤ y2 ∧ y2 ≤ 200000) : 0 ≤ distM x1 y1 x2 y2 ∧ distM x1 y1 x2 y2 ≤ 282842 :=
  ⟨rootM_nonneg _, rootM_bd (by omega) (by have := sqM_bd h1 h2 h3 h4; omega)⟩
theorem sqM_pos {x1 y1 x2 y2 : Int} (h : ¬ (x1 = x2 ∧ y1 = y2)) : 1 ≤ sqM x1 y1 x2 y2 := by
  have a := sq_bd (x := x1 - x2) (B := (x1 - x2).natAbs) (by omega) (by omega)
  have b := sq_bd (x := y1 - y2) (B := (y1 - y2).natAbs) (by omega) (by omega)
  have pos : ∀ z : Int, z ≠ 0 → 1 ≤ z * z := fun z hz => by
    rcases (by omega : 0 < z ∨ z < 0) with h | h
    · have := Int.mul_pos h h; omega
    · have := Int.mul_pos_of_neg_of_neg h h; omega
  unfold sqM
  by_cases hx : x1 = x2
  · have := pos (y1 - y2) (by omega); omega
  · have := pos (x1 - x2) (by omega); omega
theorem distM_pos {x1 y1 x2 y2 : Int} (h : ¬ (x1 = x2 ∧ y1 = y2)) : 1 ≤ distM x1 y1 x2 y2 := rootM_pos (sqM_pos h)
theorem crossM_bd {x1 y1 x2 y2 p q : Int} (h1 : 0 ≤ x1 ∧ x1 ≤ 200000) (h2 : 0 ≤ y1 ∧ y1 ≤ 200000) (h3 : 0 ≤ x2 ∧ x2 ≤ 200000) (h4 : 0 ≤ y2 ∧ y2 ≤ 200000) (h5 : 0 ≤ p ∧ p ≤ 200000) (h6 : 0 ≤ q ∧ q ≤ 200000) :
    -80000000000 ≤ crossM x1 y1 x2 y2 p q ∧ crossM x1 y1 x2 y2 p q ≤ 80000000000 := by
  have k1 := mul_bd (x := x2 - x1) (y := q - y1) (B := 200000) (C := 200000) (by omega) (by omega) (by omega) (by omega)
  have k2 := mul_bd (x := y2 - y1) (y := p - x1) (B := 200000) (C := 200000) (by omega) (by omega) (by omega) (by omega)
  unfold crossM; omega

theorem impl_Distance (x1 y1 x2 y2 : Int) (w : World) (h1 : 0 ≤ x1 ∧ x1 ≤ 200000) (h2 : 0 ≤ y1 ∧ y1 ≤ 200000) (h3 : 0 ≤ x2 ∧ x2 ≤ 200000) (h4 : 0 ≤ y2 ∧ y2 ≤ 200000) :
    Calls Tryz.prog 52 #[.agg #[.int .i64 x1, .int .i64 y1], .agg #[.int .i64 x2, .int .i64 y2]] w fun e w' => e = .returned (.int .i64 (distM x1 y1 x2 y2)) ∧ Below w.heap.size w w' := by
  have hv1 : vPoint2 x1 y1 x2 y2 = true := by simp [vPoint2, vPoint, inB, h1, h2, h3, h4]
  have hq := sqM_bd h1 h2 h3 h4
  go_enter Tryz.func52, Tryz.ntmps52
  go_wp2_with (first | (go_at_call 75; refine (arePoints_two x1 y1 x2 y2 _ _ (by simp) (by simp [go_sem]) (by simp [go_sem]) (by simp [go_sem]) (by simp [go_sem])).mono ?_; rintro e w1 ⟨rfl, hb1⟩; have hB1 := bnext (w := w) (by go_grown) hb1; have hS1 := hB1.size; ((have hz1 : w.heap.size < w1.heap.size := by have := hb1.size; (try simp only [World.size_alloc, World.size_setCell, World.size_drew] at this); omega); (have hy1 : w.heap.size + 1 < w1.heap.size := by have := hb1.size; (try simp only [World.size_alloc, World.size_setCell, World.size_drew] at this); omega)); obtain ⟨hc1, hf1⟩ := bcell hb1; clear hb1) | (go_at_call 89; refine (impl_squared _ _ _ _ _ h1 h2 h3 h4).mono ?_; rintro e w1 ⟨rfl, hb1⟩; have hB1 := bnext (w := w) (by go_grown) hb1; have hS1 := hB1.size; (skip); obtain ⟨hc1, hf1⟩ := bcell hb1; clear hb1) | (go_at_call 88; refine (impl_RootOf _ _ (by omega)).mono ?_; rintro e w' ⟨rfl, rfl⟩))
  go_ret
  exact ⟨rfl, by go_grown⟩

end Go.Proofs.YthjkkidcpidgdaaGreatDoor
