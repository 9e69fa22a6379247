/-
  Contracts of leading lines, on: one light above the other, the least height: the program's and the reference's. Each under the conditions that it states.
-/
import Derived.Test.YtnikdafbnkedkaaLead3
set_option linter.unusedVariables false
set_option maxRecDepth 100000
set_option linter.unusedSimpArgs false
namespace Go.Proofs.Ytnikdafbnkedkaa
open Go.RowKit BigFrame

def aboveM (x1 y1 x2 y2 lo p q eye h : Int) : Bool := decide ((lo - eye) * distM p q x2 y2 < (h - eye) * distM p q x1 y1)
def askM (x1 y1 x2 y2 lo hi p q eye : Int) : Int := if vLead x1 y1 x2 y2 lo hi && vPoint p q then (if inB eye 0 3000 then (if aheadM x1 y1 x2 y2 p q ≤ 0 then 6 else 0) else 2) else 1
theorem askM_ok {x1 y1 x2 y2 lo hi p q eye : Int} (h : askM x1 y1 x2 y2 lo hi p q eye = 0) : vLead x1 y1 x2 y2 lo hi = true ∧ vPoint p q = true ∧ inB eye 0 3000 = true ∧ 0 < aheadM x1 y1 x2 y2 p q := by
  unfold askM at h
  split at h
  · rename_i h1
    rw [Bool.and_eq_true] at h1
    split at h
    · rename_i h2
      split at h
      · omega
      · exact ⟨h1.1, h1.2, h2, by omega⟩
    · omega
  · omega
/-- A leading line in a variable. -/
def Ld (w : World) (g : Nat) (x1 y1 x2 y2 lo hi : Int) : Prop := g < w.heap.size ∧ w.cell? ⟨g, 0, none⟩ = some (.int .i64 x1) ∧ w.cell? ⟨g, 1, none⟩ = some (.int .i64 y1) ∧ w.cell? ⟨g, 2, none⟩ = some (.int .i64 x2) ∧ w.cell? ⟨g, 3, none⟩ = some (.int .i64 y2) ∧ w.cell? ⟨g, 4, none⟩ = some (.int .i64 lo) ∧ w.cell? ⟨g, 5, none⟩ = some (.int .i64 hi)
theorem Ld.on {w w' : World} {g : Nat} {x1 y1 x2 y2 lo hi : Int} (h : Ld w g x1 y1 x2 y2 lo hi) (hb : Below w.heap.size w w') : Ld w' g x1 y1 x2 y2 lo hi := by
  obtain ⟨h0, h1, h2, h3, h4, h5, h6⟩ := h
  have c := fun o => hb.cell (p := ⟨g, o, none⟩) h0
  exact ⟨Nat.lt_of_lt_of_le h0 hb.size, (c 0).trans h1, (c 1).trans h2, (c 2).trans h3, (c 3).trans h4, (c 4).trans h5, (c 5).trans h6⟩
theorem above_mul {a d : Int} (h1 : -3000 ≤ a) (h2 : a ≤ 4000) (h3 : 0 ≤ d ∧ d ≤ 282842) : -2000000000 ≤ a * d ∧ a * d ≤ 2000000000 := by
  have := mul_bd (x := a) (y := d) (B := 4000) (C := 282842) (by omega) (by omega) (by omega) (by omega)
  omega

theorem impl_above (x1 y1 x2 y2 lo hi p q eye : Int) (w : World) (b1 : 0 ≤ x1 ∧ x1 ≤ 200000) (b2 : 0 ≤ y1 ∧ y1 ≤ 200000) (b3 : 0 ≤ x2 ∧ x2 ≤ 200000) (b4 : 0 ≤ y2 ∧ y2 ≤ 200000) (b5 : 0 ≤ p ∧ p ≤ 200000) (b6 : 0 ≤ q ∧ q ≤ 200000) (h1 : 0 ≤ lo ∧ lo ≤ 3000) (h2 : 0 ≤ hi ∧ hi ≤ 4000) (h3 : 0 ≤ eye ∧ eye ≤ 3000) :
    Calls Try.prog 135 #[.agg #[.int .i64 x1, .int .i64 y1, .int .i64 x2, .int .i64 y2, .int .i64 lo, .int .i64 hi], .agg #[.int .i64 p, .int .i64 q], .int .i64 eye] w fun e w' => e = .returned (.bool (aboveM x1 y1 x2 y2 lo p q eye hi)) ∧ Below w.heap.size w w' := by
  have k1 := distM_bd b5 b6 b1 b2
  have k2 := distM_bd b5 b6 b3 b4
  have k3 := above_mul (a := hi - eye) (by omega) (by omega) k1
  have k4 := above_mul (a := lo - eye) (by omega) (by omega) k2
  go_enter Try.func135, Try.ntmps135
  go_wp2_with fail
  refine wp_region_grew (by kernel_rfl) (by kernel_rfl) ?_
  repeat (first | (go_big_quiet_step ((first | (go_at_call 109; exact grew_of (impl_Distance _ _ _ _ _ b5 b6 b1 b2)) | (go_at_call 109; exact grew_of (impl_Distance _ _ _ _ _ b5 b6 b3 b4))))) | (quiet_step ((first | (go_at_call 109; exact grew_of (impl_Distance _ _ _ _ _ b5 b6 b1 b2)) | (go_at_call 109; exact grew_of (impl_Distance _ _ _ _ _ b5 b6 b3 b4))))))
  refine wpQuiet_nil ?_
  rintro _ ⟨⟨w9, hb9⟩, rfl⟩
  try dsimp only
  obtain ⟨hc9, hf9⟩ := bcell hb9
  go_wp2
  go_ret
  exact ⟨rfl, bnext (by go_grown) hb9⟩

theorem impl_ask (x1 y1 x2 y2 lo hi p q eye : Int) (w : World) :
    Calls Try.prog 133 #[.agg #[.int .i64 x1, .int .i64 y1, .int .i64 x2, .int .i64 y2, .int .i64 lo, .int .i64 hi], .agg #[.int .i64 p, .int .i64 q], .int .i64 eye] w fun e w' => e = .returned (.int .i64 (askM x1 y1 x2 y2 lo hi p q eye)) ∧ Below w.heap.size w w' := by
  cases hv : vLead x1 y1 x2 y2 lo hi
  · go_enter Try.func133, Try.ntmps133
    go_wp2_with (first | (go_at_call 125; refine (impl_ValidLeading _ _ _ _ _ _ _).mono ?_; rintro e w1 ⟨rfl, hb1⟩; have hB1 := bnext (w := w) (by go_grown) hb1; have hS1 := hB1.size; ((have hz1 : w.heap.size < w1.heap.size := by have := hb1.size; (try simp only [World.size_alloc, World.size_setCell, World.size_drew] at this); omega); (have hy1 : w.heap.size + 1 < w1.heap.size := by have := hb1.size; (try simp only [World.size_alloc, World.size_setCell, World.size_drew] at this); omega)); obtain ⟨hc1, hf1⟩ := bcell hb1; clear hb1) | (go_at_call 79; refine (impl_ValidPoint _ _ _).mono ?_; rintro e w1 ⟨rfl, hb1⟩; have hB1 := bnext (w := w) (by go_grown) hb1; have hS1 := hB1.size; ((have hz1 : w.heap.size < w1.heap.size := by have := hb1.size; (try simp only [World.size_alloc, World.size_setCell, World.size_drew] at this); omega); (have hy1 : w.heap.size + 1 < w1.heap.size := by have := hb1.size; (try simp only [World.size_alloc, World.size_setCell, World.size_drew] at this); omega)); obtain ⟨hc1, hf1⟩ := bcell hb1; clear hb1) | (go_at_call 134; refine (impl_isHeight _ _).mono ?_; rintro e w' ⟨rfl, rfl⟩))
    go_ret
    exact ⟨ret_int (by simp [askM, *]), by go_grown⟩
  cases hp : vPoint p q
  · go_enter Try.func133, Try.ntmps133
    go_wp2_with (first | (go_at_call 125; refine (impl_ValidLeading _ _ _ _ _ _ _).mono ?_; rintro e w1 ⟨rfl, hb1⟩; have hB1 := bnext (w := w) (by go_grown) hb1; have hS1 := hB1.size; ((have hz1 : w.heap.size < w1.heap.size := by have := hb1.size; (try simp only [World.size_alloc, World.size_setCell, World.size_drew] at this); omega); (have hy1 : w.heap.size + 1 < w1.heap.size := by have := hb1.size; (try simp only [World.size_alloc, World.size_setCell, World.size_drew] at this); omega)); obtain ⟨hc1, hf1⟩ := bcell hb1; clear hb1) | (go_at_call 79; refine (impl_ValidPoint _ _ _).mono ?_; rintro e w1 ⟨rfl, hb1⟩; have hB1 := bnext (w := w) (by go_grown) hb1; have hS1 := hB1.size; ((have hz1 : w.heap.size < w1.heap.size := by have := hb1.size; (try simp only [World.size_alloc, World.size_setCell, World.size_drew] at this); omega); (have hy1 : w.heap.size + 1 < w1.heap.size := by have := hb1.size; (try simp only [World.size_alloc, World.size_setCell, World.size_drew] at this); omega)); obtain ⟨hc1, hf1⟩ := bcell hb1; clear hb1) | (go_at_call 134; refine (impl_isHeight _ _).mono ?_; rintro e w' ⟨rfl, rfl⟩))
    go_ret
    exact ⟨ret_int (by simp [askM, *]), by go_grown⟩
  obtain ⟨b1, b2, b3, b4, bn, _, _, _⟩ := vLead_yes hv
  obtain ⟨b5, b6⟩ := vPoint_yes hp
  cases he : inB eye 0 3000
  · go_enter Try.func133, Try.ntmps133
    go_wp2_with (first | (go_at_call 125; refine (impl_ValidLeading _ _ _ _ _ _ _).mono ?_; rintro e w1 ⟨rfl, hb1⟩; have hB1 := bnext (w := w) (by go_grown) hb1; have hS1 := hB1.size; ((have hz1 : w.heap.size < w1.heap.size := by have := hb1.size; (try simp only [World.size_alloc, World.size_setCell, World.size_drew] at this); omega); (have hy1 : w.heap.size + 1 < w1.heap.size := by have := hb1.size; (try simp only [World.size_alloc, World.size_setCell, World.size_drew] at this); omega)); obtain ⟨hc1, hf1⟩ := bcell hb1; clear hb1) | (go_at_call 79; refine (impl_ValidPoint _ _ _).mono ?_; rintro e w1 ⟨rfl, hb1⟩; have hB1 := bnext (w := w) (by go_grown) hb1; have hS1 := hB1.size; ((have hz1 : w.heap.size < w1.heap.size := by have := hb1.size; (try simp only [World.size_alloc, World.size_setCell, World.size_drew] at this); omega); (have hy1 : w.heap.size + 1 < w1.heap.size := by have := hb1.size; (try simp only [World.size_alloc, World.size_setCell, World.size_drew] at this); omega)); obtain ⟨hc1, hf1⟩ := bcell hb1; clear hb1) | (go_at_call 134; refine (impl_isHeight _ _).mono ?_; rintro e w' ⟨rfl, rfl⟩))
    go_ret
    exact ⟨ret_int (by simp [askM, *]), by go_grown⟩
  go_enter Try.func133, Try.ntmps133
  go_wp2_with (first | (first | (go_at_call 125; refine (impl_ValidLeading _ _ _ _ _ _ _).mono ?_; rintro e w1 ⟨rfl, hb1⟩; have hB1 := bnext (w := w) (by go_grown) hb1; have hS1 := hB1.size; ((have hz1 : w.heap.size < w1.heap.size := by have := hb1.size; (try simp only [World.size_alloc, World.size_setCell, World.size_drew] at this); omega); (have hy1 : w.heap.size + 1 < w1.heap.size := by have := hb1.size; (try simp only [World.size_alloc, World.size_setCell, World.size_drew] at this); omega)); obtain ⟨hc1, hf1⟩ := bcell hb1; clear hb1) | (go_at_call 79; refine (impl_ValidPoint _ _ _).mono ?_; rintro e w1 ⟨rfl, hb1⟩; have hB1 := bnext (w := w) (by go_grown) hb1; have hS1 := hB1.size; ((have hz1 : w.heap.size < w1.heap.size := by have := hb1.size; (try simp only [World.size_alloc, World.size_setCell, World.size_drew] at this); omega); (have hy1 : w.heap.size + 1 < w1.heap.size := by have := hb1.size; (try simp only [World.size_alloc, World.size_setCell, World.size_drew] at this); omega)); obtain ⟨hc1, hf1⟩ := bcell hb1; clear hb1) | (go_at_call 134; refine (impl_isHeight _ _).mono ?_; rintro e w' ⟨rfl, rfl⟩)) | (go_at_call 128; refine (impl_ahead _ _ _ _ _ _ _ _ _ b1 b2 b3 b4 b5 b6 bn).mono ?_; rintro e w1 ⟨rfl, hb1⟩; have hB1 := bnext (w := w) (by go_grown) hb1; have hS1 := hB1.size; (skip); obtain ⟨hc1, hf1⟩ := bcell hb1; clear hb1))
  all_goals (go_ret; exact ⟨ret_int (by simp [askM, *]), by go_grown⟩)

def rearV (x1 y1 x2 y2 lo hi p q eye : Int) : Bool := if askM x1 y1 x2 y2 lo hi p q eye = 0 then aboveM x1 y1 x2 y2 lo p q eye hi else false
theorem impl_RearAbove (x1 y1 x2 y2 lo hi p q eye : Int) (w : World) :
    Calls Try.prog 70 #[.agg #[.int .i64 x1, .int .i64 y1, .int .i64 x2, .int .i64 y2, .int .i64 lo, .int .i64 hi], .agg #[.int .i64 p, .int .i64 q], .int .i64 eye] w fun e w' => e = .returned (.tuple #[.bool (rearV x1 y1 x2 y2 lo hi p q eye), .int .i64 (askM x1 y1 x2 y2 lo hi p q eye)]) ∧ Below w.heap.size w w' := by
  by_cases hc : askM x1 y1 x2 y2 lo hi p q eye = 0
  · have hA : Hid (rearV x1 y1 x2 y2 lo hi p q eye = aboveM x1 y1 x2 y2 lo p q eye hi) := by apply Lib.hid; unfold rearV; rw [if_pos hc]
    obtain ⟨hv, hp, he, ha⟩ := askM_ok hc
    obtain ⟨b1, b2, b3, b4, bn, bl, bh, bt⟩ := vLead_yes hv
    obtain ⟨b5, b6⟩ := vPoint_yes hp
    have hE := inB_yes.1 he
    clear hv hp he ha bn
    go_enter Try.func70, Try.ntmps70
    go_wp2_with (first | (go_at_call 133; refine (impl_ask _ _ _ _ _ _ _ _ _ _).mono ?_; rintro e w1 ⟨rfl, hb1⟩; have hB1 := bnext (w := w) (by go_grown) hb1; have hS1 := hB1.size; ((have hz1 : w.heap.size < w1.heap.size := by have := hb1.size; (try simp only [World.size_alloc, World.size_setCell, World.size_drew] at this); omega); (have hy1 : w.heap.size + 1 < w1.heap.size := by have := hb1.size; (try simp only [World.size_alloc, World.size_setCell, World.size_drew] at this); omega)); obtain ⟨hc1, hf1⟩ := bcell hb1; clear hb1) | (go_at_call 135; refine (impl_above _ _ _ _ _ _ _ _ _ _ b1 b2 b3 b4 b5 b6 (by omega) (by omega) (by omega)).mono ?_; rintro e w1 ⟨rfl, hb1⟩; have hB1 := bnext (w := w) (by go_grown) hb1; have hS1 := hB1.size; (skip); obtain ⟨hc1, hf1⟩ := bcell hb1; clear hb1))
    go_ret2
    exact ⟨ret_bi hA.out.symm (by simp [hc]), by go_grown⟩
  · have hA : Hid (rearV x1 y1 x2 y2 lo hi p q eye = false) := by apply Lib.hid; unfold rearV; rw [if_neg hc]
    have hb : (askM x1 y1 x2 y2 lo hi p q eye == 0) = false := beq_eq_false_iff_ne.2 hc
    clear hc
    go_enter Try.func70, Try.ntmps70
    go_wp2_with (first | (go_at_call 133; refine (impl_ask _ _ _ _ _ _ _ _ _ _).mono ?_; rintro e w1 ⟨rfl, hb1⟩; have hB1 := bnext (w := w) (by go_grown) hb1; have hS1 := hB1.size; ((have hz1 : w.heap.size < w1.heap.size := by have := hb1.size; (try simp only [World.size_alloc, World.size_setCell, World.size_drew] at this); omega); (have hy1 : w.heap.size + 1 < w1.heap.size := by have := hb1.size; (try simp only [World.size_alloc, World.size_setCell, World.size_drew] at this); omega)); obtain ⟨hc1, hf1⟩ := bcell hb1; clear hb1))
    go_ret2
    exact ⟨ret_bi hA.out.symm rfl, by go_grown⟩

def leastN (lo : Int) : Nat := (3000 - lo).toNat
def leastF (x1 y1 x2 y2 lo p q eye : Int) (k : Nat) : Bool := aboveM x1 y1 x2 y2 lo p q eye (lo + 1 + k)
def leastK (x1 y1 x2 y2 lo p q eye : Int) : Nat := seek (leastF x1 y1 x2 y2 lo p q eye) (leastN lo) 0
def leastV (x1 y1 x2 y2 lo hi p q eye : Int) : Int := if askM x1 y1 x2 y2 lo hi p q eye = 0 then (if leastK x1 y1 x2 y2 lo p q eye < leastN lo then lo + 1 + leastK x1 y1 x2 y2 lo p q eye else 0) else 0
def leastC (x1 y1 x2 y2 lo hi p q eye : Int) : Int := if askM x1 y1 x2 y2 lo hi p q eye = 0 then (if leastK x1 y1 x2 y2 lo p q eye < leastN lo then 0 else 3) else askM x1 y1 x2 y2 lo hi p q eye
theorem least_not {x1 y1 x2 y2 lo hi p q eye : Int} (h : ¬ askM x1 y1 x2 y2 lo hi p q eye = 0) : leastV x1 y1 x2 y2 lo hi p q eye = 0 ∧ leastC x1 y1 x2 y2 lo hi p q eye = askM x1 y1 x2 y2 lo hi p q eye := by
  unfold leastV leastC; rw [if_neg h, if_neg h]; exact ⟨rfl, rfl⟩
theorem least_hit {x1 y1 x2 y2 lo hi p q eye : Int} {k : Nat} (h : askM x1 y1 x2 y2 lo hi p q eye = 0) (hk : k < leastN lo) (he : leastK x1 y1 x2 y2 lo p q eye = k) : leastV x1 y1 x2 y2 lo hi p q eye = lo + 1 + k ∧ leastC x1 y1 x2 y2 lo hi p q eye = 0 := by
  unfold leastV leastC; rw [if_pos h, if_pos h, he, if_pos hk, if_pos hk]; exact ⟨rfl, rfl⟩
theorem least_miss {x1 y1 x2 y2 lo hi p q eye : Int} (h : askM x1 y1 x2 y2 lo hi p q eye = 0) (he : leastK x1 y1 x2 y2 lo p q eye = leastN lo) : leastV x1 y1 x2 y2 lo hi p q eye = 0 ∧ leastC x1 y1 x2 y2 lo hi p q eye = 3 := by
  unfold leastV leastC; rw [if_pos h, if_pos h, he, if_neg (Nat.lt_irrefl _), if_neg (Nat.lt_irrefl _)]; exact ⟨rfl, rfl⟩

theorem above_is {x1 y1 x2 y2 lo p q eye : Int} (k : Nat) {b : Bool} (h : leastF x1 y1 x2 y2 lo p q eye k = b) : aboveM x1 y1 x2 y2 lo p q eye (lo + 1 + k) = b := h

set_option maxHeartbeats 800000 in
theorem impl_LeastRear (x1 y1 x2 y2 lo hi p q eye : Int) (w : World) :
    Calls Try.prog 69 #[.agg #[.int .i64 x1, .int .i64 y1, .int .i64 x2, .int .i64 y2, .int .i64 lo, .int .i64 hi], .agg #[.int .i64 p, .int .i64 q], .int .i64 eye] w fun e w' => e = .returned (.tuple #[.int .i64 (leastV x1 y1 x2 y2 lo hi p q eye), .int .i64 (leastC x1 y1 x2 y2 lo hi p q eye)]) ∧ Below w.heap.size w w' := by
  by_cases hc : askM x1 y1 x2 y2 lo hi p q eye = 0
  · obtain ⟨hv, hp, he, ha⟩ := askM_ok hc
    obtain ⟨b1, b2, b3, b4, bn, bl, bh, bt⟩ := vLead_yes hv
    obtain ⟨b5, b6⟩ := vPoint_yes hp
    have hE := inB_yes.1 he
    have hC := Lib.hid hc
    have hN : (leastN lo : Int) = 3000 - lo := by unfold leastN; omega
    have hN' := Lib.hid hN
    clear hv hp he ha bn hN
    have hask : ∀ w, Calls Try.prog 133 #[.agg #[.int .i64 x1, .int .i64 y1, .int .i64 x2, .int .i64 y2, .int .i64 lo, .int .i64 hi], .agg #[.int .i64 p, .int .i64 q], .int .i64 eye] w fun e w' => e = .returned (.int .i64 0) ∧ Below w.heap.size w w' := fun w => by
      have := impl_ask x1 y1 x2 y2 lo hi p q eye w
      rw [hC.out] at this; exact this
    clear hc
    go_enter Try.func69, Try.ntmps69
    go_wp2_with (go_at_call 133; refine (hask _).mono ?_; rintro e w1 ⟨rfl, hb1⟩; have hB1 := bnext (w := w) (by go_grown) hb1; have hS1 := hB1.size; ((have hz1 : w.heap.size < w1.heap.size := by have := hb1.size; (try simp only [World.size_alloc, World.size_setCell, World.size_drew] at this); omega); (have hy1 : w.heap.size + 1 < w1.heap.size := by have := hb1.size; (try simp only [World.size_alloc, World.size_setCell, World.size_drew] at this); omega)); obtain ⟨hc1, hf1⟩ := bcell hb1; clear hb1)
    have hL : Ld (w1.setCell ⟨w.heap.size, 5, none⟩ (.int .i64 (lo + 1))) w.heap.size x1 y1 x2 y2 lo (lo + 1) := ⟨by simp [hz1], by simp [go_sem, *], by simp [go_sem, *], by simp [go_sem, *], by simp [go_sem, *], by simp [go_sem, *], World.cell?_setCell_same _ _ _ ((hc1 w.heap.size 5 (by simp; omega)).trans (by simp [go_sem]; rfl))⟩
    have hP : Pt (w1.setCell ⟨w.heap.size, 5, none⟩ (.int .i64 (lo + 1))) (w.heap.size + 1) p q := ⟨by simp [hy1], by simp [go_sem, *], by simp [go_sem, *]⟩
    have hB2 : Below w.heap.size w (w1.setCell ⟨w.heap.size, 5, none⟩ (.int .i64 (lo + 1))) := by go_grown
    have hF2 : (w1.setCell ⟨w.heap.size, 5, none⟩ (.int .i64 (lo + 1))).frozen? ⟨w.heap.size, 5, none⟩ = false := by simp [go_sem, *]
    clear hc1 hf1 hz1 hy1 hS1 hB1
    go_loopw [21] (fun _ wr => ∃ k : Nat, wr.frozen? ⟨w.heap.size, 5, none⟩ = false ∧ k ≤ leastN lo ∧ leastK x1 y1 x2 y2 lo p q eye = seek (leastF x1 y1 x2 y2 lo p q eye) (leastN lo - k) k ∧ Below w.heap.size w wr ∧ Ld wr w.heap.size x1 y1 x2 y2 lo (lo + 1 + k) ∧ Pt wr (w.heap.size + 1) p q) (fun _ wr => 4000 - (intOf ((wr.cell? ⟨w.heap.size, 5, none⟩).getD undef)).toNat)
    case atStart => exact ⟨0, hF2, Nat.zero_le _, rfl, hB2, by rw [show lo + 1 + ((0 : Nat) : Int) = lo + 1 by omega]; exact hL, hP⟩
    case round =>
      clear hB2 hL hP hF2
      obtain ⟨k, hF2, hk, hs, hB2, hL, hP⟩ := hrel
      have hs' := Lib.hid hs
      clear hs
      by_cases hlt : k < leastN lo
      · have hle : lo + 1 + (k : Int) ≤ 3000 := by have := hN'.out; omega
        have hin : inB (lo + 1 + (k : Int)) 0 3000 = true := inB_yes.2 ⟨by omega, hle⟩
        obtain ⟨q0, q1, q2⟩ := id hP
        obtain ⟨r0, r1, r2, r3, r4, r5, r6⟩ := id hL
        cases hf : leastF x1 y1 x2 y2 lo p q eye k
        · have hs2 := Lib.hid (hs'.out.trans (seek_miss hlt hf))
          have ha := above_is k hf
          clear hf
          go_wp2_with (first | (go_at_call 134; refine (impl_isHeight _ _).mono ?_; rintro e w' ⟨rfl, rfl⟩) | (go_at_call 135; refine (impl_above _ _ _ _ _ _ _ _ _ _ b1 b2 b3 b4 b5 b6 bl (by omega) hE).mono ?_; rintro e w1 ⟨rfl, hb1⟩; obtain ⟨hc1, hf1⟩ := bcell hb1; (have hz1 : w.heap.size < w1.heap.size := by have := hb1.size; omega)))
          go_roundw
          case rel => exact ⟨k + 1, by simp [go_sem, *], by omega, hs2.out, (bnext hB2 hb1).setCell (Nat.le_refl _) _, ⟨by simp [hz1], by simp [go_sem, *], by simp [go_sem, *], by simp [go_sem, *], by simp [go_sem, *], by simp [go_sem, *], (World.cell?_setCell_same _ _ _ ((hc1 _ _ r0).trans r6)).trans (congrArg (fun z => some (Value.int .i64 z)) (by omega))⟩, ⟨by simp; exact Nat.lt_of_lt_of_le q0 hb1.size, by simp [go_sem, *], by simp [go_sem, *]⟩⟩
          case measure => simp [go_sem, *, intOf]; omega
        · have hs2 := Lib.hid (least_hit hC.out hlt (hs'.out.trans (seek_hit hlt hf)))
          have ha := above_is k hf
          clear hf
          go_wp2_with (first | (go_at_call 134; refine (impl_isHeight _ _).mono ?_; rintro e w' ⟨rfl, rfl⟩) | (go_at_call 135; refine (impl_above _ _ _ _ _ _ _ _ _ _ b1 b2 b3 b4 b5 b6 bl (by omega) hE).mono ?_; rintro e w1 ⟨rfl, hb1⟩; obtain ⟨hc1, hf1⟩ := bcell hb1; (have hz1 : w.heap.size < w1.heap.size := by have := hb1.size; omega)))
          go_ret2
          exact ⟨ret_ii hs2.out.1.symm hs2.out.2.symm, bnext hB2 hb1⟩
      · obtain rfl : k = leastN lo := by omega
        have hs2 := Lib.hid (least_miss hC.out (hs'.out.trans (seek_end _)))
        have hin : inB (lo + 1 + (leastN lo : Int)) 0 3000 = false := inB_un (by have := hN'.out; omega)
        obtain ⟨r0, r1, r2, r3, r4, r5, r6⟩ := id hL
        go_wp2_with (go_at_call 134; refine (impl_isHeight _ _).mono ?_; rintro e w' ⟨rfl, rfl⟩)
        go_ret2
        exact ⟨ret_ii hs2.out.1.symm hs2.out.2.symm, hB2⟩
  · have hA := Lib.hid (least_not hc)
    have hb : (askM x1 y1 x2 y2 lo hi p q eye == 0) = false := beq_eq_false_iff_ne.2 hc
    clear hc
    go_enter Try.func69, Try.ntmps69
    go_wp2_with (first | (go_at_call 133; refine (impl_ask _ _ _ _ _ _ _ _ _ _).mono ?_; rintro e w1 ⟨rfl, hb1⟩; have hB1 := bnext (w := w) (by go_grown) hb1; have hS1 := hB1.size; ((have hz1 : w.heap.size < w1.heap.size := by have := hb1.size; (try simp only [World.size_alloc, World.size_setCell, World.size_drew] at this); omega); (have hy1 : w.heap.size + 1 < w1.heap.size := by have := hb1.size; (try simp only [World.size_alloc, World.size_setCell, World.size_drew] at this); omega)); obtain ⟨hc1, hf1⟩ := bcell hb1; clear hb1))
    go_ret2
    exact ⟨ret_ii hA.out.1.symm hA.out.2.symm, by go_grown⟩

end Go.Proofs.Ytnikdafbnkedkaa
