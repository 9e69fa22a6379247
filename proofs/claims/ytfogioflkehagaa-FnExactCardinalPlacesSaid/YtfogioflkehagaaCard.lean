/-
  Contracts of the cardinal mark at a danger: the program's and the reference's; the law CardinalAt. Each under the conditions that it states.
-/
import Derived.Test.YtfogioflkehagaaDanger
import Derived.Test.YtfogioflkehagaaBear
set_option linter.unusedVariables false
set_option linter.unnecessarySimpa false
set_option maxRecDepth 100000
set_option linter.unusedSimpArgs false
namespace Go.Proofs.Ytfogioflkehagaa
open Go.RowKit BigFrame

def quadM (b : Int) : Int := if 315 ≤ b ∨ b < 45 then 3 else if b < 135 then 4 else if b < 225 then 5 else 6
def cardC (s : ByteArray) (x y r p q : Int) : Int := if vDanger s x y r && vPoint p q then (if x = p ∧ y = q then 6 else 0) else 1
def cardV (s : ByteArray) (x y r p q : Int) : Int := if cardC s x y r p q = 0 then quadM (bearM (p - x) (q - y)) else 0
theorem vDanger_pt {s : ByteArray} {x y r : Int} (h : vDanger s x y r = true) : vPoint x y = true := by
  unfold vDanger at h; rw [Bool.and_eq_true, Bool.and_eq_true] at h; exact h.2.1

theorem spec_Quadrant (b : Int) (w : World) : Calls Try.prog 155 #[.int .i64 b] w fun e w' => e = .returned (.int .i64 (quadM b)) ∧ w = w' := by
  unfold quadM
  go_enter Try.func155, Try.ntmps155
  go_wp2
  all_goals (go_ret; exact ⟨ret_int (by simp [*]; try omega), rfl⟩)

theorem spec_QuadrantOf (b : Int) (hb : inB b 0 359 = true) (w : World) : Calls Try.prog 141 #[.int .i64 b] w fun e w' => e = .returned (.tuple #[.int .i64 (quadM b), .int .i64 0]) ∧ w = w' := by
  go_enter Try.func141, Try.ntmps141
  go_wp2_with (first | (go_at_call 91; refine (in_any _ _ _ _).mono ?_; rintro e w' ⟨rfl, rfl⟩) | (go_at_call 155; refine (spec_Quadrant _ _).mono ?_; rintro e w' ⟨rfl, rfl⟩))
  go_ret2
  exact ⟨rfl, rfl⟩

theorem card_isBearing (n : Int) (w : World) : Calls Try.prog 96 #[.int .i64 n] w fun e w' => e = .returned (.bool (inB n 0 359)) ∧ w = w' := by
  go_enter Try.func96, Try.ntmps96
  go_wp2_with (go_at_call 104; refine (within_any _ _ _ _).mono ?_; rintro e w' ⟨rfl, rfl⟩)
  go_ret
  exact ⟨rfl, rfl⟩
theorem impl_QuadrantOf (b : Int) (hb : inB b 0 359 = true) (w : World) : Calls Try.prog 143 #[.int .i64 b] w fun e w' => e = .returned (.tuple #[.int .i64 (quadM b), .int .i64 0]) ∧ w = w' := by
  unfold quadM
  go_enter Try.func143, Try.ntmps143
  go_wp2_with (first | (go_at_call 96; refine (card_isBearing _ _).mono ?_; rintro e w' ⟨rfl, rfl⟩))
  all_goals (go_ret2; exact ⟨ret_ii (by simp [*]; try omega) rfl, rfl⟩)

theorem impl_cardinal (s : ByteArray) (x y r p q : Int) (w : World) (h1 : 0 ≤ x ∧ x ≤ 200000) (h2 : 0 ≤ y ∧ y ≤ 200000) (h3 : 0 ≤ p ∧ p ≤ 200000) (h4 : 0 ≤ q ∧ q ≤ 200000) :
    Calls Try.prog 117 #[.agg #[.string s, .int .i64 x, .int .i64 y, .int .i64 r], .agg #[.int .i64 p, .int .i64 q]] w fun e w' => e = .returned (.int .i64 (quadM (bearM (p - x) (q - y)))) ∧ Below w.heap.size w w' := by
  have hb := bearM_bd (p - x) (q - y)
  have hi : inB (bearM (p - x) (q - y)) 0 359 = true := inB_yes.2 (by omega)
  go_enter Try.func117, Try.ntmps117
  go_wp2_with (first | (go_at_call 31; refine (impl_Bearing _ _ _ _ _ h1 h2 h3 h4).mono ?_; rintro e w1 ⟨rfl, hb1⟩; have hB1 := bnext (w := w) (by go_grown) hb1; have hS1 := hB1.size; (skip); obtain ⟨hc1, hf1⟩ := bcell hb1; clear hb1) | (go_at_call 143; refine (impl_QuadrantOf _ hi _).mono ?_; rintro e w' ⟨rfl, rfl⟩))
  go_ret
  exact ⟨rfl, by go_grown⟩

theorem spec_l14Kind (s : ByteArray) (x y r p q : Int) (g : Nat) (w : World) (h1 : 0 ≤ x ∧ x ≤ 200000) (h2 : 0 ≤ y ∧ y ≤ 200000) (h3 : 0 ≤ p ∧ p ≤ 200000) (h4 : 0 ≤ q ∧ q ≤ 200000) (hd : Dn w g 0 s x y r) :
    Calls Try.prog 116 #[.pointer (some ⟨g, 0, none⟩), .agg #[.int .i64 p, .int .i64 q]] w fun e w' => e = .returned (.int .i64 (quadM (bearM (p - x) (q - y)))) ∧ Below w.heap.size w w' := by
  have hb := bearM_bd (p - x) (q - y)
  have hi : inB (bearM (p - x) (q - y)) 0 359 = true := inB_yes.2 (by omega)
  obtain ⟨hg, c0, c1, c2, c3⟩ := hd
  simp only [Nat.zero_add] at c0 c1 c2 c3
  have hg' : g ≤ w.heap.size := by omega
  go_enter Try.func116, Try.ntmps116
  go_wp2_with fail
  refine wp_region_grew (by kernel_rfl) (by kernel_rfl) ?_
  repeat (first | (go_big_quiet_step ((first | (go_at_call 142; exact grew_of (spec_Bearing _ _ _ _ _ h1 h2 h3 h4)) | (go_at_call 141; exact grew_same (spec_QuadrantOf _ hi _))))) | (quiet_step ((first | (go_at_call 142; exact grew_of (spec_Bearing _ _ _ _ _ h1 h2 h3 h4)) | (go_at_call 141; exact grew_same (spec_QuadrantOf _ hi _))))))
  refine wpQuiet_nil ?_
  rintro _ ⟨⟨w9, hb9⟩, rfl⟩
  try dsimp only
  obtain ⟨hc9, hf9⟩ := bcell hb9
  go_wp2
  go_ret
  exact ⟨rfl, bnext (by go_grown) hb9⟩

set_option maxHeartbeats 1600000 in
theorem impl_CardinalAt (s : ByteArray) (hs : s.size ≤ maxLen) (x y r p q : Int) (w : World) :
    Calls Try.prog 55 #[.agg #[.string s, .int .i64 x, .int .i64 y, .int .i64 r], .agg #[.int .i64 p, .int .i64 q]] w fun e w' => e = .returned (.tuple #[.int .i64 (cardV s x y r p q), .int .i64 (cardC s x y r p q)]) ∧ Below w.heap.size w w' := by
  cases hd : vDanger s x y r
  · have hC : Hid (cardC s x y r p q = 1) := by apply Lib.hid; unfold cardC; (rw [hd]; rfl)
    have hV : Hid (cardV s x y r p q = 0) := by apply Lib.hid; unfold cardV; rw [hC.out]; rfl
    go_enter Try.func55, Try.ntmps55
    go_wp2_with (first | (go_at_call 111; refine (impl_ValidDanger _ hs _ _ _ _).mono ?_; rintro e w1 ⟨rfl, hb1⟩; have hB1 := bnext (w := w) (by go_grown) hb1; have hS1 := hB1.size; ((have hz1 : w.heap.size < w1.heap.size := by have := hb1.size; (try simp only [World.size_alloc, World.size_setCell, World.size_drew] at this); omega); (have hy1 : w.heap.size + 1 < w1.heap.size := by have := hb1.size; (try simp only [World.size_alloc, World.size_setCell, World.size_drew] at this); omega)); obtain ⟨hc1, hf1⟩ := bcell hb1; clear hb1) | (go_at_call 78; refine (impl_ValidPoint _ _ _).mono ?_; rintro e w1 ⟨rfl, hb1⟩; have hB1 := bnext (w := w) (by go_grown) hb1; have hS1 := hB1.size; ((have hz1 : w.heap.size < w1.heap.size := by have := hb1.size; (try simp only [World.size_alloc, World.size_setCell, World.size_drew] at this); omega); (have hy1 : w.heap.size + 1 < w1.heap.size := by have := hb1.size; (try simp only [World.size_alloc, World.size_setCell, World.size_drew] at this); omega)); obtain ⟨hc1, hf1⟩ := bcell hb1; clear hb1) | (go_at_call 117; refine (impl_cardinal _ _ _ _ _ _ _ b1 b2 b3 b4).mono ?_; rintro e w1 ⟨rfl, hb1⟩; have hB1 := bnext (w := w) (by go_grown) hb1; have hS1 := hB1.size; (skip); obtain ⟨hc1, hf1⟩ := bcell hb1; clear hb1))
    go_ret2
    exact ⟨ret_ii hV.out.symm hC.out.symm, by go_grown⟩
  cases hp : vPoint p q
  · have hC : Hid (cardC s x y r p q = 1) := by apply Lib.hid; unfold cardC; (rw [hd, hp]; rfl)
    have hV : Hid (cardV s x y r p q = 0) := by apply Lib.hid; unfold cardV; rw [hC.out]; rfl
    go_enter Try.func55, Try.ntmps55
    go_wp2_with (first | (go_at_call 111; refine (impl_ValidDanger _ hs _ _ _ _).mono ?_; rintro e w1 ⟨rfl, hb1⟩; have hB1 := bnext (w := w) (by go_grown) hb1; have hS1 := hB1.size; ((have hz1 : w.heap.size < w1.heap.size := by have := hb1.size; (try simp only [World.size_alloc, World.size_setCell, World.size_drew] at this); omega); (have hy1 : w.heap.size + 1 < w1.heap.size := by have := hb1.size; (try simp only [World.size_alloc, World.size_setCell, World.size_drew] at this); omega)); obtain ⟨hc1, hf1⟩ := bcell hb1; clear hb1) | (go_at_call 78; refine (impl_ValidPoint _ _ _).mono ?_; rintro e w1 ⟨rfl, hb1⟩; have hB1 := bnext (w := w) (by go_grown) hb1; have hS1 := hB1.size; ((have hz1 : w.heap.size < w1.heap.size := by have := hb1.size; (try simp only [World.size_alloc, World.size_setCell, World.size_drew] at this); omega); (have hy1 : w.heap.size + 1 < w1.heap.size := by have := hb1.size; (try simp only [World.size_alloc, World.size_setCell, World.size_drew] at this); omega)); obtain ⟨hc1, hf1⟩ := bcell hb1; clear hb1) | (go_at_call 117; refine (impl_cardinal _ _ _ _ _ _ _ b1 b2 b3 b4).mono ?_; rintro e w1 ⟨rfl, hb1⟩; have hB1 := bnext (w := w) (by go_grown) hb1; have hS1 := hB1.size; (skip); obtain ⟨hc1, hf1⟩ := bcell hb1; clear hb1))
    go_ret2
    exact ⟨ret_ii hV.out.symm hC.out.symm, by go_grown⟩
  obtain ⟨b1, b2⟩ := vPoint_yes (vDanger_pt hd)
  obtain ⟨b3, b4⟩ := vPoint_yes hp
  rcases (by omega : (x = p ∧ y = q) ∨ ¬ x = p ∨ (x = p ∧ ¬ y = q)) with ⟨rfl, rfl⟩ | e | ⟨rfl, e⟩
  · have hC : Hid (cardC s x y r x y = 6) := by apply Lib.hid; unfold cardC; rw [hd, hp]; simp
    have hV : Hid (cardV s x y r x y = 0) := by apply Lib.hid; unfold cardV; rw [hC.out]; rfl
    go_enter Try.func55, Try.ntmps55
    go_wp2_with (first | (go_at_call 111; refine (impl_ValidDanger _ hs _ _ _ _).mono ?_; rintro e w1 ⟨rfl, hb1⟩; have hB1 := bnext (w := w) (by go_grown) hb1; have hS1 := hB1.size; ((have hz1 : w.heap.size < w1.heap.size := by have := hb1.size; (try simp only [World.size_alloc, World.size_setCell, World.size_drew] at this); omega); (have hy1 : w.heap.size + 1 < w1.heap.size := by have := hb1.size; (try simp only [World.size_alloc, World.size_setCell, World.size_drew] at this); omega)); obtain ⟨hc1, hf1⟩ := bcell hb1; clear hb1) | (go_at_call 78; refine (impl_ValidPoint _ _ _).mono ?_; rintro e w1 ⟨rfl, hb1⟩; have hB1 := bnext (w := w) (by go_grown) hb1; have hS1 := hB1.size; ((have hz1 : w.heap.size < w1.heap.size := by have := hb1.size; (try simp only [World.size_alloc, World.size_setCell, World.size_drew] at this); omega); (have hy1 : w.heap.size + 1 < w1.heap.size := by have := hb1.size; (try simp only [World.size_alloc, World.size_setCell, World.size_drew] at this); omega)); obtain ⟨hc1, hf1⟩ := bcell hb1; clear hb1) | (go_at_call 117; refine (impl_cardinal _ _ _ _ _ _ _ b1 b2 b3 b4).mono ?_; rintro e w1 ⟨rfl, hb1⟩; have hB1 := bnext (w := w) (by go_grown) hb1; have hS1 := hB1.size; (skip); obtain ⟨hc1, hf1⟩ := bcell hb1; clear hb1))
    go_ret2
    exact ⟨ret_ii hV.out.symm hC.out.symm, by go_grown⟩
  · have hC : Hid (cardC s x y r p q = 0) := by apply Lib.hid; unfold cardC; rw [hd, hp, if_pos (by rfl), if_neg (fun h => e h.1)]
    have hV : Hid (cardV s x y r p q = quadM (bearM (p - x) (q - y))) := by apply Lib.hid; unfold cardV; rw [hC.out]; rfl
    have g1 : (x == p) = false := beq_eq_false_iff_ne.2 e
    have g2 : (p == x) = false := beq_eq_false_iff_ne.2 (fun h => e h.symm)
    clear e
    go_enter Try.func55, Try.ntmps55
    go_wp2_with (first | (go_at_call 111; refine (impl_ValidDanger _ hs _ _ _ _).mono ?_; rintro e w1 ⟨rfl, hb1⟩; have hB1 := bnext (w := w) (by go_grown) hb1; have hS1 := hB1.size; ((have hz1 : w.heap.size < w1.heap.size := by have := hb1.size; (try simp only [World.size_alloc, World.size_setCell, World.size_drew] at this); omega); (have hy1 : w.heap.size + 1 < w1.heap.size := by have := hb1.size; (try simp only [World.size_alloc, World.size_setCell, World.size_drew] at this); omega)); obtain ⟨hc1, hf1⟩ := bcell hb1; clear hb1) | (go_at_call 78; refine (impl_ValidPoint _ _ _).mono ?_; rintro e w1 ⟨rfl, hb1⟩; have hB1 := bnext (w := w) (by go_grown) hb1; have hS1 := hB1.size; ((have hz1 : w.heap.size < w1.heap.size := by have := hb1.size; (try simp only [World.size_alloc, World.size_setCell, World.size_drew] at this); omega); (have hy1 : w.heap.size + 1 < w1.heap.size := by have := hb1.size; (try simp only [World.size_alloc, World.size_setCell, World.size_drew] at this); omega)); obtain ⟨hc1, hf1⟩ := bcell hb1; clear hb1) | (go_at_call 117; refine (impl_cardinal _ _ _ _ _ _ _ b1 b2 b3 b4).mono ?_; rintro e w1 ⟨rfl, hb1⟩; have hB1 := bnext (w := w) (by go_grown) hb1; have hS1 := hB1.size; (skip); obtain ⟨hc1, hf1⟩ := bcell hb1; clear hb1))
    go_ret2
    exact ⟨ret_ii hV.out.symm hC.out.symm, by go_grown⟩
  · have hC : Hid (cardC s x y r x q = 0) := by apply Lib.hid; unfold cardC; rw [hd, hp, if_pos (by rfl), if_neg (fun h => e h.2)]
    have hV : Hid (cardV s x y r x q = quadM (bearM 0 (q - y))) := by apply Lib.hid; unfold cardV; rw [hC.out, Int.sub_self]; rfl
    have g1 : (y == q) = false := beq_eq_false_iff_ne.2 e
    have g2 : (q == y) = false := beq_eq_false_iff_ne.2 (fun h => e h.symm)
    clear e
    go_enter Try.func55, Try.ntmps55
    go_wp2_with (first | (go_at_call 111; refine (impl_ValidDanger _ hs _ _ _ _).mono ?_; rintro e w1 ⟨rfl, hb1⟩; have hB1 := bnext (w := w) (by go_grown) hb1; have hS1 := hB1.size; ((have hz1 : w.heap.size < w1.heap.size := by have := hb1.size; (try simp only [World.size_alloc, World.size_setCell, World.size_drew] at this); omega); (have hy1 : w.heap.size + 1 < w1.heap.size := by have := hb1.size; (try simp only [World.size_alloc, World.size_setCell, World.size_drew] at this); omega)); obtain ⟨hc1, hf1⟩ := bcell hb1; clear hb1) | (go_at_call 78; refine (impl_ValidPoint _ _ _).mono ?_; rintro e w1 ⟨rfl, hb1⟩; have hB1 := bnext (w := w) (by go_grown) hb1; have hS1 := hB1.size; ((have hz1 : w.heap.size < w1.heap.size := by have := hb1.size; (try simp only [World.size_alloc, World.size_setCell, World.size_drew] at this); omega); (have hy1 : w.heap.size + 1 < w1.heap.size := by have := hb1.size; (try simp only [World.size_alloc, World.size_setCell, World.size_drew] at this); omega)); obtain ⟨hc1, hf1⟩ := bcell hb1; clear hb1) | (go_at_call 117; refine (impl_cardinal _ _ _ _ _ _ _ b1 b2 b3 b4).mono ?_; rintro e w1 ⟨rfl, hb1⟩; have hB1 := bnext (w := w) (by go_grown) hb1; have hS1 := hB1.size; (skip); obtain ⟨hc1, hf1⟩ := bcell hb1; clear hb1))
    go_ret2
    exact ⟨ret_ii hV.out.symm hC.out.symm, by go_grown⟩

set_option maxHeartbeats 1600000 in
theorem spec_CardinalAt (s : ByteArray) (hs : s.size ≤ maxLen) (x y r p q : Int) (w : World) :
    Calls Try.prog 54 #[.agg #[.string s, .int .i64 x, .int .i64 y, .int .i64 r], .agg #[.int .i64 p, .int .i64 q]] w fun e w' => e = .returned (.tuple #[.int .i64 (cardV s x y r p q), .int .i64 (cardC s x y r p q)]) ∧ Below w.heap.size w w' := by
  cases hd : vDanger s x y r
  · have hC : Hid (cardC s x y r p q = 1) := by apply Lib.hid; unfold cardC; (rw [hd]; rfl)
    have hV : Hid (cardV s x y r p q = 0) := by apply Lib.hid; unfold cardV; rw [hC.out]; rfl
    go_enter Try.func54, Try.ntmps54
    go_wp2_with (first | (go_at_call 109; refine (spec_l14One s hs x y r _ 0 _ ⟨by simp; omega, by simp [go_sem], by simp [go_sem], by simp [go_sem], by simp [go_sem]⟩).mono ?_; rintro e w1 ⟨rfl, hb1⟩; have hB1 := bnext (w := w) (by go_grown) hb1; have hS1 := hB1.size; ((have hz1 : w.heap.size < w1.heap.size := by have := hb1.size; (try simp only [World.size_alloc, World.size_setCell, World.size_drew] at this); omega); (have hy1 : w.heap.size + 1 < w1.heap.size := by have := hb1.size; (try simp only [World.size_alloc, World.size_setCell, World.size_drew] at this); omega)); obtain ⟨hc1, hf1⟩ := bcell hb1; clear hb1) | (go_at_call 90; refine (spec_l02Ok _ _ _).mono ?_; rintro e w1 ⟨rfl, hb1⟩; have hB1 := bnext (w := w) (by go_grown) hb1; have hS1 := hB1.size; ((have hz1 : w.heap.size < w1.heap.size := by have := hb1.size; (try simp only [World.size_alloc, World.size_setCell, World.size_drew] at this); omega); (have hy1 : w.heap.size + 1 < w1.heap.size := by have := hb1.size; (try simp only [World.size_alloc, World.size_setCell, World.size_drew] at this); omega)); obtain ⟨hc1, hf1⟩ := bcell hb1; clear hb1) | (go_at_call 116; refine (spec_l14Kind s x y r _ _ _ _ b1 b2 b3 b4 ⟨hz1, by simp [go_sem, *], by simp [go_sem, *], by simp [go_sem, *], by simp [go_sem, *]⟩).mono ?_; rintro e w1 ⟨rfl, hb1⟩; have hB1 := bnext (w := w) (by go_grown) hb1; have hS1 := hB1.size; (skip); obtain ⟨hc1, hf1⟩ := bcell hb1; clear hb1))
    go_ret2
    exact ⟨ret_ii hV.out.symm hC.out.symm, by go_grown⟩
  cases hp : vPoint p q
  · have hC : Hid (cardC s x y r p q = 1) := by apply Lib.hid; unfold cardC; (rw [hd, hp]; rfl)
    have hV : Hid (cardV s x y r p q = 0) := by apply Lib.hid; unfold cardV; rw [hC.out]; rfl
    go_enter Try.func54, Try.ntmps54
    go_wp2_with (first | (go_at_call 109; refine (spec_l14One s hs x y r _ 0 _ ⟨by simp; omega, by simp [go_sem], by simp [go_sem], by simp [go_sem], by simp [go_sem]⟩).mono ?_; rintro e w1 ⟨rfl, hb1⟩; have hB1 := bnext (w := w) (by go_grown) hb1; have hS1 := hB1.size; ((have hz1 : w.heap.size < w1.heap.size := by have := hb1.size; (try simp only [World.size_alloc, World.size_setCell, World.size_drew] at this); omega); (have hy1 : w.heap.size + 1 < w1.heap.size := by have := hb1.size; (try simp only [World.size_alloc, World.size_setCell, World.size_drew] at this); omega)); obtain ⟨hc1, hf1⟩ := bcell hb1; clear hb1) | (go_at_call 90; refine (spec_l02Ok _ _ _).mono ?_; rintro e w1 ⟨rfl, hb1⟩; have hB1 := bnext (w := w) (by go_grown) hb1; have hS1 := hB1.size; ((have hz1 : w.heap.size < w1.heap.size := by have := hb1.size; (try simp only [World.size_alloc, World.size_setCell, World.size_drew] at this); omega); (have hy1 : w.heap.size + 1 < w1.heap.size := by have := hb1.size; (try simp only [World.size_alloc, World.size_setCell, World.size_drew] at this); omega)); obtain ⟨hc1, hf1⟩ := bcell hb1; clear hb1) | (go_at_call 116; refine (spec_l14Kind s x y r _ _ _ _ b1 b2 b3 b4 ⟨hz1, by simp [go_sem, *], by simp [go_sem, *], by simp [go_sem, *], by simp [go_sem, *]⟩).mono ?_; rintro e w1 ⟨rfl, hb1⟩; have hB1 := bnext (w := w) (by go_grown) hb1; have hS1 := hB1.size; (skip); obtain ⟨hc1, hf1⟩ := bcell hb1; clear hb1))
    go_ret2
    exact ⟨ret_ii hV.out.symm hC.out.symm, by go_grown⟩
  obtain ⟨b1, b2⟩ := vPoint_yes (vDanger_pt hd)
  obtain ⟨b3, b4⟩ := vPoint_yes hp
  rcases (by omega : (x = p ∧ y = q) ∨ ¬ x = p ∨ (x = p ∧ ¬ y = q)) with ⟨rfl, rfl⟩ | e | ⟨rfl, e⟩
  · have hC : Hid (cardC s x y r x y = 6) := by apply Lib.hid; unfold cardC; rw [hd, hp]; simp
    have hV : Hid (cardV s x y r x y = 0) := by apply Lib.hid; unfold cardV; rw [hC.out]; rfl
    go_enter Try.func54, Try.ntmps54
    go_wp2_with (first | (go_at_call 109; refine (spec_l14One s hs x y r _ 0 _ ⟨by simp; omega, by simp [go_sem], by simp [go_sem], by simp [go_sem], by simp [go_sem]⟩).mono ?_; rintro e w1 ⟨rfl, hb1⟩; have hB1 := bnext (w := w) (by go_grown) hb1; have hS1 := hB1.size; ((have hz1 : w.heap.size < w1.heap.size := by have := hb1.size; (try simp only [World.size_alloc, World.size_setCell, World.size_drew] at this); omega); (have hy1 : w.heap.size + 1 < w1.heap.size := by have := hb1.size; (try simp only [World.size_alloc, World.size_setCell, World.size_drew] at this); omega)); obtain ⟨hc1, hf1⟩ := bcell hb1; clear hb1) | (go_at_call 90; refine (spec_l02Ok _ _ _).mono ?_; rintro e w1 ⟨rfl, hb1⟩; have hB1 := bnext (w := w) (by go_grown) hb1; have hS1 := hB1.size; ((have hz1 : w.heap.size < w1.heap.size := by have := hb1.size; (try simp only [World.size_alloc, World.size_setCell, World.size_drew] at this); omega); (have hy1 : w.heap.size + 1 < w1.heap.size := by have := hb1.size; (try simp only [World.size_alloc, World.size_setCell, World.size_drew] at this); omega)); obtain ⟨hc1, hf1⟩ := bcell hb1; clear hb1) | (go_at_call 116; refine (spec_l14Kind s x y r _ _ _ _ b1 b2 b3 b4 ⟨hz1, by simp [go_sem, *], by simp [go_sem, *], by simp [go_sem, *], by simp [go_sem, *]⟩).mono ?_; rintro e w1 ⟨rfl, hb1⟩; have hB1 := bnext (w := w) (by go_grown) hb1; have hS1 := hB1.size; (skip); obtain ⟨hc1, hf1⟩ := bcell hb1; clear hb1))
    go_ret2
    exact ⟨ret_ii hV.out.symm hC.out.symm, by go_grown⟩
  · have hC : Hid (cardC s x y r p q = 0) := by apply Lib.hid; unfold cardC; rw [hd, hp, if_pos (by rfl), if_neg (fun h => e h.1)]
    have hV : Hid (cardV s x y r p q = quadM (bearM (p - x) (q - y))) := by apply Lib.hid; unfold cardV; rw [hC.out]; rfl
    have g1 : (x == p) = false := beq_eq_false_iff_ne.2 e
    have g2 : (p == x) = false := beq_eq_false_iff_ne.2 (fun h => e h.symm)
    clear e
    go_enter Try.func54, Try.ntmps54
    go_wp2_with (first | (go_at_call 109; refine (spec_l14One s hs x y r _ 0 _ ⟨by simp; omega, by simp [go_sem], by simp [go_sem], by simp [go_sem], by simp [go_sem]⟩).mono ?_; rintro e w1 ⟨rfl, hb1⟩; have hB1 := bnext (w := w) (by go_grown) hb1; have hS1 := hB1.size; ((have hz1 : w.heap.size < w1.heap.size := by have := hb1.size; (try simp only [World.size_alloc, World.size_setCell, World.size_drew] at this); omega); (have hy1 : w.heap.size + 1 < w1.heap.size := by have := hb1.size; (try simp only [World.size_alloc, World.size_setCell, World.size_drew] at this); omega)); obtain ⟨hc1, hf1⟩ := bcell hb1; clear hb1) | (go_at_call 90; refine (spec_l02Ok _ _ _).mono ?_; rintro e w1 ⟨rfl, hb1⟩; have hB1 := bnext (w := w) (by go_grown) hb1; have hS1 := hB1.size; ((have hz1 : w.heap.size < w1.heap.size := by have := hb1.size; (try simp only [World.size_alloc, World.size_setCell, World.size_drew] at this); omega); (have hy1 : w.heap.size + 1 < w1.heap.size := by have := hb1.size; (try simp only [World.size_alloc, World.size_setCell, World.size_drew] at this); omega)); obtain ⟨hc1, hf1⟩ := bcell hb1; clear hb1) | (go_at_call 116; refine (spec_l14Kind s x y r _ _ _ _ b1 b2 b3 b4 ⟨hz1, by simp [go_sem, *], by simp [go_sem, *], by simp [go_sem, *], by simp [go_sem, *]⟩).mono ?_; rintro e w1 ⟨rfl, hb1⟩; have hB1 := bnext (w := w) (by go_grown) hb1; have hS1 := hB1.size; (skip); obtain ⟨hc1, hf1⟩ := bcell hb1; clear hb1))
    go_ret2
    exact ⟨ret_ii hV.out.symm hC.out.symm, by go_grown⟩
  · have hC : Hid (cardC s x y r x q = 0) := by apply Lib.hid; unfold cardC; rw [hd, hp, if_pos (by rfl), if_neg (fun h => e h.2)]
    have hV : Hid (cardV s x y r x q = quadM (bearM 0 (q - y))) := by apply Lib.hid; unfold cardV; rw [hC.out, Int.sub_self]; rfl
    have g1 : (y == q) = false := beq_eq_false_iff_ne.2 e
    have g2 : (q == y) = false := beq_eq_false_iff_ne.2 (fun h => e h.symm)
    clear e
    go_enter Try.func54, Try.ntmps54
    go_wp2_with (first | (go_at_call 109; refine (spec_l14One s hs x y r _ 0 _ ⟨by simp; omega, by simp [go_sem], by simp [go_sem], by simp [go_sem], by simp [go_sem]⟩).mono ?_; rintro e w1 ⟨rfl, hb1⟩; have hB1 := bnext (w := w) (by go_grown) hb1; have hS1 := hB1.size; ((have hz1 : w.heap.size < w1.heap.size := by have := hb1.size; (try simp only [World.size_alloc, World.size_setCell, World.size_drew] at this); omega); (have hy1 : w.heap.size + 1 < w1.heap.size := by have := hb1.size; (try simp only [World.size_alloc, World.size_setCell, World.size_drew] at this); omega)); obtain ⟨hc1, hf1⟩ := bcell hb1; clear hb1) | (go_at_call 90; refine (spec_l02Ok _ _ _).mono ?_; rintro e w1 ⟨rfl, hb1⟩; have hB1 := bnext (w := w) (by go_grown) hb1; have hS1 := hB1.size; ((have hz1 : w.heap.size < w1.heap.size := by have := hb1.size; (try simp only [World.size_alloc, World.size_setCell, World.size_drew] at this); omega); (have hy1 : w.heap.size + 1 < w1.heap.size := by have := hb1.size; (try simp only [World.size_alloc, World.size_setCell, World.size_drew] at this); omega)); obtain ⟨hc1, hf1⟩ := bcell hb1; clear hb1) | (go_at_call 116; refine (spec_l14Kind s x y r _ _ _ _ b1 b2 b3 b4 ⟨hz1, by simp [go_sem, *], by simp [go_sem, *], by simp [go_sem, *], by simp [go_sem, *]⟩).mono ?_; rintro e w1 ⟨rfl, hb1⟩; have hB1 := bnext (w := w) (by go_grown) hb1; have hS1 := hB1.size; (skip); obtain ⟨hc1, hf1⟩ := bcell hb1; clear hb1))
    go_ret2
    exact ⟨ret_ii hV.out.symm hC.out.symm, by go_grown⟩

theorem own : ownKnob Try.prog.godebug = none := by kernel_rfl
theorem laidOut : laidOutB Try.prog = true := by kernel_rfl
namespace fnExactCardinalAt
open Go.ChangeShapes Go.WideShapes Go.ChangeAt Go.RowKit
set_option linter.unusedVariables false
set_option maxHeartbeats 1600000 in
theorem walk (W : World) (a0_0 : ByteArray) (wa0_0 : a0_0.size ≤ maxLen) (a0_1 : Int) (wa0_1 : IntKind.i64.has a0_1) (a0_2 : Int) (wa0_2 : IntKind.i64.has a0_2) (a0_3 : Int) (wa0_3 : IntKind.i64.has a0_3) (a1_0 : Int) (wa1_0 : IntKind.i64.has a1_0) (a1_1 : Int) (wa1_1 : IntKind.i64.has a1_1) :
    Calls Try.prog 9 #[.agg #[.string a0_0, .int .i64 a0_1, .int .i64 a0_2, .int .i64 a0_3], .agg #[.int .i64 a1_0, .int .i64 a1_1]] W fun e w' => e = .returned (.bool true) ∧ Below W.heap.size W w' := by
  revert W
  intro w
  by_cases h : szM 1048576 a0_0.size < 0
  · go_enter Try.func9, Try.ntmps9
    go_wp2_with (first | (go_at_call 42; refine (szDanger_any _ wa0_0 _ _ _ _ (by omega) (by omega) _).mono ?_; rintro e w1 ⟨rfl, hb1⟩; have hB1 := bnext (w := w) (by go_grown) hb1; have hS1 := hB1.size; ((have hz1 : w.heap.size < w1.heap.size := by have := hb1.size; (try simp only [World.size_alloc, World.size_setCell, World.size_drew] at this); omega); (have hy1 : w.heap.size + 1 < w1.heap.size := by have := hb1.size; (try simp only [World.size_alloc, World.size_setCell, World.size_drew] at this); omega)); obtain ⟨hc1, hf1⟩ := bcell hb1; clear hb1))
    go_ret
    exact ⟨rfl, by go_grown⟩
  · go_enter Try.func9, Try.ntmps9
    go_wp2_with (first | (go_at_call 42; refine (szDanger_any _ wa0_0 _ _ _ _ (by omega) (by omega) _).mono ?_; rintro e w1 ⟨rfl, hb1⟩; have hB1 := bnext (w := w) (by go_grown) hb1; have hS1 := hB1.size; ((have hz1 : w.heap.size < w1.heap.size := by have := hb1.size; (try simp only [World.size_alloc, World.size_setCell, World.size_drew] at this); omega); (have hy1 : w.heap.size + 1 < w1.heap.size := by have := hb1.size; (try simp only [World.size_alloc, World.size_setCell, World.size_drew] at this); omega)); obtain ⟨hc1, hf1⟩ := bcell hb1; clear hb1))
    refine wp_region_grew (by kernel_rfl) (by kernel_rfl) ?_
    repeat (first | (go_big_quiet_step ((first | (go_at_call 44; exact grew_of (toDanger_any _ _ _ _ _)) | (go_at_call 26; exact grew_of (toPoint_any _ _ _)) | (go_at_call 54; exact grew_of (spec_CardinalAt _ wa0_0 _ _ _ _ _ _))))) | (quiet_step ((first | (go_at_call 44; exact grew_of (toDanger_any _ _ _ _ _)) | (go_at_call 26; exact grew_of (toPoint_any _ _ _)) | (go_at_call 54; exact grew_of (spec_CardinalAt _ wa0_0 _ _ _ _ _ _))))))
    refine wpQuiet_nil ?_
    rintro _ ⟨⟨w2, hb2⟩, rfl⟩
    try dsimp only
    obtain ⟨hc2, hf2⟩ := bcell hb2
    have hz2 : w.heap.size < _ := Nat.lt_of_lt_of_le hz1 hb2.size
    have hy2 : w.heap.size + 1 < _ := Nat.lt_of_lt_of_le hy1 hb2.size
    go_wp2_with fail
    refine wp_region_grew (by kernel_rfl) (by kernel_rfl) ?_
    repeat (first | (go_big_quiet_step ((first | (go_at_call 44; exact grew_of (toDanger_any _ _ _ _ _)) | (go_at_call 26; exact grew_of (toPoint_any _ _ _)) | (go_at_call 55; exact grew_of (impl_CardinalAt _ wa0_0 _ _ _ _ _ _))))) | (quiet_step ((first | (go_at_call 44; exact grew_of (toDanger_any _ _ _ _ _)) | (go_at_call 26; exact grew_of (toPoint_any _ _ _)) | (go_at_call 55; exact grew_of (impl_CardinalAt _ wa0_0 _ _ _ _ _ _))))))
    refine wpQuiet_nil ?_
    rintro _ ⟨⟨w3, hb3⟩, rfl⟩
    try dsimp only
    obtain ⟨hc3, hf3⟩ := bcell hb3
    go_wp2
    go_ret
    exact ⟨rfl, bnext (bnext hB1 hb2) hb3⟩

theorem lifted (os : Os) (started : os.Started) (H : Type) (enc : TypeId × Value → H) :
    ReturnsInHanded {} Try.checked os 9 .any (Rows.fnExactCardinalAtSpec.pre6 enc Try.prog Try.f9 Rows.fnExactCardinalAtRow.domain false) (Rows.fnExactCardinalAtSpec.post enc Try.prog Try.f9 false true false false) := by
  refine returnsInHanded_of_change (C := Try.checked) own started (by kernel_rfl) Try.func9
    (ChangeSpec.witness6 (enc := enc) (C := Try.checked) false ⟨#[], #[.agg #[.string ⟨#[]⟩, .int .i64 0, .int .i64 0, .int .i64 0], .agg #[.int .i64 0, .int .i64 0]], []⟩ 8 (by kernel_rfl) (by kernel_rfl) (by kernel_rfl) (by kernel_rfl)) ?_
  intro W base args ds gs before hval0 hW hcnd _
  have hval : ∀ (j : Nat) t v, Try.f9.params[j]? = some t → args[j]? = some v → Value.okWide Try.prog W .any base t v := hval0
  have hW' := hW
  obtain ⟨p, q, hA0, hV, rfl, hfz, hnd⟩ := hW
  have hA : DataW.TrodAll enc Try.prog W 0 (fun _ => true) true Try.f9.params.toList args.toList ds p := hA0
  rw [Try.params9] at hA hval
  obtain ⟨v0, vs0, d0, ds0, p0, q0, hargs, rfl, rfl, h0, r0⟩ := trodAll_cons hA
  obtain ⟨v1, vs1, d1, ds1, p1, q1, rfl, rfl, rfl, h1, r1⟩ := trodAll_cons r0
  obtain ⟨rfl, rfl, rfl⟩ := trodAll_nil r1
  obtain rfl : args = #[v0, v1] := by cases args; simp_all
  have g0 := h0
  have g1 := h1
  obtain ⟨rfl, rfl⟩ := trodVars_none hV
  clear hA0 hval0
  simp only [List.append_nil] at hW'
  have hlt : ∀ x ∈ p0 ++ (p1), x.block < W.heap.size := fun x hx => by simpa using hW'.lt x (by simpa using hx)
  obtain ⟨cs0, rfl, k0_0⟩ := open_struct Try.underlying57 (ts := [9, 2, 2, 2]) (by kernel_rfl) (hval 0 57 _ rfl rfl)
  obtain ⟨c0_0, cs0_0, rfl, q0_0, k0_1⟩ := okCells_cons k0_0
  obtain ⟨c0_1, cs0_1, rfl, q0_1, k0_2⟩ := okCells_cons k0_1
  obtain ⟨c0_2, cs0_2, rfl, q0_2, k0_3⟩ := okCells_cons k0_2
  obtain ⟨c0_3, cs0_3, rfl, q0_3, k0_4⟩ := okCells_cons k0_3
  obtain rfl := okCells_nil k0_4
  obtain ⟨a0_0, rfl, wa0_0⟩ := cell_string Try.underlying9 q0_0
  obtain ⟨a0_1, rfl, wa0_1⟩ := cell_int Try.underlying2 q0_1
  obtain ⟨a0_2, rfl, wa0_2⟩ := cell_int Try.underlying2 q0_2
  obtain ⟨a0_3, rfl, wa0_3⟩ := cell_int Try.underlying2 q0_3
  obtain ⟨cs1, rfl, k1_0⟩ := open_struct Try.underlying37 (ts := [2, 2]) (by kernel_rfl) (hval 1 37 _ rfl rfl)
  obtain ⟨c1_0, cs1_0, rfl, q1_0, k1_1⟩ := okCells_cons k1_0
  obtain ⟨c1_1, cs1_1, rfl, q1_1, k1_2⟩ := okCells_cons k1_1
  obtain rfl := okCells_nil k1_2
  obtain ⟨a1_0, rfl, wa1_0⟩ := cell_int Try.underlying2 q1_0
  obtain ⟨a1_1, rfl, wa1_1⟩ := cell_int Try.underlying2 q1_1
  refine (walk W a0_0 wa0_0 a0_1 wa0_1 a0_2 wa0_2 a0_3 wa0_3 a1_0 wa1_0 a1_1 wa1_1).mono fun e W' ⟨he, hg⟩ => ?_
  subst he
  exact ⟨_, rfl, post_below (pa := _) hW' (trodAll_cons_mk (shut_bool Try.underlying4 _) trodAll_mk0) (trodAll_cons_mk (Below.trod laidOut (by kernel_rfl) (of_decide_eq_true (by kernel_rfl)) g0 hg (fun x hx => hlt x (by simp [hx]))) (trodAll_cons_mk (Below.trod laidOut (by kernel_rfl) (of_decide_eq_true (by kernel_rfl)) g1 hg (fun x hx => hlt x (by simp [hx]))) trodAll_mk0)) rfl (by simp) hg⟩

theorem over : Rows.fnExactCardinalAtRow.holds Try.pinned (OpenSpec.ofChange Rows.fnExactCardinalAtSpec) :=
  OpenClaim.holds_of_wide 9 Try.f9 rfl rfl rfl rfl rfl rfl rfl ⟨rfl, rfl, rfl, rfl, rfl⟩ rfl rfl rfl rfl rfl (by kernel_rfl) Try.func9 (by kernel_rfl)
    (of_decide_eq_true (by kernel_rfl)) (by unfold Func.isWrapper; first | (rw [if_pos (by decide +kernel)]; kernel_rfl) | (rw [if_neg (by decide +kernel)]; exact ⟨rfl, rfl⟩))
    (fun os started H enc _ => lifted os started H enc)

theorem proved : Rows.FnExactCardinalAtSaid := over
#print axioms proved
end fnExactCardinalAt

end Go.Proofs.Ytfogioflkehagaa
