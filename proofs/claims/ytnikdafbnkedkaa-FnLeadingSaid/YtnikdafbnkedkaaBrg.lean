/-
  Bearings: contracts that the law of bearings asks for beyond the elder ones, and what the numbers obey. Each under the conditions that it states.
-/
import Derived.Test.YtnikdafbnkedkaaBearLaw
import Derived.Test.YtnikdafbnkedkaaMv
import Derived.Test.YtnikdafbnkedkaaDraw4
import Derived.Test.YtnikdafbnkedkaaFlat
set_option linter.unusedVariables false
set_option linter.unnecessarySimpa false
set_option maxRecDepth 100000
set_option linter.unusedSimpArgs false
namespace Go.Proofs.Ytnikdafbnkedkaa
open Go.RowKit BigFrame Go.Deep

def bytesL (L : List Int) : List Value := L.map (Value.int .u8)
section
variable {H : Type} {enc : TypeId × Value → H} {P : Program} {w : World} {spare : Nat → Bool} {held : Bool}
theorem trod_one_u8 {i : TypeId} (hi : P.underlying i = some (.int .u8)) {m : Nat} {c : List Value} {y : DataW H × List MemPlace} {b : Nat} (h : DataW.trod enc P w b spare held m i c = some y) : ∃ a : Int, c = [.int .u8 a] ∧ IntKind.u8.has a := by
  have h' := h
  obtain ⟨z, e, _, q⟩ := DataW.trod_int hi h'
  exact ⟨z, e, by simpa [Lit.wf, IntKind.has] using q⟩
theorem flat_u8 (L : List Int) : flat (fun a : Int => [Value.int .u8 a]) L = bytesL L := by
  induction L with
  | nil => rfl
  | cons a L ih => rw [flat_cons, ih]; rfl
theorem open_row8 {t i : TypeId} {fuel : Nat} {cs : List Value} {x : DataW H × List MemPlace} (ht : P.underlying t = some (.slice i)) (hi : P.underlying i = some (.int .u8)) (hC : P.cellsOf i = 1) (h : DataW.trod enc P w 0 spare held fuel t cs = some x) :
    ∃ (A : Option Addr) (c : Nat) (L : List Int), cs = [.slice A L.length c] ∧ Sl w w.heap.size A (bytesL L) ∧ (∀ a ∈ L, IntKind.u8.has a) ∧ L.length ≤ maxLen := by
  obtain ⟨A, c, L, e, hs, hb, hl⟩ := open_flat (fun a : Int => [Value.int .u8 a]) IntKind.u8.has (fun _ => rfl) (by decide) ht hC (fun _ _ _ h => trod_one_u8 hi h) h
  exact ⟨A, c, L, e, by rw [← flat_u8]; exact hs, hb, hl⟩
end

theorem turn_self (a : Int) : turnM a a = 0 := by unfold turnM; split <;> omega
theorem turn_sym (a b : Int) : turnM a b = turnM b a := by unfold turnM; split <;> split <;> omega
def sumOk (s c : Int) : Bool := decide (s * s + c * c - 1000000000000 < 3000000) && decide (-3000000 < s * s + c * c - 1000000000000)
theorem sums_ok : ∀ k : Nat, k < 360 → sumOk (sinM k) (cosM k) = true := by decide +kernel
theorem sum_ok (a : Int) : sinM a * sinM a + cosM a * cosM a - 1000000000000 < 3000000 ∧ -3000000 < sinM a * sinM a + cosM a * cosM a - 1000000000000 := by
  obtain ⟨k, hk⟩ := Int.eq_ofNat_of_zero_le (show 0 ≤ a % 360 by omega)
  have h := sums_ok k (by omega)
  rw [sinM_mod a k (by omega), cosM_mod (d := a) (e := k) (by omega)]
  simpa [sumOk] using h
theorem turn_back {X Y : Int} (hne : ¬ (X = 0 ∧ Y = 0)) : 179 ≤ turnM (bearM X Y) (bearM (-X) (-Y)) := by
  have := bear_back hne
  unfold turnM
  split <;> omega
theorem root_lt {n q : Int} (hn : 0 ≤ n) (hq : 0 ≤ q) (h : n < (q + 1) * (q + 1)) : rootM n ≤ q := by
  have h1 := rootM_le n hn
  have h0 := rootM_nonneg n
  rcases Int.lt_or_le q (rootM n) with h2 | h2
  · have := Int.mul_le_mul (show q + 1 ≤ rootM n by omega) (show q + 1 ≤ rootM n by omega) (by omega) h0
    omega
  · exact h2
/-- The place that the step along the best direction leads to is near. -/
theorem near_end (x1 y1 x2 y2 : Int) (h1 : 0 ≤ x1 ∧ x1 ≤ 200000) (h2 : 0 ≤ y1 ∧ y1 ≤ 200000) (h3 : 0 ≤ x2 ∧ x2 ≤ 200000) (h4 : 0 ≤ y2 ∧ y2 ≤ 200000) :
    distM (mvX x1 (bearM (x2 - x1) (y2 - y1)) (distM x1 y1 x2 y2)) (mvY y1 (bearM (x2 - x1) (y2 - y1)) (distM x1 y1 x2 y2)) x2 y2 ≤ distM x1 y1 x2 y2 / 100 + 3 := by
  have hd := distM_bd h1 h2 h3 h4
  have e0 : sqM x1 y1 x2 y2 = (x2 - x1) * (x2 - x1) + (y2 - y1) * (y2 - y1) := by unfold sqM; grind
  have hq0 : 0 ≤ sqM x1 y1 x2 y2 := by rw [e0]; have := sq_nonneg (x2 - x1); have := sq_nonneg (y2 - y1); omega
  have r1 := rootM_le _ hq0
  have r2 := rootM_lt _ hq0
  have hm := move_near (X := x2 - x1) (Y := y2 - y1) (D := distM x1 y1 x2 y2) (by omega) (by omega) (by rw [← e0]; exact r1) (by rw [← e0]; exact r2)
  have e1 : sqM (mvX x1 (bearM (x2 - x1) (y2 - y1)) (distM x1 y1 x2 y2)) (mvY y1 (bearM (x2 - x1) (y2 - y1)) (distM x1 y1 x2 y2)) x2 y2 = (divR (distM x1 y1 x2 y2 * sinM (bearM (x2 - x1) (y2 - y1))) 1000000 - (x2 - x1)) * (divR (distM x1 y1 x2 y2 * sinM (bearM (x2 - x1) (y2 - y1))) 1000000 - (x2 - x1)) + (divR (distM x1 y1 x2 y2 * cosM (bearM (x2 - x1) (y2 - y1))) 1000000 - (y2 - y1)) * (divR (distM x1 y1 x2 y2 * cosM (bearM (x2 - x1) (y2 - y1))) 1000000 - (y2 - y1)) := by
    unfold sqM mvX mvY stepM
    grind
  rw [← e1] at hm
  refine root_lt ?_ (by omega) (by rw [Int.add_assoc]; exact hm)
  unfold sqM
  exact Int.add_nonneg (sq_nonneg _) (sq_nonneg _)

theorem long_any (n c : Nat) (A : Option Addr) (w : World) (hn : n ≤ maxLen) : Calls Try.prog 12 #[.slice A n c] w fun e w' => e = .returned (.bool (decide (1048576 < n))) ∧ w = w' := by
  have hn2 : n ≤ 9223372036854775807 := by simpa [maxLen, IntKind.max, IntKind.bits, IntKind.signed] using hn
  by_cases h : 1048576 < n
  · go_enter Try.func12, Try.ntmps12
    go_wp2
    go_ret
    exact ⟨ret_bool (by simp; omega), rfl⟩
  · go_enter Try.func12, Try.ntmps12
    go_wp2
    go_ret
    exact ⟨ret_bool (by simp; omega), rfl⟩

theorem impl_Bearing_no (x1 y1 x2 y2 : Int) (w : World) (h : vPoint2 x1 y1 x2 y2 = false) :
    Calls Try.prog 14 #[.agg #[.int .i64 x1, .int .i64 y1], .agg #[.int .i64 x2, .int .i64 y2]] w fun e w' => e = .returned (.int .i64 0) ∧ Below w.heap.size w w' := by
  go_enter Try.func14, Try.ntmps14
  go_wp2_with (go_at_call 74; refine (arePoints_two x1 y1 x2 y2 _ _ (by simp) (by simp [go_sem]) (by simp [go_sem]) (by simp [go_sem]) (by simp [go_sem])).mono ?_; rintro e w1 ⟨rfl, hb1⟩; have hB1 := bnext (w := w) (by go_grown) hb1; have hS1 := hB1.size; ((have hz1 : w.heap.size < w1.heap.size := by have := hb1.size; (try simp only [World.size_alloc, World.size_setCell, World.size_drew] at this); omega); (have hy1 : w.heap.size + 1 < w1.heap.size := by have := hb1.size; (try simp only [World.size_alloc, World.size_setCell, World.size_drew] at this); omega)); obtain ⟨hc1, hf1⟩ := bcell hb1; clear hb1)
  go_ret
  exact ⟨rfl, by go_grown⟩

theorem spec_ValidPoint (x y : Int) (w : World) :
    Calls Try.prog 15 #[.agg #[.int .i64 x, .int .i64 y]] w fun e w' => e = .returned (.bool (vPoint x y)) ∧ Below w.heap.size w w' := by
  go_enter Try.func15, Try.ntmps15
  go_wp2_with (go_at_call 76; refine (spec_l02Ok _ _ _).mono ?_; rintro e w1 ⟨rfl, hb1⟩; have hB1 := bnext (w := w) (by go_grown) hb1; have hS1 := hB1.size; (skip); obtain ⟨hc1, hf1⟩ := bcell hb1; clear hb1)
  go_ret
  exact ⟨rfl, by go_grown⟩

theorem spec_Distance (x1 y1 x2 y2 : Int) (w : World) (h1 : 0 ≤ x1 ∧ x1 ≤ 200000) (h2 : 0 ≤ y1 ∧ y1 ≤ 200000) (h3 : 0 ≤ x2 ∧ x2 ≤ 200000) (h4 : 0 ≤ y2 ∧ y2 ≤ 200000) :
    Calls Try.prog 17 #[.agg #[.int .i64 x1, .int .i64 y1], .agg #[.int .i64 x2, .int .i64 y2]] w fun e w' => e = .returned (.int .i64 (distM x1 y1 x2 y2)) ∧ Below w.heap.size w w' := by
  have v1 : vPoint x1 y1 = true := by simp [vPoint, inB, h1, h2]
  have v2 : vPoint x2 y2 = true := by simp [vPoint, inB, h3, h4]
  go_enter Try.func17, Try.ntmps17
  go_wp2_with (first | (go_at_call 76; refine (spec_l02Ok _ _ _).mono ?_; rintro e w1 ⟨rfl, hb1⟩; have hB1 := bnext (w := w) (by go_grown) hb1; have hS1 := hB1.size; ((have hz1 : w.heap.size < w1.heap.size := by have := hb1.size; (try simp only [World.size_alloc, World.size_setCell, World.size_drew] at this); omega); (have hy1 : w.heap.size + 1 < w1.heap.size := by have := hb1.size; (try simp only [World.size_alloc, World.size_setCell, World.size_drew] at this); omega)); obtain ⟨hc1, hf1⟩ := bcell hb1; clear hb1) | (go_at_call 78; refine (spec_Apart _ _ _ _ _ h1 h2 h3 h4).mono ?_; rintro e w1 ⟨rfl, hb1⟩; have hB1 := bnext (w := w) (by go_grown) hb1; have hS1 := hB1.size; (skip); obtain ⟨hc1, hf1⟩ := bcell hb1; clear hb1))
  go_ret
  exact ⟨rfl, by go_grown⟩
end Go.Proofs.Ytnikdafbnkedkaa
