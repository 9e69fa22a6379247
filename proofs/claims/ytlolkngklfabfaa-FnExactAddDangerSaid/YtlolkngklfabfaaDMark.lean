/-
  Contracts of the marks that the laws lay into rows of texts and of dangers. Each under the conditions that it states.
-/
import Derived.Test.YtlolkngklfabfaaMark
import Derived.Test.YtlolkngklfabfaaDangs
set_option linter.unusedVariables false
set_option linter.unnecessarySimpa false
set_option maxRecDepth 100000
set_option linter.unusedSimpArgs false
namespace Go.Proofs.Ytlolkngklfabfaa
open Go.RowKit BigFrame

theorem markText_is (k : Nat) (z : Int) (hz : z = k) (h0 : 1 ≤ k) (h1 : k ≤ 1000000000) (w : World) : Calls Try.prog 81 #[.int .i64 z] w fun e w' => e = .returned (.string (mkT z)) ∧ Below w.heap.size w w' := by
  subst hz
  exact markText_any k h0 h1 w
set_option maxHeartbeats 1600000 in
theorem toDangerS_own (L : List RDanger) (A : Option Addr) (c B : Nat) (w : World) (hs : Sl w B A (flat RDanger.cells L)) (hB : B ≤ w.heap.size) (hl : L.length ≤ 1048576) : Calls Try.prog 21 #[.slice A L.length c] w fun e w' => e = .returned (.slice (some ⟨w.heap.size, 0, none⟩) L.length L.length) ∧ Below w.heap.size w w' ∧ Own w' w.heap.size 44 (L.length * 4) (flat RDanger.cells L) := by
  have hmk : ∀ w : World, (Instr.makeSlice 38 (.int .i64 L.length) (.int .i64 L.length)).run Try.prog w = .ok (.slice (some ⟨w.heap.size, 0, none⟩) L.length L.length) (w.alloc (.cells (madeCells #[.string ⟨#[]⟩, .int .i64 0, .int .i64 0, .int .i64 0] (L.length * 4)) 44)) := fun w => made_row (by_ := 40) w Try.underlying38 (by kernel_rfl) (by kernel_rfl) L.length (by omega) (by omega)
  have hs' := Lib.hid hs
  clear hs
  go_enter Try.func21, Try.ntmps21
  go_wp2
  have hO : Own (w.alloc (.cells (madeCells #[.string ⟨#[]⟩, .int .i64 0, .int .i64 0, .int .i64 0] (L.length * 4)) 44)) w.heap.size 44 (L.length * 4) (flat RDanger.cells (L.take 0)) := own_made w _ _ _ _
  have hB0 : Below w.heap.size w (w.alloc (.cells (madeCells #[.string ⟨#[]⟩, .int .i64 0, .int .i64 0, .int .i64 0] (L.length * 4)) 44)) := by go_grown
  clear hmk
  go_loopw [4] (fun i wr => ∃ k : Nat, i = .int .i64 k ∧ k ≤ L.length ∧ Below w.heap.size w wr ∧ Own wr w.heap.size 44 (L.length * 4) (flat RDanger.cells (L.take k))) (fun i _ => L.length - (intOf i).toNat)
  case atStart => exact ⟨0, rfl, Nat.zero_le _, hB0, hO⟩
  case round =>
    clear hB0 hO
    obtain ⟨k, rfl, hk, hB1, hO⟩ := hrel
    by_cases hlt : k < L.length
    · obtain ⟨b, o, rfl, hb, he⟩ := Sl.elem RDanger.len (by decide) (hs'.out.below (hB1.mono hB)) hlt
      have d0 : wr.cell? ⟨b, o + k * 4, none⟩ = some (.string L[k].f0) := by have := he 0 _ rfl; simpa [Nat.add_assoc] using this
      have d1 : wr.cell? ⟨b, o + k * 4 + 1, none⟩ = some (.int .i64 L[k].f1) := by have := he 1 _ rfl; simpa [Nat.add_assoc] using this
      have d2 : wr.cell? ⟨b, o + k * 4 + 2, none⟩ = some (.int .i64 L[k].f2) := by have := he 2 _ rfl; simpa [Nat.add_assoc] using this
      have d3 : wr.cell? ⟨b, o + k * 4 + 3, none⟩ = some (.int .i64 L[k].f3) := by have := he 3 _ rfl; simpa [Nat.add_assoc] using this
      have hkn : k * 4 + 4 ≤ L.length * 4 := by have := Nat.mul_le_mul_right 4 (show k + 1 ≤ L.length by omega); omega
      have hlen : (flat RDanger.cells (L.take k)).length = k * 4 := by rw [flat_len RDanger.len, List.length_take, Nat.min_eq_left hk]
      have hstep : flat RDanger.cells (L.take (k + 1)) = flat RDanger.cells (L.take k) ++ [.string L[k].f0] ++ [.int .i64 L[k].f1] ++ [.int .i64 L[k].f2] ++ [.int .i64 L[k].f3] := by rw [List.take_succ_eq_append_getElem hlt, flat_snoc]; simp [RDanger.cells]
      have hstep := Lib.hid hstep
      clear he
      go_wp2_with (go_at_call 22; refine (toDanger_any _ _ _ _ _).mono ?_; rintro e w1 ⟨rfl, hb1⟩; (have hO1 := hO.on hb1); obtain ⟨y0, x0⟩ := hO1.cell (i := k * 4) (by omega); have v0 := hO1.frozen (k * 4); obtain ⟨y1, x1⟩ := hO1.cell (i := k * 4 + 1) (by omega); have v1 := hO1.frozen (k * 4 + 1); obtain ⟨y2, x2⟩ := hO1.cell (i := k * 4 + 2) (by omega); have v2 := hO1.frozen (k * 4 + 2); obtain ⟨y3, x3⟩ := hO1.cell (i := k * 4 + 3) (by omega); have v3 := hO1.frozen (k * 4 + 3))
      go_roundw
      case rel => exact ⟨k + 1, by go_num, by omega, by have := bnext hB1 hb1; go_grown, by rw [hstep.out]; exact (Own.set (Own.set (Own.set (Own.set hO1 (by simp [hlen]) (by omega) _) (by simp [hlen]) (by omega) _) (by simp [hlen]) (by omega) _) (by simp [hlen]) (by omega) _)⟩
      case measure => simp [intOf]; omega
    · obtain rfl : k = L.length := by omega
      have hO2 : Own wr w.heap.size 44 (L.length * 4) (flat RDanger.cells L) := by rw [List.take_length] at hO; exact hO
      go_wp2
      go_ret
      exact ⟨rfl, hB1, hO2⟩
def ssDanger (j : Nat) : Bool := decide (j % 4 = 0)
set_option maxHeartbeats 1600000 in
theorem markDangerS_any (B e : Nat) (v : Value) (n : Nat) (xs : List Value) (k0 : Nat) (w : World) (h : Rs w B e 4 v n xs) (hn : n ≤ 1048576) (h0 : 1 ≤ k0) (h1 : k0 ≤ 100000000) : Calls Try.prog 25 #[v, .int .i64 k0] w fun e' w' => e' = .returned (.int .i64 ((k0 : Int) + (n : Int) * 4)) ∧ w.grownBy w' v.ownBlock ∧ Rs w' B e 4 v n (marks ssDanger k0 (n * 4)) := by
  obtain ⟨hl, ⟨rfl, rfl⟩ | ⟨g, c, N, rfl, hB, hO⟩⟩ := h
  · go_enter Try.func25, Try.ntmps25
    go_wp2
    go_loopw [1, 5] (fun s i wr => s = .int .i64 k0 ∧ i = .int .i64 0 ∧ w = wr) (fun _ _ _ => 0)
    case atStart => exact ⟨rfl, rfl, rfl⟩
    case round =>
      obtain ⟨rfl, rfl, rfl⟩ := hrel
      go_wp2
      go_ret
      exact ⟨by simp, World.grownBy.refl _ _, by simpa [marks] using Rs.nil _ _ _ _⟩
  · have hN : n * 4 ≤ N := by obtain ⟨_, _, _, hxN, _⟩ := id hO; omega
    have hM0 : Own w g e N (marks ssDanger k0 (0 * 4)) := by simpa [marks] using hO.start
    clear hO
    go_enter Try.func25, Try.ntmps25
    go_wp2
    go_loopw [1, 5] (fun s i wr => ∃ k : Nat, s = .int .i64 ((k0 : Int) + (k : Int) * 4) ∧ i = .int .i64 k ∧ k ≤ n ∧ w.grownBy wr (some g) ∧ Own wr g e N (marks ssDanger k0 (k * 4))) (fun _ i _ => n - (intOf i).toNat)
    case atStart => exact ⟨0, by simp, rfl, Nat.zero_le _, World.grownBy.refl _ _, by simpa using hM0⟩
    case round =>
      clear hM0
      obtain ⟨k, rfl, rfl, hk, hg0, hM⟩ := hrel
      by_cases hlt : k < n
      · have hkN : k * 4 + 4 ≤ N := by omega
        go_wp2_with fail
        refine (markText_is (k0 + (k * 4)) _ (by omega) (by omega) (by omega) _).mono ?_
        rintro e1 w0 ⟨rfl, hb0⟩
        replace hM := hM.on hb0
        have hg1 := Go.Lib.grownBy_below hg0 hb0
        clear hb0
        obtain ⟨u0, x0⟩ := hM.cell (i := k * 4) (by omega)
        have y0 := hM.frozen (k * 4)
        replace hM := Own.mark hM (by omega) (i := k * 4) rfl (u := .string (mkT ((k0 : Int) + (k : Int) * 4))) (mv_str (by unfold ssDanger; exact decide_eq_true (by omega)) (by omega))
        obtain ⟨u1, x1⟩ := hM.cell (i := k * 4 + 1) (by omega)
        have y1 := hM.frozen (k * 4 + 1)
        replace hM := Own.mark hM (by omega) (i := k * 4 + 1) rfl (u := .int .i64 ((k0 : Int) + (k : Int) * 4 + 1)) (mv_int (by unfold ssDanger; exact decide_eq_false (by omega)) (by omega))
        obtain ⟨u2, x2⟩ := hM.cell (i := k * 4 + 2) (by omega)
        have y2 := hM.frozen (k * 4 + 2)
        replace hM := Own.mark hM (by omega) (i := k * 4 + 2) rfl (u := .int .i64 ((k0 : Int) + (k : Int) * 4 + 1 + 1)) (mv_int (by unfold ssDanger; exact decide_eq_false (by omega)) (by omega))
        obtain ⟨u3, x3⟩ := hM.cell (i := k * 4 + 3) (by omega)
        have y3 := hM.frozen (k * 4 + 3)
        replace hM := Own.mark hM (by omega) (i := k * 4 + 3) rfl (u := .int .i64 ((k0 : Int) + (k : Int) * 4 + 1 + 1 + 1)) (mv_int (by unfold ssDanger; exact decide_eq_false (by omega)) (by omega))
        have hM4 := Lib.hid hM
        clear hM
        go_wp2
        go_roundw
        case rel => exact ⟨k + 1, congrArg (Value.int .i64) (by omega), by go_num, by omega, (Go.Lib.grownBy_setB (Go.Lib.grownBy_setB (Go.Lib.grownBy_setB (Go.Lib.grownBy_setB hg1 _ _) _ _) _ _) _ _), by rw [show (k + 1) * 4 = k * 4 + 1 + 1 + 1 + 1 by omega]; exact hM4.out⟩
        case measure => simp [intOf]; omega
      · obtain rfl : k = n := by omega
        go_wp2
        go_ret
        exact ⟨rfl, hg0, by rw [marks_len], .inr ⟨g, c, N, rfl, hB, hM⟩⟩
set_option maxHeartbeats 1600000 in
theorem heldDangerS_any (B e : Nat) (v : Value) (n : Nat) (k0 : Nat) (w : World) (h : Rs w B e 4 v n (marks ssDanger k0 (n * 4))) (hn : n ≤ 1048576) (h0 : 1 ≤ k0) (h1 : k0 ≤ 100000000) : Calls Try.prog 26 #[v, .int .i64 k0] w fun e' w' => e' = .returned (.int .i64 ((k0 : Int) + (n : Int) * 4)) ∧ Below w.heap.size w w' := by
  obtain ⟨hl, ⟨rfl, rfl⟩ | ⟨g, c, N, rfl, hB, hO⟩⟩ := h
  · go_enter Try.func26, Try.ntmps26
    go_wp2
    go_loopw [1, 5] (fun s i wr => s = .int .i64 k0 ∧ i = .int .i64 0 ∧ w = wr) (fun _ _ _ => 0)
    case atStart => exact ⟨rfl, rfl, rfl⟩
    case round =>
      obtain ⟨rfl, rfl, rfl⟩ := hrel
      go_wp2
      go_ret
      exact ⟨by simp, Below.refl _ _⟩
  · go_enter Try.func26, Try.ntmps26
    go_wp2
    go_loopw [1, 5] (fun s i wr => ∃ k : Nat, s = .int .i64 ((k0 : Int) + (k : Int) * 4) ∧ i = .int .i64 k ∧ k ≤ n ∧ Below w.heap.size w wr) (fun _ i _ => n - (intOf i).toNat)
    case atStart => exact ⟨0, by simp, rfl, Nat.zero_le _, Below.refl _ _⟩
    case round =>
      obtain ⟨k, rfl, rfl, hk, hB1⟩ := hrel
      have hM := hO.on hB1
      have hgl := hM.lt
      by_cases hlt : k < n
      · have hkN : k * 4 + 4 ≤ n * 4 := by omega
        have d0 : wr.cell? ⟨g, k * 4, none⟩ = some (.string (mkT ((k0 : Int) + (k : Int) * 4))) := by rw [hM.get (marks_get (by omega))]; exact congrArg some (mv_str (by unfold ssDanger; exact decide_eq_true (by omega)) (by omega))
        go_wp2_with fail
        refine wp_region_grew (by kernel_rfl) (by kernel_rfl) ?_
        repeat (first | (go_big_quiet_step ((go_at_call 81; exact grew_of (markText_is (k0 + (k * 4)) _ (by omega) (by omega) (by omega) _)))) | (quiet_step ((go_at_call 81; exact grew_of (markText_is (k0 + (k * 4)) _ (by omega) (by omega) (by omega) _)))))
        refine wpQuiet_nil ?_
        rintro w9 ⟨⟨w8, hb9⟩, rfl⟩
        try dsimp only
        have hM9 := hM.on hb9
        have f1 : w9.cell? ⟨g, k * 4 + 1, none⟩ = some (.int .i64 ((k0 : Int) + (k : Int) * 4 + 1)) := by rw [hM9.get (marks_get (by omega))]; exact congrArg some (mv_int (by unfold ssDanger; exact decide_eq_false (by omega)) (by omega))
        have f2 : w9.cell? ⟨g, k * 4 + 2, none⟩ = some (.int .i64 ((k0 : Int) + (k : Int) * 4 + 1 + 1)) := by rw [hM9.get (marks_get (by omega))]; exact congrArg some (mv_int (by unfold ssDanger; exact decide_eq_false (by omega)) (by omega))
        have f3 : w9.cell? ⟨g, k * 4 + 3, none⟩ = some (.int .i64 ((k0 : Int) + (k : Int) * 4 + 1 + 1 + 1)) := by rw [hM9.get (marks_get (by omega))]; exact congrArg some (mv_int (by unfold ssDanger; exact decide_eq_false (by omega)) (by omega))
        go_wp2
        go_roundw
        case rel => exact ⟨k + 1, congrArg (Value.int .i64) (by omega), by go_num, by omega, bnext hB1 hb9⟩
        case measure => simp [intOf]; omega
      · obtain rfl : k = n := by omega
        go_wp2
        go_ret
        exact ⟨rfl, hB1⟩
end Go.Proofs.Ytlolkngklfabfaa
