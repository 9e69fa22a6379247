/-
  Contracts of the laws' own helpers for channels and rows of numbers: sizes, marks. Under the conditions that each states.
-/
import Derived.Test.YtlflefnjoeappaaWrong
import Derived.Test.YtlflefnjoeappaaInts
set_option linter.unusedVariables false
set_option linter.unnecessarySimpa false
set_option maxRecDepth 100000
set_option linter.unusedSimpArgs false
namespace Go.Proofs.Ytlflefnjoeappaa
open Go.RowKit BigFrame

def ssInt64 (j : Nat) : Bool := decide (j < 0)
set_option maxHeartbeats 1600000 in
theorem markInt64S_any (B e : Nat) (v : Value) (n : Nat) (xs : List Value) (k0 : Nat) (w : World) (h : Rs w B e 1 v n xs) (hn : n ≤ 1048576) (h0 : 1 ≤ k0) (h1 : k0 ≤ 100000000) : Calls Try.prog 49 #[v, .int .i64 k0] w fun e' w' => e' = .returned (.int .i64 ((k0 : Int) + (n : Int))) ∧ w.grownBy w' v.ownBlock ∧ Rs w' B e 1 v n (marks ssInt64 k0 (n)) := by
  obtain ⟨hl, ⟨rfl, rfl⟩ | ⟨g, c, N, rfl, hB, hO⟩⟩ := h
  · go_enter Try.func49, Try.ntmps49
    go_wp2
    go_loopw [1, 5] (fun s i wr => s = .int .i64 k0 ∧ i = .int .i64 0 ∧ w = wr) (fun _ _ _ => 0)
    case atStart => exact ⟨rfl, rfl, rfl⟩
    case round =>
      obtain ⟨rfl, rfl, rfl⟩ := hrel
      go_wp2
      go_ret
      exact ⟨by simp, World.grownBy.refl _ _, by simpa [marks] using Rs.nil _ _ _ _⟩
  · have hN : n ≤ N := by obtain ⟨_, _, _, hxN, _⟩ := id hO; omega
    have hM0 : Own w g e N (marks ssInt64 k0 (0 * 1)) := by simpa [marks] using hO.start
    clear hO
    go_enter Try.func49, Try.ntmps49
    go_wp2
    go_loopw [1, 5] (fun s i wr => ∃ k : Nat, s = .int .i64 ((k0 : Int) + (k : Int)) ∧ i = .int .i64 k ∧ k ≤ n ∧ w.grownBy wr (some g) ∧ Own wr g e N (marks ssInt64 k0 (k))) (fun _ i _ => n - (intOf i).toNat)
    case atStart => exact ⟨0, by simp, rfl, Nat.zero_le _, World.grownBy.refl _ _, by simpa using hM0⟩
    case round =>
      clear hM0
      obtain ⟨k, rfl, rfl, hk, hg0, hM⟩ := hrel
      by_cases hlt : k < n
      · have hkN : k + 1 ≤ N := by omega
        obtain ⟨u0, x0⟩ := hM.cell (i := k) (by omega)
        have y0 := hM.frozen (k)
        replace hM := Own.mark hM (by omega) (i := k) rfl (u := .int .i64 ((k0 : Int) + (k : Int))) (mv_int (by unfold ssInt64; exact decide_eq_false (by omega)) (by omega))
        have hM1 := Lib.hid hM
        clear hM
        go_wp2
        go_roundw
        case rel => exact ⟨k + 1, congrArg (Value.int .i64) (by omega), by go_num, by omega, (Go.Lib.grownBy_setB hg0 _ _), by rw [show k + 1 = k + 1 by omega]; exact hM1.out⟩
        case measure => simp [intOf]; omega
      · obtain rfl : k = n := by omega
        go_wp2
        go_ret
        exact ⟨rfl, hg0, by rw [marks_len, Nat.mul_one], .inr ⟨g, c, N, rfl, hB, hM⟩⟩
set_option maxHeartbeats 1600000 in
theorem heldInt64S_any (B e : Nat) (v : Value) (n : Nat) (k0 : Nat) (w : World) (h : Rs w B e 1 v n (marks ssInt64 k0 (n))) (hn : n ≤ 1048576) (h0 : 1 ≤ k0) (h1 : k0 ≤ 100000000) : Calls Try.prog 50 #[v, .int .i64 k0] w fun e' w' => e' = .returned (.int .i64 ((k0 : Int) + (n : Int))) ∧ Below w.heap.size w w' := by
  obtain ⟨hl, ⟨rfl, rfl⟩ | ⟨g, c, N, rfl, hB, hO⟩⟩ := h
  · go_enter Try.func50, Try.ntmps50
    go_wp2
    go_loopw [1, 5] (fun s i wr => s = .int .i64 k0 ∧ i = .int .i64 0 ∧ w = wr) (fun _ _ _ => 0)
    case atStart => exact ⟨rfl, rfl, rfl⟩
    case round =>
      obtain ⟨rfl, rfl, rfl⟩ := hrel
      go_wp2
      go_ret
      exact ⟨by simp, Below.refl _ _⟩
  · go_enter Try.func50, Try.ntmps50
    go_wp2
    go_loopw [1, 5] (fun s i wr => ∃ k : Nat, s = .int .i64 ((k0 : Int) + (k : Int)) ∧ i = .int .i64 k ∧ k ≤ n ∧ Below w.heap.size w wr) (fun _ i _ => n - (intOf i).toNat)
    case atStart => exact ⟨0, by simp, rfl, Nat.zero_le _, Below.refl _ _⟩
    case round =>
      obtain ⟨k, rfl, rfl, hk, hB1⟩ := hrel
      have hM := hO.on hB1
      have hgl := hM.lt
      by_cases hlt : k < n
      · have hkN : k + 1 ≤ n := by omega
        have d0 : wr.cell? ⟨g, k, none⟩ = some (.int .i64 ((k0 : Int) + (k : Int))) := by rw [hM.get (marks_get (by omega))]; exact congrArg some (mv_int (by unfold ssInt64; exact decide_eq_false (by omega)) (by omega))
        go_wp2
        go_roundw
        case rel => exact ⟨k + 1, congrArg (Value.int .i64) (by omega), by go_num, by omega, hB1⟩
        case measure => simp [intOf]; omega
      · obtain rfl : k = n := by omega
        go_wp2
        go_ret
        exact ⟨rfl, hB1⟩
def szC (l : Int) (n k : Nat) : Int := if l - n < 0 then -1 else szN (l - n) k
theorem szC_ge {l : Int} {n k : Nat} (h : ¬ szC l n k < 0) : (n : Int) + k ≤ l ∧ szC l n k = l - n - k := by
  unfold szC at h ⊢
  by_cases h1 : l - n < 0
  · rw [if_pos h1] at h; omega
  · rw [if_neg h1] at h ⊢
    unfold szN at h ⊢
    by_cases h2 : l - n - k < 0
    · rw [if_pos h2] at h; omega
    · rw [if_neg h2]; omega
theorem szC_no {l : Int} {n k : Nat} (h : szC l n k < 0) : szC l n k = -1 := by
  unfold szC at h ⊢
  by_cases h1 : l - n < 0
  · rw [if_pos h1]
  · rw [if_neg h1] at h ⊢
    unfold szN at h ⊢
    by_cases h2 : l - n - k < 0
    · rw [if_pos h2]
    · rw [if_neg h2] at h; omega
theorem szChan_any (s : ByteArray) (hs : s.size ≤ maxLen) (n : Nat) (A : Option Addr) (c : Nat) (wd l : Int) (h1 : -1 ≤ l) (h2 : l ≤ 1048576) (hn : n ≤ maxLen) (w : World) : Calls Try.prog 39 #[.agg #[.string s, .slice A n c, .int .i64 wd], .int .i64 l] w fun e w' => e = .returned (.int .i64 (szC l s.size n)) ∧ Below w.heap.size w w' := by
  unfold maxLen at hs
  by_cases h3 : l - s.size < 0
  · have e : Hid (szC l s.size n = -1) := Lib.hid (by unfold szC; rw [if_pos h3])
    go_enter Try.func39, Try.ntmps39
    go_wp2
    go_ret
    exact ⟨ret_int e.out.symm, by go_grown⟩
  have e : Hid (szC l s.size n = szN (l - s.size) n) := Lib.hid (by unfold szC; rw [if_neg h3])
  have hc := fun w => szPointS_any n A c (l - s.size) (by omega) (by omega) hn w
  have hz : szN (l - s.size) n = -1 ∨ 0 ≤ szN (l - s.size) n := by
    unfold szN
    split
    · exact Or.inl rfl
    · omega
  have hu : szN (l - s.size) n ≤ 1048576 := by
    unfold szN
    split <;> omega
  generalize szN (l - s.size) n = z at e hc hz hu
  rcases hz with rfl | hz
  · go_enter Try.func39, Try.ntmps39
    go_wp2_with (go_at_call 95; refine (hc _).mono ?_; rintro e w' ⟨rfl, rfl⟩)
    go_ret
    exact ⟨ret_int e.out.symm, by go_grown⟩
  · have hz' : ¬ z < 0 := by omega
    go_enter Try.func39, Try.ntmps39
    go_wp2_with (go_at_call 95; refine (hc _).mono ?_; rintro e w' ⟨rfl, rfl⟩)
    go_ret
    exact ⟨ret_int e.out.symm, by go_grown⟩
theorem rs_row {w : World} {B e sz n c : Nat} {A : Option Addr} {xs : List Value} (h : Rs w B e sz (.slice A n c) n xs) : Sl w w.heap.size A xs := by
  obtain ⟨A', c', e1, hs⟩ := h.sl
  cases e1
  exact hs
theorem markChanW (s : ByteArray) (B e : Nat) (A : Option Addr) (c n : Nat) (wd : Int) (xs : List Value) (k0 : Nat) (w : World) (h : Rs w B e 2 (.slice A n c) n xs) (hn : n ≤ 1048576) (h0 : 1 ≤ k0) (h1 : k0 ≤ 100000000) : Calls Try.prog 47 #[.agg #[.string s, .slice A n c, .int .i64 wd], .int .i64 k0] w fun e' w' => e' = .returned (.int .i64 ((k0 : Int) + (n : Int) * 2)) ∧ w.grownBy w' (Value.slice A n c).ownBlock ∧ Rs w' B e 2 (.slice A n c) n (marks ssPoint k0 (n * 2)) := by
  have h' := Lib.hid h
  have hbl := Lib.hid h.block
  clear h
  go_enter Try.func47, Try.ntmps47
  go_wp2_with fail
  refine (markPointS_any B e (.slice A n c) n xs k0 _ (h'.out.on (by go_grown)) hn h0 h1).mono ?_
  rintro e w1 ⟨rfl, hg, hR⟩
  go_wp2
  go_ret
  have hs := hg.size
  rw [World.size_alloc] at hs
  refine ⟨rfl, ⟨hg.os, hg.tape, hg.output, by omega, fun k hk hne => (hg.block k (by rw [World.size_alloc]; omega) hne).trans ((show Below w.heap.size w _ by go_grown).block k hk)⟩, hR⟩
theorem eqChanW (s : ByteArray) (P : List RPoint) (A A2 : Option Addr) (c c2 B B2 e e2 : Nat) (wd : Int) (w : World) (h : Rs w B e 2 (.slice A P.length c) P.length (flat RPoint.cells P)) (h2 : Rs w B2 e2 2 (.slice A2 P.length c2) P.length (flat RPoint.cells P)) (hl : P.length ≤ 1048576) : Calls Try.prog 45 #[.agg #[.string s, .slice A P.length c, .int .i64 wd], .agg #[.string s, .slice A2 P.length c2, .int .i64 wd]] w fun e w' => e = .returned (.bool true) ∧ Below w.heap.size w w' := by
  obtain ⟨A', c', e1, hs⟩ := h.sl
  obtain ⟨A2', c2', e2, hs2⟩ := h2.sl
  cases e1
  cases e2
  exact eqChannel_same s P A A2 c c2 w.heap.size wd w hs hs2 (Nat.le_refl _) hl
/-- Two rows of numbers that calls have made. -/
theorem eqInt64W (K : List Int) (v v2 : Value) (B B2 e e2 : Nat) (w : World) (h : Rs w B e 1 v K.length (ints K)) (h2 : Rs w B2 e2 1 v2 K.length (ints K)) (hl : K.length ≤ 1048576) : Calls Try.prog 44 #[v, v2] w fun e w' => e = .returned (.bool true) ∧ Below w.heap.size w w' := by
  obtain ⟨A, c, rfl, hs⟩ := h.sl
  obtain ⟨A2, c2, rfl, hs2⟩ := h2.sl
  exact eqInt64S_same K A A2 c c2 w.heap.size w hs hs2 (Nat.le_refl _) hl
end Go.Proofs.Ytlflefnjoeappaa
