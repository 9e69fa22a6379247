/-
  DangersOn: the program's function returns what the reference's returns, for all arguments, in a row of its own. Under no condition.
-/
import Derived.Test.YtnikdafbnkedkaaDOn
import Derived.Test.YtnikdafbnkedkaaDMark
set_option linter.unusedVariables false
set_option linter.unnecessarySimpa false
set_option maxRecDepth 100000
set_option linter.unusedSimpArgs false
namespace Go.Proofs.Ytnikdafbnkedkaa
open Go.RowKit BigFrame
theorem own : ownKnob Try.prog.godebug = none := by kernel_rfl
theorem laidOut : laidOutB Try.prog = true := by kernel_rfl

theorem Sl.text {w : World} {B : Nat} {A : Option Addr} {L : List ByteArray} (hs : Sl w B A ((L).map Value.string)) {k : Nat} (hk : k < L.length) : ∃ b o, A = some ⟨b, o, none⟩ ∧ b < B ∧ w.cell? ⟨b, o + k, none⟩ = some (.string L[k]) := by
  obtain ⟨b, o, e, hb, hc⟩ := hs (by intro e; rw [List.map_eq_nil_iff] at e; subst e; simp at hk)
  exact ⟨b, o, e, hb, hc k _ (by rw [List.getElem?_map, List.getElem?_eq_getElem hk]; rfl)⟩
set_option maxHeartbeats 800000 in
theorem eqStringS_same (L : List ByteArray) (A A2 : Option Addr) (c c2 B : Nat) (w : World) (hs : Sl w B A ((L).map Value.string)) (hs2 : Sl w B A2 ((L).map Value.string)) (hB : B ≤ w.heap.size) (hl : L.length ≤ 1048576) : Calls Try.prog 46 #[.slice A L.length c, .slice A2 L.length c2] w fun e w' => e = .returned (.bool true) ∧ Below w.heap.size w w' := by
  have hs' := Lib.hid hs
  have hs2' := Lib.hid hs2
  clear hs hs2
  go_enter Try.func46, Try.ntmps46
  go_wp2
  go_loopw [5] (fun i wr => ∃ k : Nat, i = .int .i64 k ∧ k ≤ L.length ∧ Below w.heap.size w wr) (fun i _ => L.length - (intOf i).toNat)
  case atStart => exact ⟨0, rfl, Nat.zero_le _, Below.refl _ _⟩
  case round =>
    obtain ⟨k, rfl, hk, hB1⟩ := hrel
    have hS1 := hB1.size
    by_cases hlt : k < L.length
    · obtain ⟨bp, op, rfl, hbp, dp⟩ := Sl.text (hs'.out.below (hB1.mono hB)) hlt
      obtain ⟨bq, oq, rfl, hbq, dq⟩ := Sl.text (hs2'.out.below (hB1.mono hB)) hlt
      have hwp : bp < wr.heap.size := by omega
      have hwq : bq < wr.heap.size := by omega
      go_wp2_with fail
      refine wp_region_grew (by kernel_rfl) (by kernel_rfl) ?_
      repeat (first | (go_big_quiet_step (fail)) | (quiet_step (fail)))
      refine wpQuiet_nil ?_
      rintro _ ⟨⟨w9, hb9⟩, rfl⟩
      try dsimp only
      obtain ⟨hc9, hf9⟩ := bcell hb9
      go_wp2
      go_roundw
      case rel => exact ⟨k + 1, by go_num, by omega, bnext hB1 hb9⟩
      case measure => simp [intOf]; omega
    · obtain rfl : k = L.length := by omega
      go_wp2
      go_ret
      exact ⟨rfl, hB1⟩
/-- Two rows of texts that calls have made. -/
theorem eqStringS_rs (L : List ByteArray) (v v2 : Value) (B B2 e e2 : Nat) (w : World) (h : Rs w B e 1 v L.length ((L).map Value.string)) (h2 : Rs w B2 e2 1 v2 L.length ((L).map Value.string)) (hl : L.length ≤ 1048576) : Calls Try.prog 46 #[v, v2] w fun e w' => e = .returned (.bool true) ∧ Below w.heap.size w w' := by
  obtain ⟨A, c, rfl, hs⟩ := h.sl
  obtain ⟨A2, c2, rfl, hs2⟩ := h2.sl
  exact eqStringS_same L A A2 c c2 w.heap.size w hs hs2 (Nat.le_refl _) hl


def szN (left : Int) (n : Nat) : Int := if left - n < 0 then -1 else left - n
structure RPoint where
  f0 : Int
  f1 : Int
instance : Inhabited RPoint := ⟨⟨0, 0⟩⟩
def RPoint.cells (a : RPoint) : List Value := [.int .i64 a.f0, .int .i64 a.f1]
theorem RPoint.len (a : RPoint) : a.cells.length = 2 := rfl
def RPoint.ok (a : RPoint) : Prop := IntKind.i64.has a.f0 ∧ IntKind.i64.has a.f1
def RPoint.same (a b : RPoint) : Bool := decide (a.f0 = b.f0) && (decide (a.f1 = b.f1))
section
open Go.ChangeShapes Go.WideShapes Go.ChangeAt Go.Deep
theorem trod_Point {H : Type} {enc : TypeId × Value → H} {w : World} {b : Nat} {spare : Nat → Bool} {held : Bool} {m : Nat} {c : List Value} {y : DataW H × List MemPlace} (h : DataW.trod enc Try.prog w b spare held m 38 c = some y) : ∃ a : RPoint, c = a.cells ∧ a.ok := by
  have hc : c.length = 2 := by
    obtain ⟨_, _, _, _, hl, _⟩ := DataW.trod_struct Try.underlying38 h
    exact hl.trans (by kernel_rfl)
  obtain ⟨c0, c1, rfl⟩ : ∃ c0 c1, c = [c0, c1] := by
    match c, hc with
    | [c0, c1], _ => exact ⟨c0, c1, rfl⟩
  obtain ⟨xsc0_c1, nc0_c1, _, _, _, hlc0_c1, hfc0_c1⟩ := DataW.trod_struct Try.underlying38 h
  have gc0_c1_0 := (hfc0_c1 0 _ rfl).trans (List.getElem?_eq_getElem (by rw [hlc0_c1]; decide))
  obtain ⟨zc0, ec0, _, qc0⟩ := DataW.trod_int Try.underlying2 (show DataW.trod enc Try.prog w b spare held nc0_c1 2 [c0] = _ from gc0_c1_0)
  have gc0_c1_1 := (hfc0_c1 1 _ rfl).trans (List.getElem?_eq_getElem (by rw [hlc0_c1]; decide))
  obtain ⟨zc1, ec1, _, qc1⟩ := DataW.trod_int Try.underlying2 (show DataW.trod enc Try.prog w b spare held nc0_c1 2 [c1] = _ from gc0_c1_1)
  obtain rfl : c0 = _ := by simpa using ec0
  obtain rfl : c1 = _ := by simpa using ec1
  exact ⟨⟨zc0, zc1⟩, rfl, (by simpa [Lit.wf, IntKind.has] using qc0), (by simpa [Lit.wf, IntKind.has] using qc1)⟩
end
set_option maxHeartbeats 1600000 in
theorem eqPoint_same (f0 : Int) (f1 : Int) (w : World) : Calls Try.prog 106 #[.agg #[.int .i64 f0, .int .i64 f1], .agg #[.int .i64 f0, .int .i64 f1]] w fun e w' => e = .returned (.bool true) ∧ Below w.heap.size w w' := by
  go_enter Try.func106, Try.ntmps106
  go_wp2
  all_goals (go_ret; exact ⟨rfl, by go_grown⟩)
theorem szPointS_any (n : Nat) (A : Option Addr) (c : Nat) (l : Int) (h1 : -1 ≤ l) (h2 : l ≤ 1048576) (hn : n ≤ maxLen) (w : World) : Calls Try.prog 38 #[.slice A n c, .int .i64 l] w fun e w' => e = .returned (.int .i64 (szN l n)) ∧ w = w' := by
  have hn2 : n ≤ 9223372036854775807 := by simpa [maxLen, IntKind.max, IntKind.bits, IntKind.signed] using hn
  by_cases h : l - (n : Int) < 0
  · have hm : Hid (szN l n = -1) := by apply Lib.hid; unfold szN; rw [if_pos h]
    go_enter Try.func38, Try.ntmps38
    go_wp2
    go_ret
    exact ⟨ret_int hm.out.symm, rfl⟩
  · have hm : Hid (szN l n = l - n) := by apply Lib.hid; unfold szN; rw [if_neg h]
    go_enter Try.func38, Try.ntmps38
    go_wp2
    go_ret
    exact ⟨ret_int hm.out.symm, rfl⟩
set_option maxHeartbeats 1600000 in
theorem toPointS_own (L : List RPoint) (A : Option Addr) (c B : Nat) (w : World) (hs : Sl w B A (flat RPoint.cells L)) (hB : B ≤ w.heap.size) (hl : L.length ≤ 1048576) : Calls Try.prog 40 #[.slice A L.length c] w fun e w' => e = .returned (.slice (some ⟨w.heap.size, 0, none⟩) L.length L.length) ∧ Below w.heap.size w w' ∧ Own w' w.heap.size 25 (L.length * 2) (flat RPoint.cells L) := by
  have hmk : ∀ w : World, (Instr.makeSlice 65 (.int .i64 L.length) (.int .i64 L.length)).run Try.prog w = .ok (.slice (some ⟨w.heap.size, 0, none⟩) L.length L.length) (w.alloc (.cells (madeCells #[.int .i64 0, .int .i64 0] (L.length * 2)) 25)) := fun w => made_row (by_ := 16) w Try.underlying65 (by kernel_rfl) (by kernel_rfl) L.length (by omega) (by omega)
  have hs' := Lib.hid hs
  clear hs
  go_enter Try.func40, Try.ntmps40
  go_wp2
  have hO : Own (w.alloc (.cells (madeCells #[.int .i64 0, .int .i64 0] (L.length * 2)) 25)) w.heap.size 25 (L.length * 2) (flat RPoint.cells (L.take 0)) := own_made w _ _ _ _
  have hB0 : Below w.heap.size w (w.alloc (.cells (madeCells #[.int .i64 0, .int .i64 0] (L.length * 2)) 25)) := by go_grown
  clear hmk
  go_loopw [4] (fun i wr => ∃ k : Nat, i = .int .i64 k ∧ k ≤ L.length ∧ Below w.heap.size w wr ∧ Own wr w.heap.size 25 (L.length * 2) (flat RPoint.cells (L.take k))) (fun i _ => L.length - (intOf i).toNat)
  case atStart => exact ⟨0, rfl, Nat.zero_le _, hB0, hO⟩
  case round =>
    clear hB0 hO
    obtain ⟨k, rfl, hk, hB1, hO⟩ := hrel
    by_cases hlt : k < L.length
    · obtain ⟨b, o, rfl, hb, he⟩ := Sl.elem RPoint.len (by decide) (hs'.out.below (hB1.mono hB)) hlt
      have d0 : wr.cell? ⟨b, o + k * 2, none⟩ = some (.int .i64 L[k].f0) := by have := he 0 _ rfl; simpa [Nat.add_assoc] using this
      have d1 : wr.cell? ⟨b, o + k * 2 + 1, none⟩ = some (.int .i64 L[k].f1) := by have := he 1 _ rfl; simpa [Nat.add_assoc] using this
      have hkn : k * 2 + 2 ≤ L.length * 2 := by have := Nat.mul_le_mul_right 2 (show k + 1 ≤ L.length by omega); omega
      have hlen : (flat RPoint.cells (L.take k)).length = k * 2 := by rw [flat_len RPoint.len, List.length_take, Nat.min_eq_left hk]
      have hstep : flat RPoint.cells (L.take (k + 1)) = flat RPoint.cells (L.take k) ++ [.int .i64 L[k].f0] ++ [.int .i64 L[k].f1] := by rw [List.take_succ_eq_append_getElem hlt, flat_snoc]; simp [RPoint.cells]
      have hstep := Lib.hid hstep
      clear he
      go_wp2_with (go_at_call 44; refine (toPoint_any _ _ _).mono ?_; rintro e w1 ⟨rfl, hb1⟩; (have hO1 := hO.on hb1); obtain ⟨y0, x0⟩ := hO1.cell (i := k * 2) (by omega); have v0 := hO1.frozen (k * 2); obtain ⟨y1, x1⟩ := hO1.cell (i := k * 2 + 1) (by omega); have v1 := hO1.frozen (k * 2 + 1))
      go_roundw
      case rel => exact ⟨k + 1, by go_num, by omega, by have := bnext hB1 hb1; go_grown, by rw [hstep.out]; exact (Own.set (Own.set hO1 (by simp [hlen]) (by omega) _) (by simp [hlen]) (by omega) _)⟩
      case measure => simp [intOf]; omega
    · obtain rfl : k = L.length := by omega
      have hO2 : Own wr w.heap.size 25 (L.length * 2) (flat RPoint.cells L) := by rw [List.take_length] at hO; exact hO
      go_wp2
      go_ret
      exact ⟨rfl, hB1, hO2⟩
def ssPoint (j : Nat) : Bool := decide (j < 0)
set_option maxHeartbeats 1600000 in
theorem markPointS_any (B e : Nat) (v : Value) (n : Nat) (xs : List Value) (k0 : Nat) (w : World) (h : Rs w B e 2 v n xs) (hn : n ≤ 1048576) (h0 : 1 ≤ k0) (h1 : k0 ≤ 100000000) : Calls Try.prog 51 #[v, .int .i64 k0] w fun e' w' => e' = .returned (.int .i64 ((k0 : Int) + (n : Int) * 2)) ∧ w.grownBy w' v.ownBlock ∧ Rs w' B e 2 v n (marks ssPoint k0 (n * 2)) := by
  obtain ⟨hl, ⟨rfl, rfl⟩ | ⟨g, c, N, rfl, hB, hO⟩⟩ := h
  · go_enter Try.func51, Try.ntmps51
    go_wp2
    go_loopw [1, 5] (fun s i wr => s = .int .i64 k0 ∧ i = .int .i64 0 ∧ w = wr) (fun _ _ _ => 0)
    case atStart => exact ⟨rfl, rfl, rfl⟩
    case round =>
      obtain ⟨rfl, rfl, rfl⟩ := hrel
      go_wp2
      go_ret
      exact ⟨by simp, World.grownBy.refl _ _, by simpa [marks] using Rs.nil _ _ _ _⟩
  · have hN : n * 2 ≤ N := by obtain ⟨_, _, _, hxN, _⟩ := id hO; omega
    have hM0 : Own w g e N (marks ssPoint k0 (0 * 2)) := by simpa [marks] using hO.start
    clear hO
    go_enter Try.func51, Try.ntmps51
    go_wp2
    go_loopw [1, 5] (fun s i wr => ∃ k : Nat, s = .int .i64 ((k0 : Int) + (k : Int) * 2) ∧ i = .int .i64 k ∧ k ≤ n ∧ w.grownBy wr (some g) ∧ Own wr g e N (marks ssPoint k0 (k * 2))) (fun _ i _ => n - (intOf i).toNat)
    case atStart => exact ⟨0, by simp, rfl, Nat.zero_le _, World.grownBy.refl _ _, by simpa using hM0⟩
    case round =>
      clear hM0
      obtain ⟨k, rfl, rfl, hk, hg0, hM⟩ := hrel
      by_cases hlt : k < n
      · have hkN : k * 2 + 2 ≤ N := by omega
        obtain ⟨u0, x0⟩ := hM.cell (i := k * 2) (by omega)
        have y0 := hM.frozen (k * 2)
        replace hM := Own.mark hM (by omega) (i := k * 2) rfl (u := .int .i64 ((k0 : Int) + (k : Int) * 2)) (mv_int (by unfold ssPoint; exact decide_eq_false (by omega)) (by omega))
        obtain ⟨u1, x1⟩ := hM.cell (i := k * 2 + 1) (by omega)
        have y1 := hM.frozen (k * 2 + 1)
        replace hM := Own.mark hM (by omega) (i := k * 2 + 1) rfl (u := .int .i64 ((k0 : Int) + (k : Int) * 2 + 1)) (mv_int (by unfold ssPoint; exact decide_eq_false (by omega)) (by omega))
        have hM2 := Lib.hid hM
        clear hM
        go_wp2
        go_roundw
        case rel => exact ⟨k + 1, congrArg (Value.int .i64) (by omega), by go_num, by omega, (Go.Lib.grownBy_setB (Go.Lib.grownBy_setB hg0 _ _) _ _), by rw [show (k + 1) * 2 = k * 2 + 1 + 1 by omega]; exact hM2.out⟩
        case measure => simp [intOf]; omega
      · obtain rfl : k = n := by omega
        go_wp2
        go_ret
        exact ⟨rfl, hg0, by rw [marks_len], .inr ⟨g, c, N, rfl, hB, hM⟩⟩
set_option maxHeartbeats 1600000 in
theorem eqPointS_same (L : List RPoint) (A A2 : Option Addr) (c c2 B : Nat) (w : World) (hs : Sl w B A (flat RPoint.cells L)) (hs2 : Sl w B A2 (flat RPoint.cells L)) (hB : B ≤ w.heap.size) (hl : L.length ≤ 1048576) : Calls Try.prog 42 #[.slice A L.length c, .slice A2 L.length c2] w fun e w' => e = .returned (.bool true) ∧ Below w.heap.size w w' := by
  have hs' := Lib.hid hs
  have hs2' := Lib.hid hs2
  clear hs hs2
  go_enter Try.func42, Try.ntmps42
  go_wp2
  go_loopw [5] (fun i wr => ∃ k : Nat, i = .int .i64 k ∧ k ≤ L.length ∧ Below w.heap.size w wr) (fun i _ => L.length - (intOf i).toNat)
  case atStart => exact ⟨0, rfl, Nat.zero_le _, Below.refl _ _⟩
  case round =>
    obtain ⟨k, rfl, hk, hB1⟩ := hrel
    have hS1 := hB1.size
    by_cases hlt : k < L.length
    · obtain ⟨bp, op, rfl, hbp, hep⟩ := Sl.elem RPoint.len (by decide) (hs'.out.below (hB1.mono hB)) hlt
      have dp0 : wr.cell? ⟨bp, op + k * 2, none⟩ = some (.int .i64 L[k].f0) := by have := hep 0 _ rfl; simpa [Nat.add_assoc] using this
      have dp1 : wr.cell? ⟨bp, op + k * 2 + 1, none⟩ = some (.int .i64 L[k].f1) := by have := hep 1 _ rfl; simpa [Nat.add_assoc] using this
      have hwp : bp < wr.heap.size := by omega
      obtain ⟨bq, oq, rfl, hbq, heq⟩ := Sl.elem RPoint.len (by decide) (hs2'.out.below (hB1.mono hB)) hlt
      have dq0 : wr.cell? ⟨bq, oq + k * 2, none⟩ = some (.int .i64 L[k].f0) := by have := heq 0 _ rfl; simpa [Nat.add_assoc] using this
      have dq1 : wr.cell? ⟨bq, oq + k * 2 + 1, none⟩ = some (.int .i64 L[k].f1) := by have := heq 1 _ rfl; simpa [Nat.add_assoc] using this
      have hwq : bq < wr.heap.size := by omega
      clear hep heq
      go_wp2_with fail
      refine wp_region_grew (by kernel_rfl) (by kernel_rfl) ?_
      repeat (first | (go_big_quiet_step ((go_at_call 106; exact grew_of (eqPoint_same _ _ _)))) | (quiet_step ((go_at_call 106; exact grew_of (eqPoint_same _ _ _)))))
      refine wpQuiet_nil ?_
      rintro _ ⟨⟨w9, hb9⟩, rfl⟩
      try dsimp only
      go_wp2
      go_roundw
      case rel => exact ⟨k + 1, by go_num, by omega, bnext hB1 hb9⟩
      case measure => simp [intOf]; omega
    · obtain rfl : k = L.length := by omega
      go_wp2
      go_ret
      exact ⟨rfl, hB1⟩
theorem flat_pt (L : List RPoint) : flat RPoint.cells L = pcells (L.map fun a => (a.f0, a.f1)) := by
  induction L with
  | nil => rfl
  | cons a L ih => rw [flat_cons, ih]; rfl
namespace fnExactDangersOn
open Go.ChangeShapes Go.WideShapes Go.ChangeAt Go.RowKit
set_option linter.unusedVariables false
set_option maxHeartbeats 3200000 in
theorem walk (W : World) (A0 : Option Addr) (c0 : Nat) (L0 : List RDanger) (s0 : Sl W W.heap.size A0 (flat RDanger.cells L0)) (b0 : ∀ z ∈ L0, z.ok) (m0 : L0.length ≤ maxLen) (A1 : Option Addr) (c1 : Nat) (L1 : List RPoint) (s1 : Sl W W.heap.size A1 (flat RPoint.cells L1)) (b1 : ∀ z ∈ L1, z.ok) (m1 : L1.length ≤ maxLen) (a2 : Int) (wa2 : IntKind.i64.has a2) :
    Calls Try.prog 8 #[.slice A0 L0.length c0, .slice A1 L1.length c1, .int .i64 a2] W fun e w' => e = .returned (.bool true) ∧ Below W.heap.size W w' := by
  have s0' := Lib.hid s0
  have o0 := Lib.hid b0
  have s1' := Lib.hid s1
  clear s0 b0 s1 b1
  have hB00 : Below W.heap.size W W := Below.refl _ _
  obtain ⟨l1, e1⟩ : ∃ l, szS RDanger.szN 1048576 L0 = l := ⟨_, rfl⟩
  go_enter Try.func8, Try.ntmps8
  go_wp2_with fail
  refine (szDangerS_rec L0 _ _ W.heap.size 1048576 _ (s0'.out.below hB00) hB00.size o0.out m0 (by omega) (by omega)).mono ?_
  rintro e wa ⟨rfl, hba⟩
  have hBc := bnext hB00 hba
  clear hB00 hba
  rw [e1]
  by_cases h1 : l1 < 0
  · clear e1
    go_wp2_with fail
    go_ret
    exact ⟨rfl, hBc⟩
  obtain ⟨g1, g2⟩ := szS_ge (by rw [e1]; exact h1)
  rw [e1] at g2
  have n0 : L0.length ≤ 1048576 := by omega
  clear e1 g1
  go_wp2_with fail
  refine (szPointS_any L1.length _ _ l1 (by omega) (by omega) m1 _).mono ?_
  rintro e w' ⟨rfl, rfl⟩
  obtain ⟨l2, e2⟩ : ∃ l, szN l1 L1.length = l := ⟨_, rfl⟩
  rw [e2]
  by_cases h2 : l2 < 0
  · clear e2
    go_wp2_with fail
    go_ret
    exact ⟨rfl, hBc⟩
  have n1 : L1.length ≤ 1048576 := by
    rcases Nat.lt_or_ge 1048576 L1.length with h | h
    · exfalso; apply h2; rw [← e2]; unfold szN; rw [if_pos (by omega)]; omega
    · exact h
  clear e2 g2
  go_wp2_with fail
  clear h1 h2
  have hsp : ∀ (A A2 : Option Addr) (c c2 B : Nat) (w : World), Sl w B A (flat RDanger.cells L0) → Sl w B A2 (flat RPoint.cells L1) → B ≤ w.heap.size → Calls Try.prog 49 #[.slice A L0.length c, .slice A2 L1.length c2, .int .i64 a2] w fun e w' => ∃ v, e = .returned (.tuple #[v, .int .i64 (onC L0 (L1.map fun a => (a.f0, a.f1)) a2)]) ∧ Below w.heap.size w w' ∧ Rs w' w.heap.size 9 1 v (onN L0 (L1.map fun a => (a.f0, a.f1)) a2).length ((onN L0 (L1.map fun a => (a.f0, a.f1)) a2).map Value.string) := fun A A2 c c2 B w h h2 hB => by
    have h3 := spec_DOn L0 A c B (L1.map fun a => (a.f0, a.f1)) A2 c2 a2 w h (by rw [← flat_pt]; exact h2) hB o0.out n0 (by rw [List.length_map]; exact n1)
    rw [List.length_map] at h3
    exact h3
  have him : ∀ (A A2 : Option Addr) (c c2 B : Nat) (w : World), Sl w B A (flat RDanger.cells L0) → Sl w B A2 (flat RPoint.cells L1) → B ≤ w.heap.size → Calls Try.prog 50 #[.slice A L0.length c, .slice A2 L1.length c2, .int .i64 a2] w fun e w' => ∃ v, e = .returned (.tuple #[v, .int .i64 (onC L0 (L1.map fun a => (a.f0, a.f1)) a2)]) ∧ Below w.heap.size w w' ∧ Rs w' w.heap.size 9 1 v (onN L0 (L1.map fun a => (a.f0, a.f1)) a2).length ((onN L0 (L1.map fun a => (a.f0, a.f1)) a2).map Value.string) := fun A A2 c c2 B w h h2 hB => by
    have h3 := impl_DOn L0 A c B (L1.map fun a => (a.f0, a.f1)) A2 c2 a2 w h (by rw [← flat_pt]; exact h2) hB o0.out n0 (by rw [List.length_map]; exact n1)
    rw [List.length_map] at h3
    exact h3
  have hnl : (onN L0 (L1.map fun a => (a.f0, a.f1)) a2).length ≤ 1048576 := Nat.le_trans (onN_le _ _ _) n0
  generalize onN L0 (L1.map fun a => (a.f0, a.f1)) a2 = NM at hsp him hnl
  generalize onC L0 (L1.map fun a => (a.f0, a.f1)) a2 = C at hsp him
  refine (toDangerS_own L0 _ _ W.heap.size _ (s0'.out.below hBc) hBc.size n0).mono ?_
  rintro e w1 ⟨rfl, hb1, r1⟩
  have hs1 := hb1.size
  have hl1 := r1.lt
  have hz1 := hBc.size
  replace hBc := bnext hBc hb1
  have r1 := Lib.hid r1
  go_wp2_with fail
  refine (toPointS_own L1 _ _ W.heap.size _ (s1'.out.below hBc) hBc.size n1).mono ?_
  rintro e w2 ⟨rfl, hb2, r2⟩
  have hs2 := hb2.size
  have hl2 := r2.lt
  have hz2 := hBc.size
  replace hBc := bnext hBc hb2
  have r2 := Lib.hid r2
  go_wp2_with fail
  have r1 := Lib.hid (r1.out.on hb2)
  refine (hsp _ _ _ _ w2.heap.size _ r1.out.sl' r2.out.sl' (Nat.le_refl _)).mono ?_
  rintro e w3 ⟨vS, rfl, hb3, hS⟩
  have hs3 := hb3.size
  replace hBc := bnext hBc hb3
  have hbS := hS.block
  go_wp2_with fail
  refine (toDangerS_own L0 _ _ W.heap.size _ (s0'.out.below hBc) hBc.size n0).mono ?_
  rintro e w4 ⟨rfl, hb4, r4⟩
  have hs4 := hb4.size
  have hl4 := r4.lt
  have hz4 := hBc.size
  replace hBc := bnext hBc hb4
  have r4 := Lib.hid r4
  go_wp2_with fail
  replace hS := hS.on hb4
  refine (toPointS_own L1 _ _ W.heap.size _ (s1'.out.below hBc) hBc.size n1).mono ?_
  rintro e w5 ⟨rfl, hb5, r5⟩
  have hs5 := hb5.size
  have hl5 := r5.lt
  have hz5 := hBc.size
  replace hBc := bnext hBc hb5
  have r5 := Lib.hid r5
  go_wp2_with fail
  replace hS := hS.on hb5
  have r4 := Lib.hid (r4.out.on hb5)
  refine (him _ _ _ _ w5.heap.size _ r4.out.sl' r5.out.sl' (Nat.le_refl _)).mono ?_
  rintro e w6 ⟨vG, rfl, hb6, hG⟩
  have hs6 := hb6.size
  replace hBc := bnext hBc hb6
  have hbG := hG.block
  replace hS := hS.on hb6
  have r4 := Lib.hid (r4.out.on hb6)
  have r5 := Lib.hid (r5.out.on hb6)
  go_wp2_with fail
  refine (eqStringS_rs NM _ _ _ _ _ _ _ hG hS hnl).mono ?_
  rintro e w7 ⟨rfl, hb7⟩
  have hs7 := hb7.size
  replace hBc := bnext hBc hb7
  go_wp2_with fail
  replace hS := hS.on hb7
  replace hG := hG.on hb7
  have r4 := Lib.hid (r4.out.on hb7)
  have r5 := Lib.hid (r5.out.on hb7)
  refine (toDangerS_own L0 _ _ W.heap.size _ (s0'.out.below hBc) hBc.size n0).mono ?_
  rintro e w8 ⟨rfl, hb8, r8⟩
  have hs8 := hb8.size
  have hl8 := r8.lt
  have hz8 := hBc.size
  replace hBc := bnext hBc hb8
  have r8 := Lib.hid r8
  go_wp2_with fail
  replace hS := hS.on hb8
  replace hG := hG.on hb8
  have r4 := Lib.hid (r4.out.on hb8)
  have r5 := Lib.hid (r5.out.on hb8)
  refine (eqDangerS_same L0 _ _ _ _ w8.heap.size _ r4.out.sl' r8.out.sl' (Nat.le_refl _) n0).mono ?_
  rintro e w9 ⟨rfl, hb9⟩
  have hs9 := hb9.size
  replace hBc := bnext hBc hb9
  go_wp2_with fail
  replace hS := hS.on hb9
  replace hG := hG.on hb9
  have r4 := Lib.hid (r4.out.on hb9)
  have r5 := Lib.hid (r5.out.on hb9)
  refine (toPointS_own L1 _ _ W.heap.size _ (s1'.out.below hBc) hBc.size n1).mono ?_
  rintro e w10 ⟨rfl, hb10, r10⟩
  have hs10 := hb10.size
  have hl10 := r10.lt
  have hz10 := hBc.size
  replace hBc := bnext hBc hb10
  have r10 := Lib.hid r10
  go_wp2_with fail
  replace hS := hS.on hb10
  replace hG := hG.on hb10
  have r4 := Lib.hid (r4.out.on hb10)
  have r5 := Lib.hid (r5.out.on hb10)
  refine (eqPointS_same L1 _ _ _ _ w10.heap.size _ r5.out.sl' r10.out.sl' (Nat.le_refl _) n1).mono ?_
  rintro e w11 ⟨rfl, hb11⟩
  have hs11 := hb11.size
  replace hBc := bnext hBc hb11
  go_wp2_with fail
  replace hS := hS.on hb11
  replace hG := hG.on hb11
  have r4 := Lib.hid (r4.out.on hb11)
  have r5 := Lib.hid (r5.out.on hb11)
  refine (markDangerS_any W.heap.size 48 _ L0.length (flat RDanger.cells L0) 1 _ ⟨by rw [flat_len RDanger.len], .inr ⟨_, _, _, rfl, by omega, r4.out⟩⟩ n0 (by omega) (by omega)).mono ?_
  rintro e w12 ⟨rfl, hg12, hR12⟩
  have hs12 := hg12.size
  replace hBc := hBc.grown hg12 hBc.size (fun k e => by have e' : w3.heap.size = k := Option.some.inj e; omega)
  replace hS := hS.far hg12 (fun k e q => by have e' : w3.heap.size = k := Option.some.inj e; have := (hbS _ q).2; omega)
  replace hG := hG.far hg12 (fun k e q => by have e' : w3.heap.size = k := Option.some.inj e; have := (hbG _ q).1; omega)
  have r5 := Lib.hid (r5.out.far (k := w3.heap.size) hg12 (by omega))
  clear hR12 r4
  obtain ⟨kk, hkk⟩ : ∃ kk : Nat, (((1 : Nat) : Int) + (L0.length : Int) * 4) = kk := ⟨1 + L0.length * 4, by omega⟩
  rw [hkk]
  have hkb : 1 ≤ kk ∧ kk ≤ 5000000 := by omega
  clear hkk
  go_wp2_with fail
  refine (markPointS_any W.heap.size 25 _ L1.length (flat RPoint.cells L1) kk _ ⟨by rw [flat_len RPoint.len], .inr ⟨_, _, _, rfl, by omega, r5.out⟩⟩ n1 (by omega) (by omega)).mono ?_
  rintro e w13 ⟨rfl, hg13, hR13⟩
  have hs13 := hg13.size
  replace hBc := hBc.grown hg13 hBc.size (fun k e => by have e' : w4.heap.size = k := Option.some.inj e; omega)
  replace hS := hS.far hg13 (fun k e q => by have e' : w4.heap.size = k := Option.some.inj e; have := (hbS _ q).2; omega)
  replace hG := hG.far hg13 (fun k e q => by have e' : w4.heap.size = k := Option.some.inj e; have := (hbG _ q).1; omega)
  clear hR13 r5
  go_wp2_with fail
  refine (eqStringS_rs NM _ _ _ _ _ _ _ hG hS hnl).mono ?_
  rintro e w14 ⟨rfl, hb14⟩
  have hs14 := hb14.size
  replace hBc := bnext hBc hb14
  go_wp2_with fail
  replace hS := hS.on hb14
  replace hG := hG.on hb14
  refine (markStringS_any _ _ _ _ _ 1 _ hG hnl (by omega) (by omega)).mono ?_
  rintro e w15 ⟨rfl, hg15, hR⟩
  have hs15 := hg15.size
  replace hBc := hBc.grown hg15 hBc.size (fun k e => by have := (hbG _ e).1; omega)
  replace hS := hS.far hg15 (fun k e q => by have := (hbG _ e).1; have := (hbS _ q).2; omega)
  clear hG
  go_wp2_with fail
  refine (heldStringS_any _ _ _ _ 1 _ hR hnl (by omega) (by omega)).mono ?_
  rintro e w16 ⟨rfl, hb16⟩
  have hs16 := hb16.size
  replace hBc := bnext hBc hb16
  go_wp2_with fail
  replace hS := hS.on hb16
  replace hR := hR.on hb16
  refine (toDangerS_own L0 _ _ W.heap.size _ (s0'.out.below hBc) hBc.size n0).mono ?_
  rintro e w17 ⟨rfl, hb17, r17⟩
  have hs17 := hb17.size
  have hl17 := r17.lt
  have hz17 := hBc.size
  replace hBc := bnext hBc hb17
  have r17 := Lib.hid r17
  go_wp2_with fail
  replace hS := hS.on hb17
  replace hR := hR.on hb17
  refine (toPointS_own L1 _ _ W.heap.size _ (s1'.out.below hBc) hBc.size n1).mono ?_
  rintro e w18 ⟨rfl, hb18, r18⟩
  have hs18 := hb18.size
  have hl18 := r18.lt
  have hz18 := hBc.size
  replace hBc := bnext hBc hb18
  have r18 := Lib.hid r18
  go_wp2_with fail
  replace hS := hS.on hb18
  replace hR := hR.on hb18
  have r17 := Lib.hid (r17.out.on hb18)
  refine (him _ _ _ _ w18.heap.size _ r17.out.sl' r18.out.sl' (Nat.le_refl _)).mono ?_
  rintro e w19 ⟨vH, rfl, hb19, hH⟩
  replace hBc := bnext hBc hb19
  replace hS := hS.on hb19
  replace hR := hR.on hb19
  go_wp2_with fail
  refine (eqStringS_rs NM _ _ _ _ _ _ _ hH hS hnl).mono ?_
  rintro e w20 ⟨rfl, hb20⟩
  have hs20 := hb20.size
  replace hBc := bnext hBc hb20
  go_wp2_with fail
  refine (heldStringS_any _ _ _ _ 1 _ (hR.on hb20) hnl (by omega) (by omega)).mono ?_
  rintro e w21 ⟨rfl, hb21⟩
  have hs21 := hb21.size
  replace hBc := bnext hBc hb21
  go_wp2_with fail
  go_ret
  exact ⟨rfl, hBc⟩

theorem lifted (os : Os) (started : os.Started) (H : Type) (enc : TypeId × Value → H) :
    ReturnsInHanded {} Try.checked os 8 .any (Rows.fnExactDangersOnSpec.pre6 enc Try.prog Try.f8 Rows.fnExactDangersOnRow.domain false) (Rows.fnExactDangersOnSpec.post enc Try.prog Try.f8 false true false false) := by
  refine returnsInHanded_of_change (C := Try.checked) own started (by kernel_rfl) Try.func8
    (ChangeSpec.witness6 (enc := enc) (C := Try.checked) false ⟨#[], #[.slice none 0 0, .slice none 0 0, .int .i64 0], []⟩ 8 (by kernel_rfl) (by kernel_rfl) (by kernel_rfl) (by kernel_rfl)) ?_
  intro W base args ds gs before hval0 hW hcnd _
  have hval : ∀ (j : Nat) t v, Try.f8.params[j]? = some t → args[j]? = some v → Value.okWide Try.prog W .any base t v := hval0
  have hW' := hW
  obtain ⟨p, q, hA0, hV, rfl, hfz, hnd⟩ := hW
  have hA : DataW.TrodAll enc Try.prog W 0 (fun _ => true) true Try.f8.params.toList args.toList ds p := hA0
  rw [Try.params8] at hA hval
  obtain ⟨v0, vs0, d0, ds0, p0, q0, hargs, rfl, rfl, h0, r0⟩ := trodAll_cons hA
  obtain ⟨v1, vs1, d1, ds1, p1, q1, rfl, rfl, rfl, h1, r1⟩ := trodAll_cons r0
  obtain ⟨v2, vs2, d2, ds2, p2, q2, rfl, rfl, rfl, h2, r2⟩ := trodAll_cons r1
  obtain ⟨rfl, rfl, rfl⟩ := trodAll_nil r2
  obtain rfl : args = #[v0, v1, v2] := by cases args; simp_all
  have g0 := h0
  have g1 := h1
  have g2 := h2
  obtain ⟨rfl, rfl⟩ := trodVars_none hV
  clear hA0 hval0
  simp only [List.append_nil] at hW'
  have hlt : ∀ x ∈ p0 ++ (p1 ++ (p2)), x.block < W.heap.size := fun x hx => by simpa using hW'.lt x (by simpa using hx)
  obtain ⟨fu0, hf0⟩ := h0
  obtain ⟨A0, c0, L0, hv0, s0, b0, m0⟩ := open_flat RDanger.cells RDanger.ok RDanger.len (by decide) Try.underlying37 (by kernel_rfl) (fun _ _ _ h => trod_Danger h) hf0
  obtain ⟨va0, vl0, vc0, rfl⟩ := Go.WideShapes.okWide_slice Try.underlying37 (hval 0 37 _ rfl rfl)
  obtain ⟨rfl, rfl, rfl⟩ : A0 = va0 ∧ L0.length = vl0 ∧ c0 = vc0 := by have := hv0; simp [Value.cells] at this; exact ⟨this.1.symm, this.2.1.symm, this.2.2.symm⟩
  obtain ⟨fu1, hf1⟩ := h1
  obtain ⟨A1, c1, L1, hv1, s1, b1, m1⟩ := open_flat RPoint.cells RPoint.ok RPoint.len (by decide) Try.underlying62 (by kernel_rfl) (fun _ _ _ h => trod_Point h) hf1
  obtain ⟨va1, vl1, vc1, rfl⟩ := Go.WideShapes.okWide_slice Try.underlying62 (hval 1 62 _ rfl rfl)
  obtain ⟨rfl, rfl, rfl⟩ : A1 = va1 ∧ L1.length = vl1 ∧ c1 = vc1 := by have := hv1; simp [Value.cells] at this; exact ⟨this.1.symm, this.2.1.symm, this.2.2.symm⟩
  obtain ⟨a2, rfl, wa2⟩ := value_int Try.underlying2 (hval 2 2 _ rfl rfl)
  refine (walk W A0 c0 L0 s0 b0 m0 A1 c1 L1 s1 b1 m1 a2 wa2).mono fun e W' ⟨he, hg⟩ => ?_
  subst he
  exact ⟨_, rfl, post_below (pa := _) hW' (trodAll_cons_mk (shut_bool Try.underlying4 _) trodAll_mk0) (trodAll_cons_mk (Below.trod laidOut (by kernel_rfl) (of_decide_eq_true (by kernel_rfl)) g0 hg (fun x hx => hlt x (by simp [hx]))) (trodAll_cons_mk (Below.trod laidOut (by kernel_rfl) (of_decide_eq_true (by kernel_rfl)) g1 hg (fun x hx => hlt x (by simp [hx]))) (trodAll_cons_mk (Below.trod laidOut (by kernel_rfl) (of_decide_eq_true (by kernel_rfl)) g2 hg (fun x hx => hlt x (by simp [hx]))) trodAll_mk0))) rfl (by simp) hg⟩

theorem over : Rows.fnExactDangersOnRow.holds Try.pinned (OpenSpec.ofChange Rows.fnExactDangersOnSpec) :=
  OpenClaim.holds_of_wide 8 Try.f8 rfl rfl rfl rfl rfl rfl rfl ⟨rfl, rfl, rfl, rfl, rfl⟩ rfl rfl rfl rfl rfl (by kernel_rfl) Try.func8 (by kernel_rfl)
    (of_decide_eq_true (by kernel_rfl)) (by unfold Func.isWrapper; first | (rw [if_pos (by decide +kernel)]; kernel_rfl) | (rw [if_neg (by decide +kernel)]; exact ⟨rfl, rfl⟩))
    (fun os started H enc _ => lifted os started H enc)

theorem proved : Rows.FnExactDangersOnSaid := over
#print axioms proved
end fnExactDangersOn

end Go.Proofs.Ytnikdafbnkedkaa
