/-
  ClearanceOf: the program's function returns what the reference's returns, for all arguments. Under no condition.
-/
import Derived.Test.YtnikdafbnkedkaaClear
set_option linter.unusedVariables false
set_option linter.unnecessarySimpa false
set_option maxRecDepth 100000
set_option linter.unusedSimpArgs false
namespace Go.Proofs.Ytnikdafbnkedkaa
open Go.RowKit BigFrame
theorem own : ownKnob Try.prog.godebug = none := by kernel_rfl
theorem laidOut : laidOutB Try.prog = true := by kernel_rfl

def szN (left : Int) (n : Nat) : Int := if left - n < 0 then -1 else left - n
structure RPoint where
  f0 : Int
  f1 : Int
instance : Inhabited RPoint := ⟨⟨0, 0⟩⟩
def RPoint.cells (a : RPoint) : List Value := [.int .i64 a.f0, .int .i64 a.f1]
theorem RPoint.len (a : RPoint) : a.cells.length = 2 := rfl
def RPoint.ok (a : RPoint) : Prop := IntKind.i64.has a.f0 ∧ IntKind.i64.has a.f1
def RPoint.same (a b : RPoint) : Bool := decide (a.f0 = b.f0) && (decide (a.f1 = b.f1))
section
open Go.ChangeShapes Go.WideShapes Go.ChangeAt Go.Deep
theorem trod_Point {H : Type} {enc : TypeId × Value → H} {w : World} {b : Nat} {spare : Nat → Bool} {held : Bool} {m : Nat} {c : List Value} {y : DataW H × List MemPlace} (h : DataW.trod enc Try.prog w b spare held m 38 c = some y) : ∃ a : RPoint, c = a.cells ∧ a.ok := by
  have hc : c.length = 2 := by
    obtain ⟨_, _, _, _, hl, _⟩ := DataW.trod_struct Try.underlying38 h
    exact hl.trans (by kernel_rfl)
  obtain ⟨c0, c1, rfl⟩ : ∃ c0 c1, c = [c0, c1] := by
    match c, hc with
    | [c0, c1], _ => exact ⟨c0, c1, rfl⟩
  obtain ⟨xsc0_c1, nc0_c1, _, _, _, hlc0_c1, hfc0_c1⟩ := DataW.trod_struct Try.underlying38 h
  have gc0_c1_0 := (hfc0_c1 0 _ rfl).trans (List.getElem?_eq_getElem (by rw [hlc0_c1]; decide))
  obtain ⟨zc0, ec0, _, qc0⟩ := DataW.trod_int Try.underlying2 (show DataW.trod enc Try.prog w b spare held nc0_c1 2 [c0] = _ from gc0_c1_0)
  have gc0_c1_1 := (hfc0_c1 1 _ rfl).trans (List.getElem?_eq_getElem (by rw [hlc0_c1]; decide))
  obtain ⟨zc1, ec1, _, qc1⟩ := DataW.trod_int Try.underlying2 (show DataW.trod enc Try.prog w b spare held nc0_c1 2 [c1] = _ from gc0_c1_1)
  obtain rfl : c0 = _ := by simpa using ec0
  obtain rfl : c1 = _ := by simpa using ec1
  exact ⟨⟨zc0, zc1⟩, rfl, (by simpa [Lit.wf, IntKind.has] using qc0), (by simpa [Lit.wf, IntKind.has] using qc1)⟩
end
set_option maxHeartbeats 1600000 in
theorem eqPoint_same (f0 : Int) (f1 : Int) (w : World) : Calls Try.prog 106 #[.agg #[.int .i64 f0, .int .i64 f1], .agg #[.int .i64 f0, .int .i64 f1]] w fun e w' => e = .returned (.bool true) ∧ Below w.heap.size w w' := by
  go_enter Try.func106, Try.ntmps106
  go_wp2
  all_goals (go_ret; exact ⟨rfl, by go_grown⟩)
theorem szPointS_any (n : Nat) (A : Option Addr) (c : Nat) (l : Int) (h1 : -1 ≤ l) (h2 : l ≤ 1048576) (hn : n ≤ maxLen) (w : World) : Calls Try.prog 38 #[.slice A n c, .int .i64 l] w fun e w' => e = .returned (.int .i64 (szN l n)) ∧ w = w' := by
  have hn2 : n ≤ 9223372036854775807 := by simpa [maxLen, IntKind.max, IntKind.bits, IntKind.signed] using hn
  by_cases h : l - (n : Int) < 0
  · have hm : Hid (szN l n = -1) := by apply Lib.hid; unfold szN; rw [if_pos h]
    go_enter Try.func38, Try.ntmps38
    go_wp2
    go_ret
    exact ⟨ret_int hm.out.symm, rfl⟩
  · have hm : Hid (szN l n = l - n) := by apply Lib.hid; unfold szN; rw [if_neg h]
    go_enter Try.func38, Try.ntmps38
    go_wp2
    go_ret
    exact ⟨ret_int hm.out.symm, rfl⟩
set_option maxHeartbeats 1600000 in
theorem toPointS_any (L : List RPoint) (A : Option Addr) (c B : Nat) (w : World) (hs : Sl w B A (flat RPoint.cells L)) (hB : B ≤ w.heap.size) (hl : L.length ≤ 1048576) : Calls Try.prog 40 #[.slice A L.length c] w (ToPost (flat RPoint.cells L) L.length w) := by
  have hmk : ∀ w : World, (Instr.makeSlice 65 (.int .i64 L.length) (.int .i64 L.length)).run Try.prog w = .ok (.slice (some ⟨w.heap.size, 0, none⟩) L.length L.length) (w.alloc (.cells (madeCells #[.int .i64 0, .int .i64 0] (L.length * 2)) 25)) := fun w => made_row (by_ := 16) w Try.underlying65 (by kernel_rfl) (by kernel_rfl) L.length (by omega) (by omega)
  have hs' := Lib.hid hs
  clear hs
  go_enter Try.func40, Try.ntmps40
  go_wp2
  have hO : Own (w.alloc (.cells (madeCells #[.int .i64 0, .int .i64 0] (L.length * 2)) 25)) w.heap.size 25 (L.length * 2) (flat RPoint.cells (L.take 0)) := own_made w _ _ _ _
  have hB0 : Below w.heap.size w (w.alloc (.cells (madeCells #[.int .i64 0, .int .i64 0] (L.length * 2)) 25)) := by go_grown
  clear hmk
  go_loopw [4] (fun i wr => ∃ k : Nat, i = .int .i64 k ∧ k ≤ L.length ∧ Below w.heap.size w wr ∧ Own wr w.heap.size 25 (L.length * 2) (flat RPoint.cells (L.take k))) (fun i _ => L.length - (intOf i).toNat)
  case atStart => exact ⟨0, rfl, Nat.zero_le _, hB0, hO⟩
  case round =>
    clear hB0 hO
    obtain ⟨k, rfl, hk, hB1, hO⟩ := hrel
    by_cases hlt : k < L.length
    · obtain ⟨b, o, rfl, hb, he⟩ := Sl.elem RPoint.len (by decide) (hs'.out.below (hB1.mono hB)) hlt
      have d0 : wr.cell? ⟨b, o + k * 2, none⟩ = some (.int .i64 L[k].f0) := by have := he 0 _ rfl; simpa [Nat.add_assoc] using this
      have d1 : wr.cell? ⟨b, o + k * 2 + 1, none⟩ = some (.int .i64 L[k].f1) := by have := he 1 _ rfl; simpa [Nat.add_assoc] using this
      have hkn : k * 2 + 2 ≤ L.length * 2 := by have := Nat.mul_le_mul_right 2 (show k + 1 ≤ L.length by omega); omega
      have hlen : (flat RPoint.cells (L.take k)).length = k * 2 := by rw [flat_len RPoint.len, List.length_take, Nat.min_eq_left hk]
      have hstep : flat RPoint.cells (L.take (k + 1)) = flat RPoint.cells (L.take k) ++ [.int .i64 L[k].f0] ++ [.int .i64 L[k].f1] := by rw [List.take_succ_eq_append_getElem hlt, flat_snoc]; simp [RPoint.cells]
      have hstep := Lib.hid hstep
      clear he
      go_wp2_with (go_at_call 44; refine (toPoint_any _ _ _).mono ?_; rintro e w1 ⟨rfl, hb1⟩; (have hO1 := hO.on hb1); obtain ⟨y0, x0⟩ := hO1.cell (i := k * 2) (by omega); have v0 := hO1.frozen (k * 2); obtain ⟨y1, x1⟩ := hO1.cell (i := k * 2 + 1) (by omega); have v1 := hO1.frozen (k * 2 + 1))
      go_roundw
      case rel => exact ⟨k + 1, by go_num, by omega, by have := bnext hB1 hb1; go_grown, by rw [hstep.out]; exact (Own.set (Own.set hO1 (by simp [hlen]) (by omega) _) (by simp [hlen]) (by omega) _)⟩
      case measure => simp [intOf]; omega
    · obtain rfl : k = L.length := by omega
      have hO2 : Own wr w.heap.size 25 (L.length * 2) (flat RPoint.cells L) := by rw [List.take_length] at hO; exact hO
      go_wp2
      go_ret
      exact ⟨rfl, hB1, hO2.lt, hO2.sl⟩
set_option maxHeartbeats 1600000 in
theorem eqPointS_same (L : List RPoint) (A A2 : Option Addr) (c c2 B : Nat) (w : World) (hs : Sl w B A (flat RPoint.cells L)) (hs2 : Sl w B A2 (flat RPoint.cells L)) (hB : B ≤ w.heap.size) (hl : L.length ≤ 1048576) : Calls Try.prog 42 #[.slice A L.length c, .slice A2 L.length c2] w fun e w' => e = .returned (.bool true) ∧ Below w.heap.size w w' := by
  have hs' := Lib.hid hs
  have hs2' := Lib.hid hs2
  clear hs hs2
  go_enter Try.func42, Try.ntmps42
  go_wp2
  go_loopw [5] (fun i wr => ∃ k : Nat, i = .int .i64 k ∧ k ≤ L.length ∧ Below w.heap.size w wr) (fun i _ => L.length - (intOf i).toNat)
  case atStart => exact ⟨0, rfl, Nat.zero_le _, Below.refl _ _⟩
  case round =>
    obtain ⟨k, rfl, hk, hB1⟩ := hrel
    have hS1 := hB1.size
    by_cases hlt : k < L.length
    · obtain ⟨bp, op, rfl, hbp, hep⟩ := Sl.elem RPoint.len (by decide) (hs'.out.below (hB1.mono hB)) hlt
      have dp0 : wr.cell? ⟨bp, op + k * 2, none⟩ = some (.int .i64 L[k].f0) := by have := hep 0 _ rfl; simpa [Nat.add_assoc] using this
      have dp1 : wr.cell? ⟨bp, op + k * 2 + 1, none⟩ = some (.int .i64 L[k].f1) := by have := hep 1 _ rfl; simpa [Nat.add_assoc] using this
      have hwp : bp < wr.heap.size := by omega
      obtain ⟨bq, oq, rfl, hbq, heq⟩ := Sl.elem RPoint.len (by decide) (hs2'.out.below (hB1.mono hB)) hlt
      have dq0 : wr.cell? ⟨bq, oq + k * 2, none⟩ = some (.int .i64 L[k].f0) := by have := heq 0 _ rfl; simpa [Nat.add_assoc] using this
      have dq1 : wr.cell? ⟨bq, oq + k * 2 + 1, none⟩ = some (.int .i64 L[k].f1) := by have := heq 1 _ rfl; simpa [Nat.add_assoc] using this
      have hwq : bq < wr.heap.size := by omega
      clear hep heq
      go_wp2_with fail
      refine wp_region_grew (by kernel_rfl) (by kernel_rfl) ?_
      repeat (first | (go_big_quiet_step ((go_at_call 106; exact grew_of (eqPoint_same _ _ _)))) | (quiet_step ((go_at_call 106; exact grew_of (eqPoint_same _ _ _)))))
      refine wpQuiet_nil ?_
      rintro _ ⟨⟨w9, hb9⟩, rfl⟩
      try dsimp only
      go_wp2
      go_roundw
      case rel => exact ⟨k + 1, by go_num, by omega, bnext hB1 hb9⟩
      case measure => simp [intOf]; omega
    · obtain rfl : k = L.length := by omega
      go_wp2
      go_ret
      exact ⟨rfl, hB1⟩
theorem flat_pt (L : List RPoint) : flat RPoint.cells L = pcells (L.map fun a => (a.f0, a.f1)) := by
  induction L with
  | nil => rfl
  | cons a L ih => rw [flat_cons, ih]; rfl
namespace fnExactClearanceOf
open Go.ChangeShapes Go.WideShapes Go.ChangeAt Go.RowKit
set_option linter.unusedVariables false
set_option maxHeartbeats 3200000 in
theorem walk (W : World) (a0_0 : ByteArray) (wa0_0 : a0_0.size ≤ maxLen) (a0_1 : Int) (wa0_1 : IntKind.i64.has a0_1) (a0_2 : Int) (wa0_2 : IntKind.i64.has a0_2) (a0_3 : Int) (wa0_3 : IntKind.i64.has a0_3) (A1 : Option Addr) (c1 : Nat) (L1 : List RPoint) (s1 : Sl W W.heap.size A1 (flat RPoint.cells L1)) (b1 : ∀ z ∈ L1, z.ok) (m1 : L1.length ≤ maxLen) :
    Calls Try.prog 6 #[.agg #[.string a0_0, .int .i64 a0_1, .int .i64 a0_2, .int .i64 a0_3], .slice A1 L1.length c1] W fun e w' => e = .returned (.bool true) ∧ Below W.heap.size W w' := by
  have s1' := Lib.hid s1
  clear s1 b1
  have hB00 : Below W.heap.size W (W.alloc (.cells #[.string a0_0, .int .i64 a0_1, .int .i64 a0_2, .int .i64 a0_3] 40)) := by go_grown
  have hd00 : Dn (W.alloc (.cells #[.string a0_0, .int .i64 a0_1, .int .i64 a0_2, .int .i64 a0_3] 40)) W.heap.size 0 a0_0 a0_1 a0_2 a0_3 := ⟨by simp, by simp [go_sem], by simp [go_sem], by simp [go_sem], by simp [go_sem]⟩
  go_enter Try.func6, Try.ntmps6
  go_wp2_with fail
  refine (szDanger_any a0_0 wa0_0 _ _ _ 1048576 (by omega) (by omega) _).mono ?_
  rintro e w0 ⟨rfl, hb0⟩
  have hB0 := bnext hB00 hb0
  have hd0 := hd00.on hb0
  clear hB00 hd00 hb0
  obtain ⟨l0, e0⟩ : ∃ l, szM 1048576 a0_0.size = l := ⟨_, rfl⟩
  have hl0 : -1 ≤ l0 ∧ l0 ≤ 1048576 := by rw [← e0]; unfold szM; split <;> omega
  rw [e0]
  clear e0
  by_cases h0 : l0 < 0
  · go_wp2_with fail
    go_ret
    exact ⟨rfl, hB0⟩
  go_wp2_with fail
  refine (szPointS_any L1.length _ _ l0 (by omega) (by omega) m1 _).mono ?_
  rintro e w' ⟨rfl, rfl⟩
  obtain ⟨l1, e1⟩ : ∃ l, szN l0 L1.length = l := ⟨_, rfl⟩
  rw [e1]
  by_cases h1 : l1 < 0
  · clear e1
    go_wp2_with fail
    go_ret
    exact ⟨rfl, hB0⟩
  have n1 : L1.length ≤ 1048576 := by
    rcases Nat.lt_or_ge 1048576 L1.length with h | h
    · exfalso; apply h1; rw [← e1]; unfold szN; rw [if_pos (by omega)]; omega
    · exact h
  clear e1 h0 hl0
  have hsp : ∀ (A : Option Addr) (c B : Nat) (w : World), Sl w B A (flat RPoint.cells L1) → B ≤ w.heap.size → Calls Try.prog 39 #[.agg #[.string a0_0, .int .i64 a0_1, .int .i64 a0_2, .int .i64 a0_3], .slice A L1.length c] w fun e w' => e = .returned (.tuple #[.int .i64 (coV (L1.map fun a => (a.f0, a.f1)) a0_0 a0_1 a0_2 a0_3), .int .i64 (coC (L1.map fun a => (a.f0, a.f1)) a0_0 a0_1 a0_2 a0_3)]) ∧ Below w.heap.size w w' := fun A c B w h hB => by
    have h3 := spec_CO (L1.map fun a => (a.f0, a.f1)) A c B a0_0 wa0_0 a0_1 a0_2 a0_3 w (by rw [← flat_pt]; exact h) hB (by rw [List.length_map]; exact n1)
    rw [List.length_map] at h3
    exact h3
  have him : ∀ (A : Option Addr) (c B : Nat) (w : World), Sl w B A (flat RPoint.cells L1) → B ≤ w.heap.size → Calls Try.prog 41 #[.agg #[.string a0_0, .int .i64 a0_1, .int .i64 a0_2, .int .i64 a0_3], .slice A L1.length c] w fun e w' => e = .returned (.tuple #[.int .i64 (coV (L1.map fun a => (a.f0, a.f1)) a0_0 a0_1 a0_2 a0_3), .int .i64 (coC (L1.map fun a => (a.f0, a.f1)) a0_0 a0_1 a0_2 a0_3)]) ∧ Below w.heap.size w w' := fun A c B w h hB => by
    have h3 := impl_CO (L1.map fun a => (a.f0, a.f1)) A c B a0_0 wa0_0 a0_1 a0_2 a0_3 w (by rw [← flat_pt]; exact h) hB (by rw [List.length_map]; exact n1)
    rw [List.length_map] at h3
    exact h3
  generalize coV (L1.map fun a => (a.f0, a.f1)) a0_0 a0_1 a0_2 a0_3 = V at hsp him
  generalize coC (L1.map fun a => (a.f0, a.f1)) a0_0 a0_1 a0_2 a0_3 = C at hsp him
  obtain ⟨_, c0, c1, c2, c3⟩ := id hd0
  simp only [Nat.zero_add] at c0 c1 c2 c3
  go_wp2_with fail
  clear c0 c1 c2 c3
  clear h1
  refine (toDanger_any _ _ _ _ _).mono ?_
  rintro e w1 ⟨rfl, hb1⟩
  have hB1 := bnext hB0 hb1
  have hd1 := hd0.on hb1
  go_wp2_with fail
  refine (toPointS_any L1 _ _ W.heap.size _ (s1'.out.below hB1) hB1.size n1).mono ?_
  rintro e w2 ⟨rfl, hb2, hz2, r2⟩
  have hB2 := bnext hB1 hb2
  have hd2 := hd1.on hb2
  have r2 := Lib.hid r2
  go_wp2_with fail
  refine (hsp _ _ w2.heap.size _ (r2.out.more hz2) (Nat.le_refl _)).mono ?_
  rintro e w3 ⟨rfl, hb3⟩
  have hB3 := bnext hB2 hb3
  have hd3 := hd2.on hb3
  clear r2
  go_wp2_with fail
  refine (toPointS_any L1 _ _ W.heap.size _ (s1'.out.below hB3) hB3.size n1).mono ?_
  rintro e w4 ⟨rfl, hb4, hz4, r4⟩
  have hB4 := bnext hB3 hb4
  have hd4 := hd3.on hb4
  have r4 := Lib.hid r4
  obtain ⟨_, c0, c1, c2, c3⟩ := id hd4
  simp only [Nat.zero_add] at c0 c1 c2 c3
  go_wp2_with fail
  clear c0 c1 c2 c3
  refine (toDanger_any _ _ _ _ _).mono ?_
  rintro e w5 ⟨rfl, hb5⟩
  have hB5 := bnext hB4 hb5
  have hd5 := hd4.on hb5
  have z5 := hb5.size
  have x0 := Lib.hid (((r4.out.more hz4).below hb5).more z5)
  go_wp2_with fail
  refine (him _ _ w5.heap.size _ x0.out (Nat.le_refl _)).mono ?_
  rintro e w6 ⟨rfl, hb6⟩
  have hB6 := bnext hB5 hb6
  have hd6 := hd5.on hb6
  have z6 := hb6.size
  have x0 := Lib.hid ((x0.out.below hb6).more z6)
  go_wp2_with fail
  refine (toPointS_any L1 _ _ W.heap.size _ (s1'.out.below hB6) hB6.size n1).mono ?_
  rintro e w7 ⟨rfl, hb7, hz7, r7⟩
  have hB7 := bnext hB6 hb7
  have hd7 := hd6.on hb7
  have r7 := Lib.hid r7
  have z7 := hb7.size
  have x0 := Lib.hid ((x0.out.below hb7).more z7)
  go_wp2_with fail
  refine (eqPointS_same L1 _ _ _ _ w7.heap.size _ x0.out (r7.out.more hz7) (Nat.le_refl _) n1).mono ?_
  rintro e w8 ⟨rfl, hb8⟩
  go_wp2_with fail
  go_ret
  exact ⟨rfl, bnext hB7 hb8⟩

theorem lifted (os : Os) (started : os.Started) (H : Type) (enc : TypeId × Value → H) :
    ReturnsInHanded {} Try.checked os 6 .any (Rows.fnExactClearanceOfSpec.pre6 enc Try.prog Try.f6 Rows.fnExactClearanceOfRow.domain false) (Rows.fnExactClearanceOfSpec.post enc Try.prog Try.f6 false true false false) := by
  refine returnsInHanded_of_change (C := Try.checked) own started (by kernel_rfl) Try.func6
    (ChangeSpec.witness6 (enc := enc) (C := Try.checked) false ⟨#[], #[.agg #[.string ⟨#[]⟩, .int .i64 0, .int .i64 0, .int .i64 0], .slice none 0 0], []⟩ 8 (by kernel_rfl) (by kernel_rfl) (by kernel_rfl) (by kernel_rfl)) ?_
  intro W base args ds gs before hval0 hW hcnd _
  have hval : ∀ (j : Nat) t v, Try.f6.params[j]? = some t → args[j]? = some v → Value.okWide Try.prog W .any base t v := hval0
  have hW' := hW
  obtain ⟨p, q, hA0, hV, rfl, hfz, hnd⟩ := hW
  have hA : DataW.TrodAll enc Try.prog W 0 (fun _ => true) true Try.f6.params.toList args.toList ds p := hA0
  rw [Try.params6] at hA hval
  obtain ⟨v0, vs0, d0, ds0, p0, q0, hargs, rfl, rfl, h0, r0⟩ := trodAll_cons hA
  obtain ⟨v1, vs1, d1, ds1, p1, q1, rfl, rfl, rfl, h1, r1⟩ := trodAll_cons r0
  obtain ⟨rfl, rfl, rfl⟩ := trodAll_nil r1
  obtain rfl : args = #[v0, v1] := by cases args; simp_all
  have g0 := h0
  have g1 := h1
  obtain ⟨rfl, rfl⟩ := trodVars_none hV
  clear hA0 hval0
  simp only [List.append_nil] at hW'
  have hlt : ∀ x ∈ p0 ++ (p1), x.block < W.heap.size := fun x hx => by simpa using hW'.lt x (by simpa using hx)
  obtain ⟨cs0, rfl, k0_0⟩ := open_struct Try.underlying40 (ts := [9, 2, 2, 2]) (by kernel_rfl) (hval 0 40 _ rfl rfl)
  obtain ⟨c0_0, cs0_0, rfl, q0_0, k0_1⟩ := okCells_cons k0_0
  obtain ⟨c0_1, cs0_1, rfl, q0_1, k0_2⟩ := okCells_cons k0_1
  obtain ⟨c0_2, cs0_2, rfl, q0_2, k0_3⟩ := okCells_cons k0_2
  obtain ⟨c0_3, cs0_3, rfl, q0_3, k0_4⟩ := okCells_cons k0_3
  obtain rfl := okCells_nil k0_4
  obtain ⟨a0_0, rfl, wa0_0⟩ := cell_string Try.underlying9 q0_0
  obtain ⟨a0_1, rfl, wa0_1⟩ := cell_int Try.underlying2 q0_1
  obtain ⟨a0_2, rfl, wa0_2⟩ := cell_int Try.underlying2 q0_2
  obtain ⟨a0_3, rfl, wa0_3⟩ := cell_int Try.underlying2 q0_3
  obtain ⟨fu1, hf1⟩ := h1
  obtain ⟨A1, c1, L1, hv1, s1, b1, m1⟩ := open_flat RPoint.cells RPoint.ok RPoint.len (by decide) Try.underlying62 (by kernel_rfl) (fun _ _ _ h => trod_Point h) hf1
  obtain ⟨va1, vl1, vc1, rfl⟩ := Go.WideShapes.okWide_slice Try.underlying62 (hval 1 62 _ rfl rfl)
  obtain ⟨rfl, rfl, rfl⟩ : A1 = va1 ∧ L1.length = vl1 ∧ c1 = vc1 := by have := hv1; simp [Value.cells] at this; exact ⟨this.1.symm, this.2.1.symm, this.2.2.symm⟩
  refine (walk W a0_0 wa0_0 a0_1 wa0_1 a0_2 wa0_2 a0_3 wa0_3 A1 c1 L1 s1 b1 m1).mono fun e W' ⟨he, hg⟩ => ?_
  subst he
  exact ⟨_, rfl, post_below (pa := _) hW' (trodAll_cons_mk (shut_bool Try.underlying4 _) trodAll_mk0) (trodAll_cons_mk (Below.trod laidOut (by kernel_rfl) (of_decide_eq_true (by kernel_rfl)) g0 hg (fun x hx => hlt x (by simp [hx]))) (trodAll_cons_mk (Below.trod laidOut (by kernel_rfl) (of_decide_eq_true (by kernel_rfl)) g1 hg (fun x hx => hlt x (by simp [hx]))) trodAll_mk0)) rfl (by simp) hg⟩

theorem over : Rows.fnExactClearanceOfRow.holds Try.pinned (OpenSpec.ofChange Rows.fnExactClearanceOfSpec) :=
  OpenClaim.holds_of_wide 6 Try.f6 rfl rfl rfl rfl rfl rfl rfl ⟨rfl, rfl, rfl, rfl, rfl⟩ rfl rfl rfl rfl rfl (by kernel_rfl) Try.func6 (by kernel_rfl)
    (of_decide_eq_true (by kernel_rfl)) (by unfold Func.isWrapper; first | (rw [if_pos (by decide +kernel)]; kernel_rfl) | (rw [if_neg (by decide +kernel)]; exact ⟨rfl, rfl⟩))
    (fun os started H enc _ => lifted os started H enc)

theorem proved : Rows.FnExactClearanceOfSaid := over
#print axioms proved
end fnExactClearanceOf

end Go.Proofs.Ytnikdafbnkedkaa
