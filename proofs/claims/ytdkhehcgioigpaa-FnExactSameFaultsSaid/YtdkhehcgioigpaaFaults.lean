/-
  Contracts of lists of faults: the copies that the laws make, their equality: the program's and the reference's. Each under the conditions that it states.
-/
import Derived.Test.YtdkhehcgioigpaaText1
import Derived.Test.YtdkhehcgioigpaaFlat
import Derived.Laws.MakeOwn
set_option linter.unusedVariables false
set_option linter.unnecessarySimpa false
set_option maxRecDepth 100000
set_option linter.unusedSimpArgs false
namespace Go.Proofs.Ytdkhehcgioigpaa
open Go.RowKit BigFrame

def szN (left : Int) (n : Nat) : Int := if left - n < 0 then -1 else left - n
def ToPost (xs : List Value) (n : Nat) (w : World) (e : Ending) (w' : World) : Prop := e = .returned (.slice (some ⟨w.heap.size, 0, none⟩) n n) ∧ Below w.heap.size w w' ∧ w.heap.size < w'.heap.size ∧ Sl w' (w.heap.size + 1) (some ⟨w.heap.size, 0, none⟩) xs
theorem made_row {P : Program} (w : World) {t e : TypeId} {z : Array Value} {s by_ : Nat} (ht : P.underlying t = some (.slice e)) (hi : (P.info? e).map (fun i => (i.zero.map Value.cells, i.size)) = some (some z, s)) (hb : (P.info? e).map (fun i => i.bytes) = some by_) (n : Nat) (hn : by_ * n ≤ 281474976710656) (h2 : n ≤ 9223372036854775807) :
    (Instr.makeSlice t (.int .i64 n) (.int .i64 n)).run P w = .ok (.slice (some ⟨w.heap.size, 0, none⟩) n n) (w.alloc (.cells (madeCells z (n * s)) e)) := by
  obtain ⟨i, h1, h3⟩ := Option.map_eq_some_iff.1 hi
  simp only [Prod.mk.injEq] at h3
  obtain ⟨h3, rfl⟩ := h3
  obtain ⟨zv, hz, rfl⟩ := Option.map_eq_some_iff.1 h3
  rw [h1] at hb
  simp only [Option.map_some, Option.some.injEq] at hb
  subst hb
  have := run_make w t e i zv ht h1 hz .i64 .i64 n n (by omega) (Int.le_refl _) (by omega) (by omega)
  simpa using this
theorem own_made {e : TypeId} (w : World) (z : Array Value) (m : Nat) {α : Type} (f : α → List Value) (L : List α) : Own (w.alloc (.cells (madeCells z m) e)) w.heap.size e m (flat f (L.take 0)) := by
  have := Own.made (e := e) w (madeCells z m)
  rw [size_madeCells] at this
  exact this

structure RFault where
  f0 : Int
  f1 : Int
  f2 : Int
  f3 : Int
instance : Inhabited RFault := ⟨⟨0, 0, 0, 0⟩⟩
def RFault.cells (a : RFault) : List Value := [.int .i64 a.f0, .int .i64 a.f1, .int .i64 a.f2, .int .i64 a.f3]
theorem RFault.len (a : RFault) : a.cells.length = 4 := rfl
def RFault.ok (a : RFault) : Prop := IntKind.i64.has a.f0 ∧ IntKind.i64.has a.f1 ∧ IntKind.i64.has a.f2 ∧ IntKind.i64.has a.f3
def RFault.same (a b : RFault) : Bool := a.f0 == b.f0 && (a.f1 == b.f1 && (a.f2 == b.f2 && (a.f3 == b.f3)))
section
open Go.ChangeShapes Go.WideShapes Go.ChangeAt Go.Deep
theorem trod_Fault {H : Type} {enc : TypeId × Value → H} {w : World} {b : Nat} {spare : Nat → Bool} {held : Bool} {m : Nat} {c : List Value} {y : DataW H × List MemPlace} (h : DataW.trod enc Try.prog w b spare held m 92 c = some y) : ∃ a : RFault, c = a.cells ∧ a.ok := by
  have hc : c.length = 4 := by
    obtain ⟨_, _, _, _, hl, _⟩ := DataW.trod_struct Try.underlying92 h
    exact hl.trans (by kernel_rfl)
  obtain ⟨c0, c1, c2, c3, rfl⟩ : ∃ c0 c1 c2 c3, c = [c0, c1, c2, c3] := by
    match c, hc with
    | [c0, c1, c2, c3], _ => exact ⟨c0, c1, c2, c3, rfl⟩
  obtain ⟨xsc0_c1_c2_c3, nc0_c1_c2_c3, _, _, _, hlc0_c1_c2_c3, hfc0_c1_c2_c3⟩ := DataW.trod_struct Try.underlying92 h
  have gc0_c1_c2_c3_0 := (hfc0_c1_c2_c3 0 _ rfl).trans (List.getElem?_eq_getElem (by rw [hlc0_c1_c2_c3]; decide))
  obtain ⟨zc0, ec0, _, qc0⟩ := DataW.trod_int Try.underlying2 (show DataW.trod enc Try.prog w b spare held nc0_c1_c2_c3 2 [c0] = _ from gc0_c1_c2_c3_0)
  have gc0_c1_c2_c3_1 := (hfc0_c1_c2_c3 1 _ rfl).trans (List.getElem?_eq_getElem (by rw [hlc0_c1_c2_c3]; decide))
  obtain ⟨zc1, ec1, _, qc1⟩ := DataW.trod_int Try.underlying2 (show DataW.trod enc Try.prog w b spare held nc0_c1_c2_c3 2 [c1] = _ from gc0_c1_c2_c3_1)
  have gc0_c1_c2_c3_2 := (hfc0_c1_c2_c3 2 _ rfl).trans (List.getElem?_eq_getElem (by rw [hlc0_c1_c2_c3]; decide))
  obtain ⟨zc2, ec2, _, qc2⟩ := DataW.trod_int Try.underlying2 (show DataW.trod enc Try.prog w b spare held nc0_c1_c2_c3 2 [c2] = _ from gc0_c1_c2_c3_2)
  have gc0_c1_c2_c3_3 := (hfc0_c1_c2_c3 3 _ rfl).trans (List.getElem?_eq_getElem (by rw [hlc0_c1_c2_c3]; decide))
  obtain ⟨zc3, ec3, _, qc3⟩ := DataW.trod_int Try.underlying2 (show DataW.trod enc Try.prog w b spare held nc0_c1_c2_c3 2 [c3] = _ from gc0_c1_c2_c3_3)
  obtain rfl : c0 = _ := by simpa using ec0
  obtain rfl : c1 = _ := by simpa using ec1
  obtain rfl : c2 = _ := by simpa using ec2
  obtain rfl : c3 = _ := by simpa using ec3
  exact ⟨⟨zc0, zc1, zc2, zc3⟩, rfl, (by simpa [Lit.wf, IntKind.has] using qc0), (by simpa [Lit.wf, IntKind.has] using qc1), (by simpa [Lit.wf, IntKind.has] using qc2), (by simpa [Lit.wf, IntKind.has] using qc3)⟩
end
set_option maxHeartbeats 1600000 in
theorem toFault_any (f0 : Int) (f1 : Int) (f2 : Int) (f3 : Int) (w : World) : Calls Try.prog 67 #[.agg #[.int .i64 f0, .int .i64 f1, .int .i64 f2, .int .i64 f3]] w fun e w' => e = .returned (.agg #[.int .i64 f0, .int .i64 f1, .int .i64 f2, .int .i64 f3]) ∧ Below w.heap.size w w' := by
  go_enter Try.func67, Try.ntmps67
  go_wp2
  go_returns
  exact ⟨rfl, by go_grown⟩
set_option maxHeartbeats 1600000 in
theorem eqFault_same (f0 : Int) (f1 : Int) (f2 : Int) (f3 : Int) (w : World) : Calls Try.prog 69 #[.agg #[.int .i64 f0, .int .i64 f1, .int .i64 f2, .int .i64 f3], .agg #[.int .i64 f0, .int .i64 f1, .int .i64 f2, .int .i64 f3]] w fun e w' => e = .returned (.bool true) ∧ Below w.heap.size w w' := by
  go_enter Try.func69, Try.ntmps69
  go_wp2
  all_goals (go_ret; exact ⟨rfl, by go_grown⟩)
theorem szFaultS_any (n : Nat) (A : Option Addr) (c : Nat) (l : Int) (h1 : -1 ≤ l) (h2 : l ≤ 1048576) (hn : n ≤ maxLen) (w : World) : Calls Try.prog 20 #[.slice A n c, .int .i64 l] w fun e w' => e = .returned (.int .i64 (szN l n)) ∧ w = w' := by
  have hn2 : n ≤ 9223372036854775807 := by simpa [maxLen, IntKind.max, IntKind.bits, IntKind.signed] using hn
  by_cases h : l - (n : Int) < 0
  · have hm : Hid (szN l n = -1) := by apply Lib.hid; unfold szN; rw [if_pos h]
    go_enter Try.func20, Try.ntmps20
    go_wp2
    go_ret
    exact ⟨ret_int hm.out.symm, rfl⟩
  · have hm : Hid (szN l n = l - n) := by apply Lib.hid; unfold szN; rw [if_neg h]
    go_enter Try.func20, Try.ntmps20
    go_wp2
    go_ret
    exact ⟨ret_int hm.out.symm, rfl⟩
set_option maxHeartbeats 1600000 in
theorem toFaultS_any (L : List RFault) (A : Option Addr) (c B : Nat) (w : World) (hs : Sl w B A (flat RFault.cells L)) (hB : B ≤ w.heap.size) (hl : L.length ≤ 1048576) : Calls Try.prog 22 #[.slice A L.length c] w (ToPost (flat RFault.cells L) L.length w) := by
  have hmk : ∀ w : World, (Instr.makeSlice 43 (.int .i64 L.length) (.int .i64 L.length)).run Try.prog w = .ok (.slice (some ⟨w.heap.size, 0, none⟩) L.length L.length) (w.alloc (.cells (madeCells #[.int .i64 0, .int .i64 0, .int .i64 0, .int .i64 0] (L.length * 4)) 90)) := fun w => made_row (by_ := 32) w Try.underlying43 (by kernel_rfl) (by kernel_rfl) L.length (by omega) (by omega)
  have hs' := Lib.hid hs
  clear hs
  go_enter Try.func22, Try.ntmps22
  go_wp2
  have hO : Own (w.alloc (.cells (madeCells #[.int .i64 0, .int .i64 0, .int .i64 0, .int .i64 0] (L.length * 4)) 90)) w.heap.size 90 (L.length * 4) (flat RFault.cells (L.take 0)) := own_made w _ _ _ _
  have hB0 : Below w.heap.size w (w.alloc (.cells (madeCells #[.int .i64 0, .int .i64 0, .int .i64 0, .int .i64 0] (L.length * 4)) 90)) := by go_grown
  clear hmk
  go_loopw [4] (fun i wr => ∃ k : Nat, i = .int .i64 k ∧ k ≤ L.length ∧ Below w.heap.size w wr ∧ Own wr w.heap.size 90 (L.length * 4) (flat RFault.cells (L.take k))) (fun i _ => L.length - (intOf i).toNat)
  case atStart => exact ⟨0, rfl, Nat.zero_le _, hB0, hO⟩
  case round =>
    clear hB0 hO
    obtain ⟨k, rfl, hk, hB1, hO⟩ := hrel
    by_cases hlt : k < L.length
    · obtain ⟨b, o, rfl, hb, he⟩ := Sl.elem RFault.len (by decide) (hs'.out.below (hB1.mono hB)) hlt
      have d0 : wr.cell? ⟨b, o + k * 4, none⟩ = some (.int .i64 L[k].f0) := by have := he 0 _ rfl; simpa [Nat.add_assoc] using this
      have d1 : wr.cell? ⟨b, o + k * 4 + 1, none⟩ = some (.int .i64 L[k].f1) := by have := he 1 _ rfl; simpa [Nat.add_assoc] using this
      have d2 : wr.cell? ⟨b, o + k * 4 + 2, none⟩ = some (.int .i64 L[k].f2) := by have := he 2 _ rfl; simpa [Nat.add_assoc] using this
      have d3 : wr.cell? ⟨b, o + k * 4 + 3, none⟩ = some (.int .i64 L[k].f3) := by have := he 3 _ rfl; simpa [Nat.add_assoc] using this
      have hkn : k * 4 + 4 ≤ L.length * 4 := by have := Nat.mul_le_mul_right 4 (show k + 1 ≤ L.length by omega); omega
      have hlen : (flat RFault.cells (L.take k)).length = k * 4 := by rw [flat_len RFault.len, List.length_take, Nat.min_eq_left hk]
      have hstep : flat RFault.cells (L.take (k + 1)) = flat RFault.cells (L.take k) ++ [.int .i64 L[k].f0] ++ [.int .i64 L[k].f1] ++ [.int .i64 L[k].f2] ++ [.int .i64 L[k].f3] := by rw [List.take_succ_eq_append_getElem hlt, flat_snoc]; simp [RFault.cells]
      have hstep := Lib.hid hstep
      clear he
      go_wp2_with (go_at_call 67; refine (toFault_any _ _ _ _ _).mono ?_; rintro e w1 ⟨rfl, hb1⟩; (have hO1 := hO.on hb1); obtain ⟨y0, x0⟩ := hO1.cell (i := k * 4) (by omega); have v0 := hO1.frozen (k * 4); obtain ⟨y1, x1⟩ := hO1.cell (i := k * 4 + 1) (by omega); have v1 := hO1.frozen (k * 4 + 1); obtain ⟨y2, x2⟩ := hO1.cell (i := k * 4 + 2) (by omega); have v2 := hO1.frozen (k * 4 + 2); obtain ⟨y3, x3⟩ := hO1.cell (i := k * 4 + 3) (by omega); have v3 := hO1.frozen (k * 4 + 3))
      go_roundw
      case rel => exact ⟨k + 1, by go_num, by omega, by have := bnext hB1 hb1; go_grown, by rw [hstep.out]; exact (Own.set (Own.set (Own.set (Own.set hO1 (by simp [hlen]) (by omega) _) (by simp [hlen]) (by omega) _) (by simp [hlen]) (by omega) _) (by simp [hlen]) (by omega) _)⟩
      case measure => simp [intOf]; omega
    · obtain rfl : k = L.length := by omega
      have hO2 : Own wr w.heap.size 90 (L.length * 4) (flat RFault.cells L) := by rw [List.take_length] at hO; exact hO
      go_wp2
      go_ret
      exact ⟨rfl, hB1, hO2.lt, hO2.sl⟩
set_option maxHeartbeats 1600000 in
theorem eqFaultS_same (L : List RFault) (A A2 : Option Addr) (c c2 B : Nat) (w : World) (hs : Sl w B A (flat RFault.cells L)) (hs2 : Sl w B A2 (flat RFault.cells L)) (hB : B ≤ w.heap.size) (hl : L.length ≤ 1048576) : Calls Try.prog 24 #[.slice A L.length c, .slice A2 L.length c2] w fun e w' => e = .returned (.bool true) ∧ Below w.heap.size w w' := by
  have hs' := Lib.hid hs
  have hs2' := Lib.hid hs2
  clear hs hs2
  go_enter Try.func24, Try.ntmps24
  go_wp2
  go_loopw [5] (fun i wr => ∃ k : Nat, i = .int .i64 k ∧ k ≤ L.length ∧ Below w.heap.size w wr) (fun i _ => L.length - (intOf i).toNat)
  case atStart => exact ⟨0, rfl, Nat.zero_le _, Below.refl _ _⟩
  case round =>
    obtain ⟨k, rfl, hk, hB1⟩ := hrel
    have hS1 := hB1.size
    by_cases hlt : k < L.length
    · obtain ⟨bp, op, rfl, hbp, hep⟩ := Sl.elem RFault.len (by decide) (hs'.out.below (hB1.mono hB)) hlt
      have dp0 : wr.cell? ⟨bp, op + k * 4, none⟩ = some (.int .i64 L[k].f0) := by have := hep 0 _ rfl; simpa [Nat.add_assoc] using this
      have dp1 : wr.cell? ⟨bp, op + k * 4 + 1, none⟩ = some (.int .i64 L[k].f1) := by have := hep 1 _ rfl; simpa [Nat.add_assoc] using this
      have dp2 : wr.cell? ⟨bp, op + k * 4 + 2, none⟩ = some (.int .i64 L[k].f2) := by have := hep 2 _ rfl; simpa [Nat.add_assoc] using this
      have dp3 : wr.cell? ⟨bp, op + k * 4 + 3, none⟩ = some (.int .i64 L[k].f3) := by have := hep 3 _ rfl; simpa [Nat.add_assoc] using this
      have hwp : bp < wr.heap.size := by omega
      obtain ⟨bq, oq, rfl, hbq, heq⟩ := Sl.elem RFault.len (by decide) (hs2'.out.below (hB1.mono hB)) hlt
      have dq0 : wr.cell? ⟨bq, oq + k * 4, none⟩ = some (.int .i64 L[k].f0) := by have := heq 0 _ rfl; simpa [Nat.add_assoc] using this
      have dq1 : wr.cell? ⟨bq, oq + k * 4 + 1, none⟩ = some (.int .i64 L[k].f1) := by have := heq 1 _ rfl; simpa [Nat.add_assoc] using this
      have dq2 : wr.cell? ⟨bq, oq + k * 4 + 2, none⟩ = some (.int .i64 L[k].f2) := by have := heq 2 _ rfl; simpa [Nat.add_assoc] using this
      have dq3 : wr.cell? ⟨bq, oq + k * 4 + 3, none⟩ = some (.int .i64 L[k].f3) := by have := heq 3 _ rfl; simpa [Nat.add_assoc] using this
      have hwq : bq < wr.heap.size := by omega
      clear hep heq
      go_wp2_with fail
      refine wp_region_grew (by kernel_rfl) (by kernel_rfl) ?_
      repeat (first | (go_big_quiet_step ((go_at_call 69; exact grew_of (eqFault_same _ _ _ _ _)))) | (quiet_step ((go_at_call 69; exact grew_of (eqFault_same _ _ _ _ _)))))
      refine wpQuiet_nil ?_
      rintro _ ⟨⟨w9, hb9⟩, rfl⟩
      try dsimp only
      go_wp2
      go_roundw
      case rel => exact ⟨k + 1, by go_num, by omega, bnext hB1 hb9⟩
      case measure => simp [intOf]; omega
    · obtain rfl : k = L.length := by omega
      go_wp2
      go_ret
      exact ⟨rfl, hB1⟩
def sameFaultM (L M : List RFault) : Bool := decide (L.length = M.length) && allTo (fun k => (L.getD k default).same (M.getD k default)) L.length
theorem RFault.diff {a b : RFault} (h : ¬ a = b) : (¬ a.f0 = b.f0) ∨ (a.f0 = b.f0 ∧ ¬ a.f1 = b.f1) ∨ (a.f0 = b.f0 ∧ a.f1 = b.f1 ∧ ¬ a.f2 = b.f2) ∨ (a.f0 = b.f0 ∧ a.f1 = b.f1 ∧ a.f2 = b.f2 ∧ ¬ a.f3 = b.f3) := by
  rcases a with ⟨a0, a1, a2, a3⟩
  rcases b with ⟨b0, b1, b2, b3⟩
  simp only [RFault.mk.injEq] at h
  dsimp only
  by_cases h0 : a0 = b0
  rotate_left
  · exact Or.inl h0
  by_cases h1 : a1 = b1
  rotate_left
  · exact Or.inr (Or.inl ⟨h0, h1⟩)
  by_cases h2 : a2 = b2
  rotate_left
  · exact Or.inr (Or.inr (Or.inl ⟨h0, h1, h2⟩))
  exact Or.inr (Or.inr (Or.inr (⟨h0, h1, h2, fun e => h ⟨h0, h1, h2, e⟩⟩)))
theorem RFault.same_yes (a : RFault) : a.same a = true := by simp [RFault.same]
theorem RFault.same_no {a b : RFault} (h : ¬ a = b) : a.same b = false := by
  rcases RFault.diff h with h | h | h | h
  all_goals simp [RFault.same, h]
set_option maxHeartbeats 1600000 in
theorem spec_sameFault (L M : List RFault) (A A2 : Option Addr) (c c2 B : Nat) (w : World) (hs : Sl w B A (flat RFault.cells L)) (hs2 : Sl w B A2 (flat RFault.cells M)) (hB : B ≤ w.heap.size) (hl : L.length ≤ 1048576) (hl2 : M.length ≤ 1048576) : Calls Try.prog 21 #[.slice A L.length c, .slice A2 M.length c2] w fun e w' => e = .returned (.bool (sameFaultM L M)) ∧ Below w.heap.size w w' := by
  have hs' := Lib.hid hs
  have hs2' := Lib.hid hs2
  clear hs hs2
  by_cases hlen : L.length = M.length
  rotate_left
  · have hm : Hid (sameFaultM L M = false) := by apply Lib.hid; unfold sameFaultM; rw [decide_eq_false hlen]; rfl
    have hne : ((L.length : Int) == (M.length : Int)) = false := beq_eq_false_iff_ne.2 (by omega)
    clear hlen
    go_enter Try.func21, Try.ntmps21
    go_wp2
    go_ret
    exact ⟨ret_bool hm.out.symm, by go_grown⟩
  have hm : Hid (sameFaultM L M = allTo (fun k => (L.getD k default).same (M.getD k default)) L.length) := by apply Lib.hid; unfold sameFaultM; rw [decide_eq_true hlen]; rfl
  have hlen' := Lib.hid hlen
  rw [← hlen]
  clear hlen
  go_enter Try.func21, Try.ntmps21
  go_wp2
  go_loopw [5] (fun i wr => ∃ k : Nat, i = .int .i64 k ∧ k ≤ L.length ∧ allTo (fun k => (L.getD k default).same (M.getD k default)) k = true ∧ Below w.heap.size w wr) (fun i _ => L.length - (intOf i).toNat)
  case atStart => exact ⟨0, rfl, Nat.zero_le _, rfl, by go_grown⟩
  case round =>
    obtain ⟨k, rfl, hk, hv, hB1⟩ := hrel
    have hv' := Lib.hid hv
    clear hv
    by_cases hlt : k < L.length
    · have hltM : k < M.length := by have := hlen'.out; omega
      obtain ⟨bp, op, rfl, hbp, hep⟩ := Sl.elem RFault.len (by decide) (hs'.out.below (hB1.mono hB)) hlt
      obtain ⟨bq, oq, rfl, hbq, heq⟩ := Sl.elem RFault.len (by decide) (hs2'.out.below (hB1.mono hB)) hltM
      have hg : Hid ((L.getD k default).same (M.getD k default) = (L[k]).same (M[k])) := by apply Lib.hid; rw [List.getD_eq_getElem?_getD, List.getD_eq_getElem?_getD, List.getElem?_eq_getElem hlt, List.getElem?_eq_getElem hltM]; rfl
      obtain ⟨a, ha⟩ : ∃ a, L[k] = a := ⟨_, rfl⟩
      obtain ⟨b, hb⟩ : ∃ b, M[k] = b := ⟨_, rfl⟩
      rw [ha, hb] at hg
      rw [ha] at hep
      rw [hb] at heq
      clear ha hb
      by_cases hab : a = b
      · obtain rfl := hab
        have hf2 := Lib.hid (allTo_step (f := fun k => (L.getD k default).same (M.getD k default)) hv'.out (show (L.getD k default).same (M.getD k default) = true by rw [hg.out]; exact RFault.same_yes _))
        have dp0 : wr.cell? ⟨bp, op + k * 4, none⟩ = some (.int .i64 a.f0) := by have := hep 0 _ rfl; simpa [Nat.add_assoc, *] using this
        have dp1 : wr.cell? ⟨bp, op + k * 4 + 1, none⟩ = some (.int .i64 a.f1) := by have := hep 1 _ rfl; simpa [Nat.add_assoc, *] using this
        have dp2 : wr.cell? ⟨bp, op + k * 4 + 2, none⟩ = some (.int .i64 a.f2) := by have := hep 2 _ rfl; simpa [Nat.add_assoc, *] using this
        have dp3 : wr.cell? ⟨bp, op + k * 4 + 3, none⟩ = some (.int .i64 a.f3) := by have := hep 3 _ rfl; simpa [Nat.add_assoc, *] using this
        have dq0 : wr.cell? ⟨bq, oq + k * 4, none⟩ = some (.int .i64 a.f0) := by have := heq 0 _ rfl; simpa [Nat.add_assoc, *] using this
        have dq1 : wr.cell? ⟨bq, oq + k * 4 + 1, none⟩ = some (.int .i64 a.f1) := by have := heq 1 _ rfl; simpa [Nat.add_assoc, *] using this
        have dq2 : wr.cell? ⟨bq, oq + k * 4 + 2, none⟩ = some (.int .i64 a.f2) := by have := heq 2 _ rfl; simpa [Nat.add_assoc, *] using this
        have dq3 : wr.cell? ⟨bq, oq + k * 4 + 3, none⟩ = some (.int .i64 a.f3) := by have := heq 3 _ rfl; simpa [Nat.add_assoc, *] using this
        clear hep heq
        have hwp : bp < wr.heap.size := by have := hB1.size; omega
        have hwq : bq < wr.heap.size := by have := hB1.size; omega
        go_wp2_with fail
        refine wp_region_grew (by kernel_rfl) (by kernel_rfl) ?_
        repeat (first | (go_big_quiet_step (fail)) | (quiet_step (fail)))
        refine wpQuiet_nil ?_
        rintro _ ⟨⟨w9, hb9⟩, rfl⟩
        try dsimp only
        go_wp2
        go_roundw
        case rel => exact ⟨k + 1, by go_num, by omega, hf2.out, bnext hB1 hb9⟩
        case measure => simp [intOf]; omega
      · have hf2 := Lib.hid (allTo_hit (f := fun k => (L.getD k default).same (M.getD k default)) hlt (show (L.getD k default).same (M.getD k default) = false by rw [hg.out]; exact RFault.same_no hab))
        rcases RFault.diff hab with h0 | ⟨h0, h1⟩ | ⟨h0, h1, h2⟩ | ⟨h0, h1, h2, h3⟩
        · have hx : (a.f0 == b.f0) = false := beq_eq_false_iff_ne.2 h0
          have dp0 : wr.cell? ⟨bp, op + k * 4, none⟩ = some (.int .i64 a.f0) := by have := hep 0 _ rfl; simpa [Nat.add_assoc, *] using this
          have dp1 : wr.cell? ⟨bp, op + k * 4 + 1, none⟩ = some (.int .i64 a.f1) := by have := hep 1 _ rfl; simpa [Nat.add_assoc, *] using this
          have dp2 : wr.cell? ⟨bp, op + k * 4 + 2, none⟩ = some (.int .i64 a.f2) := by have := hep 2 _ rfl; simpa [Nat.add_assoc, *] using this
          have dp3 : wr.cell? ⟨bp, op + k * 4 + 3, none⟩ = some (.int .i64 a.f3) := by have := hep 3 _ rfl; simpa [Nat.add_assoc, *] using this
          have dq0 : wr.cell? ⟨bq, oq + k * 4, none⟩ = some (.int .i64 b.f0) := by have := heq 0 _ rfl; simpa [Nat.add_assoc, *] using this
          have dq1 : wr.cell? ⟨bq, oq + k * 4 + 1, none⟩ = some (.int .i64 b.f1) := by have := heq 1 _ rfl; simpa [Nat.add_assoc, *] using this
          have dq2 : wr.cell? ⟨bq, oq + k * 4 + 2, none⟩ = some (.int .i64 b.f2) := by have := heq 2 _ rfl; simpa [Nat.add_assoc, *] using this
          have dq3 : wr.cell? ⟨bq, oq + k * 4 + 3, none⟩ = some (.int .i64 b.f3) := by have := heq 3 _ rfl; simpa [Nat.add_assoc, *] using this
          clear hep heq h0 hab
          have hwp : bp < wr.heap.size := by have := hB1.size; omega
          have hwq : bq < wr.heap.size := by have := hB1.size; omega
          go_wp2_with fail
          refine wp_region_grew (by kernel_rfl) (by kernel_rfl) ?_
          repeat (first | (go_big_quiet_step (fail)) | (quiet_step (fail)))
          refine wpQuiet_nil ?_
          rintro _ ⟨⟨w9, hb9⟩, rfl⟩
          try dsimp only
          go_wp2
          go_ret
          exact ⟨ret_bool (hm.out.trans hf2.out).symm, bnext hB1 hb9⟩
        · have hx : (a.f1 == b.f1) = false := beq_eq_false_iff_ne.2 h1
          have dp0 : wr.cell? ⟨bp, op + k * 4, none⟩ = some (.int .i64 b.f0) := by have := hep 0 _ rfl; simpa [Nat.add_assoc, *] using this
          have dp1 : wr.cell? ⟨bp, op + k * 4 + 1, none⟩ = some (.int .i64 a.f1) := by have := hep 1 _ rfl; simpa [Nat.add_assoc, *] using this
          have dp2 : wr.cell? ⟨bp, op + k * 4 + 2, none⟩ = some (.int .i64 a.f2) := by have := hep 2 _ rfl; simpa [Nat.add_assoc, *] using this
          have dp3 : wr.cell? ⟨bp, op + k * 4 + 3, none⟩ = some (.int .i64 a.f3) := by have := hep 3 _ rfl; simpa [Nat.add_assoc, *] using this
          have dq0 : wr.cell? ⟨bq, oq + k * 4, none⟩ = some (.int .i64 b.f0) := by have := heq 0 _ rfl; simpa [Nat.add_assoc, *] using this
          have dq1 : wr.cell? ⟨bq, oq + k * 4 + 1, none⟩ = some (.int .i64 b.f1) := by have := heq 1 _ rfl; simpa [Nat.add_assoc, *] using this
          have dq2 : wr.cell? ⟨bq, oq + k * 4 + 2, none⟩ = some (.int .i64 b.f2) := by have := heq 2 _ rfl; simpa [Nat.add_assoc, *] using this
          have dq3 : wr.cell? ⟨bq, oq + k * 4 + 3, none⟩ = some (.int .i64 b.f3) := by have := heq 3 _ rfl; simpa [Nat.add_assoc, *] using this
          clear hep heq h0 h1 hab
          have hwp : bp < wr.heap.size := by have := hB1.size; omega
          have hwq : bq < wr.heap.size := by have := hB1.size; omega
          go_wp2_with fail
          refine wp_region_grew (by kernel_rfl) (by kernel_rfl) ?_
          repeat (first | (go_big_quiet_step (fail)) | (quiet_step (fail)))
          refine wpQuiet_nil ?_
          rintro _ ⟨⟨w9, hb9⟩, rfl⟩
          try dsimp only
          go_wp2
          go_ret
          exact ⟨ret_bool (hm.out.trans hf2.out).symm, bnext hB1 hb9⟩
        · have hx : (a.f2 == b.f2) = false := beq_eq_false_iff_ne.2 h2
          have dp0 : wr.cell? ⟨bp, op + k * 4, none⟩ = some (.int .i64 b.f0) := by have := hep 0 _ rfl; simpa [Nat.add_assoc, *] using this
          have dp1 : wr.cell? ⟨bp, op + k * 4 + 1, none⟩ = some (.int .i64 b.f1) := by have := hep 1 _ rfl; simpa [Nat.add_assoc, *] using this
          have dp2 : wr.cell? ⟨bp, op + k * 4 + 2, none⟩ = some (.int .i64 a.f2) := by have := hep 2 _ rfl; simpa [Nat.add_assoc, *] using this
          have dp3 : wr.cell? ⟨bp, op + k * 4 + 3, none⟩ = some (.int .i64 a.f3) := by have := hep 3 _ rfl; simpa [Nat.add_assoc, *] using this
          have dq0 : wr.cell? ⟨bq, oq + k * 4, none⟩ = some (.int .i64 b.f0) := by have := heq 0 _ rfl; simpa [Nat.add_assoc, *] using this
          have dq1 : wr.cell? ⟨bq, oq + k * 4 + 1, none⟩ = some (.int .i64 b.f1) := by have := heq 1 _ rfl; simpa [Nat.add_assoc, *] using this
          have dq2 : wr.cell? ⟨bq, oq + k * 4 + 2, none⟩ = some (.int .i64 b.f2) := by have := heq 2 _ rfl; simpa [Nat.add_assoc, *] using this
          have dq3 : wr.cell? ⟨bq, oq + k * 4 + 3, none⟩ = some (.int .i64 b.f3) := by have := heq 3 _ rfl; simpa [Nat.add_assoc, *] using this
          clear hep heq h0 h1 h2 hab
          have hwp : bp < wr.heap.size := by have := hB1.size; omega
          have hwq : bq < wr.heap.size := by have := hB1.size; omega
          go_wp2_with fail
          refine wp_region_grew (by kernel_rfl) (by kernel_rfl) ?_
          repeat (first | (go_big_quiet_step (fail)) | (quiet_step (fail)))
          refine wpQuiet_nil ?_
          rintro _ ⟨⟨w9, hb9⟩, rfl⟩
          try dsimp only
          go_wp2
          go_ret
          exact ⟨ret_bool (hm.out.trans hf2.out).symm, bnext hB1 hb9⟩
        · have hx : (a.f3 == b.f3) = false := beq_eq_false_iff_ne.2 h3
          have dp0 : wr.cell? ⟨bp, op + k * 4, none⟩ = some (.int .i64 b.f0) := by have := hep 0 _ rfl; simpa [Nat.add_assoc, *] using this
          have dp1 : wr.cell? ⟨bp, op + k * 4 + 1, none⟩ = some (.int .i64 b.f1) := by have := hep 1 _ rfl; simpa [Nat.add_assoc, *] using this
          have dp2 : wr.cell? ⟨bp, op + k * 4 + 2, none⟩ = some (.int .i64 b.f2) := by have := hep 2 _ rfl; simpa [Nat.add_assoc, *] using this
          have dp3 : wr.cell? ⟨bp, op + k * 4 + 3, none⟩ = some (.int .i64 a.f3) := by have := hep 3 _ rfl; simpa [Nat.add_assoc, *] using this
          have dq0 : wr.cell? ⟨bq, oq + k * 4, none⟩ = some (.int .i64 b.f0) := by have := heq 0 _ rfl; simpa [Nat.add_assoc, *] using this
          have dq1 : wr.cell? ⟨bq, oq + k * 4 + 1, none⟩ = some (.int .i64 b.f1) := by have := heq 1 _ rfl; simpa [Nat.add_assoc, *] using this
          have dq2 : wr.cell? ⟨bq, oq + k * 4 + 2, none⟩ = some (.int .i64 b.f2) := by have := heq 2 _ rfl; simpa [Nat.add_assoc, *] using this
          have dq3 : wr.cell? ⟨bq, oq + k * 4 + 3, none⟩ = some (.int .i64 b.f3) := by have := heq 3 _ rfl; simpa [Nat.add_assoc, *] using this
          clear hep heq h0 h1 h2 h3 hab
          have hwp : bp < wr.heap.size := by have := hB1.size; omega
          have hwq : bq < wr.heap.size := by have := hB1.size; omega
          go_wp2_with fail
          refine wp_region_grew (by kernel_rfl) (by kernel_rfl) ?_
          repeat (first | (go_big_quiet_step (fail)) | (quiet_step (fail)))
          refine wpQuiet_nil ?_
          rintro _ ⟨⟨w9, hb9⟩, rfl⟩
          try dsimp only
          go_wp2
          go_ret
          exact ⟨ret_bool (hm.out.trans hf2.out).symm, bnext hB1 hb9⟩
    · obtain rfl : k = L.length := by omega
      go_wp2
      go_ret
      exact ⟨ret_bool (hm.out.trans hv'.out).symm, by go_grown⟩
set_option maxHeartbeats 1600000 in
theorem impl_sameFault (L M : List RFault) (A A2 : Option Addr) (c c2 B : Nat) (w : World) (hs : Sl w B A (flat RFault.cells L)) (hs2 : Sl w B A2 (flat RFault.cells M)) (hB : B ≤ w.heap.size) (hl : L.length ≤ 1048576) (hl2 : M.length ≤ 1048576) : Calls Try.prog 68 #[.slice A L.length c, .slice A2 M.length c2] w fun e w' => e = .returned (.bool (sameFaultM L M)) ∧ Below w.heap.size w w' := by
  have hs' := Lib.hid hs
  have hs2' := Lib.hid hs2
  clear hs hs2
  by_cases hlen : L.length = M.length
  rotate_left
  · have hm : Hid (sameFaultM L M = false) := by apply Lib.hid; unfold sameFaultM; rw [decide_eq_false hlen]; rfl
    have hne : ((L.length : Int) == (M.length : Int)) = false := beq_eq_false_iff_ne.2 (by omega)
    clear hlen
    go_enter Try.func68, Try.ntmps68
    go_wp2
    go_ret
    exact ⟨ret_bool hm.out.symm, by go_grown⟩
  have hm : Hid (sameFaultM L M = allTo (fun k => (L.getD k default).same (M.getD k default)) L.length) := by apply Lib.hid; unfold sameFaultM; rw [decide_eq_true hlen]; rfl
  have hlen' := Lib.hid hlen
  rw [← hlen]
  clear hlen
  go_enter Try.func68, Try.ntmps68
  go_wp2
  go_loopw [13] (fun i wr => ∃ k : Nat, i = .int .i64 k ∧ k ≤ L.length ∧ allTo (fun k => (L.getD k default).same (M.getD k default)) k = true ∧ Below w.heap.size w wr) (fun i _ => L.length - (intOf i).toNat)
  case atStart => exact ⟨0, rfl, Nat.zero_le _, rfl, by go_grown⟩
  case round =>
    obtain ⟨k, rfl, hk, hv, hB1⟩ := hrel
    have hv' := Lib.hid hv
    clear hv
    by_cases hlt : k < L.length
    · have hltM : k < M.length := by have := hlen'.out; omega
      obtain ⟨bp, op, rfl, hbp, hep⟩ := Sl.elem RFault.len (by decide) (hs'.out.below (hB1.mono hB)) hlt
      obtain ⟨bq, oq, rfl, hbq, heq⟩ := Sl.elem RFault.len (by decide) (hs2'.out.below (hB1.mono hB)) hltM
      have hg : Hid ((L.getD k default).same (M.getD k default) = (L[k]).same (M[k])) := by apply Lib.hid; rw [List.getD_eq_getElem?_getD, List.getD_eq_getElem?_getD, List.getElem?_eq_getElem hlt, List.getElem?_eq_getElem hltM]; rfl
      obtain ⟨a, ha⟩ : ∃ a, L[k] = a := ⟨_, rfl⟩
      obtain ⟨b, hb⟩ : ∃ b, M[k] = b := ⟨_, rfl⟩
      rw [ha, hb] at hg
      rw [ha] at hep
      rw [hb] at heq
      clear ha hb
      by_cases hab : a = b
      · obtain rfl := hab
        have hf2 := Lib.hid (allTo_step (f := fun k => (L.getD k default).same (M.getD k default)) hv'.out (show (L.getD k default).same (M.getD k default) = true by rw [hg.out]; exact RFault.same_yes _))
        have dp0 : wr.cell? ⟨bp, op + k * 4, none⟩ = some (.int .i64 a.f0) := by have := hep 0 _ rfl; simpa [Nat.add_assoc, *] using this
        have dp1 : wr.cell? ⟨bp, op + k * 4 + 1, none⟩ = some (.int .i64 a.f1) := by have := hep 1 _ rfl; simpa [Nat.add_assoc, *] using this
        have dp2 : wr.cell? ⟨bp, op + k * 4 + 2, none⟩ = some (.int .i64 a.f2) := by have := hep 2 _ rfl; simpa [Nat.add_assoc, *] using this
        have dp3 : wr.cell? ⟨bp, op + k * 4 + 3, none⟩ = some (.int .i64 a.f3) := by have := hep 3 _ rfl; simpa [Nat.add_assoc, *] using this
        have dq0 : wr.cell? ⟨bq, oq + k * 4, none⟩ = some (.int .i64 a.f0) := by have := heq 0 _ rfl; simpa [Nat.add_assoc, *] using this
        have dq1 : wr.cell? ⟨bq, oq + k * 4 + 1, none⟩ = some (.int .i64 a.f1) := by have := heq 1 _ rfl; simpa [Nat.add_assoc, *] using this
        have dq2 : wr.cell? ⟨bq, oq + k * 4 + 2, none⟩ = some (.int .i64 a.f2) := by have := heq 2 _ rfl; simpa [Nat.add_assoc, *] using this
        have dq3 : wr.cell? ⟨bq, oq + k * 4 + 3, none⟩ = some (.int .i64 a.f3) := by have := heq 3 _ rfl; simpa [Nat.add_assoc, *] using this
        clear hep heq
        have hwp : bp < wr.heap.size := by have := hB1.size; omega
        have hwq : bq < wr.heap.size := by have := hB1.size; omega
        go_wp2_with fail
        refine wp_region_grew (by kernel_rfl) (by kernel_rfl) ?_
        repeat (first | (go_big_quiet_step (fail)) | (quiet_step (fail)))
        refine wpQuiet_nil ?_
        rintro _ ⟨⟨w9, hb9⟩, rfl⟩
        try dsimp only
        go_wp2
        go_roundw
        case rel => exact ⟨k + 1, by go_num, by omega, hf2.out, bnext hB1 hb9⟩
        case measure => simp [intOf]; omega
      · have hf2 := Lib.hid (allTo_hit (f := fun k => (L.getD k default).same (M.getD k default)) hlt (show (L.getD k default).same (M.getD k default) = false by rw [hg.out]; exact RFault.same_no hab))
        rcases RFault.diff hab with h0 | ⟨h0, h1⟩ | ⟨h0, h1, h2⟩ | ⟨h0, h1, h2, h3⟩
        · have hx : (a.f0 == b.f0) = false := beq_eq_false_iff_ne.2 h0
          have dp0 : wr.cell? ⟨bp, op + k * 4, none⟩ = some (.int .i64 a.f0) := by have := hep 0 _ rfl; simpa [Nat.add_assoc, *] using this
          have dp1 : wr.cell? ⟨bp, op + k * 4 + 1, none⟩ = some (.int .i64 a.f1) := by have := hep 1 _ rfl; simpa [Nat.add_assoc, *] using this
          have dp2 : wr.cell? ⟨bp, op + k * 4 + 2, none⟩ = some (.int .i64 a.f2) := by have := hep 2 _ rfl; simpa [Nat.add_assoc, *] using this
          have dp3 : wr.cell? ⟨bp, op + k * 4 + 3, none⟩ = some (.int .i64 a.f3) := by have := hep 3 _ rfl; simpa [Nat.add_assoc, *] using this
          have dq0 : wr.cell? ⟨bq, oq + k * 4, none⟩ = some (.int .i64 b.f0) := by have := heq 0 _ rfl; simpa [Nat.add_assoc, *] using this
          have dq1 : wr.cell? ⟨bq, oq + k * 4 + 1, none⟩ = some (.int .i64 b.f1) := by have := heq 1 _ rfl; simpa [Nat.add_assoc, *] using this
          have dq2 : wr.cell? ⟨bq, oq + k * 4 + 2, none⟩ = some (.int .i64 b.f2) := by have := heq 2 _ rfl; simpa [Nat.add_assoc, *] using this
          have dq3 : wr.cell? ⟨bq, oq + k * 4 + 3, none⟩ = some (.int .i64 b.f3) := by have := heq 3 _ rfl; simpa [Nat.add_assoc, *] using this
          clear hep heq h0 hab
          have hwp : bp < wr.heap.size := by have := hB1.size; omega
          have hwq : bq < wr.heap.size := by have := hB1.size; omega
          go_wp2_with fail
          refine wp_region_grew (by kernel_rfl) (by kernel_rfl) ?_
          repeat (first | (go_big_quiet_step (fail)) | (quiet_step (fail)))
          refine wpQuiet_nil ?_
          rintro _ ⟨⟨w9, hb9⟩, rfl⟩
          try dsimp only
          go_wp2
          go_ret
          exact ⟨ret_bool (hm.out.trans hf2.out).symm, bnext hB1 hb9⟩
        · have hx : (a.f1 == b.f1) = false := beq_eq_false_iff_ne.2 h1
          have dp0 : wr.cell? ⟨bp, op + k * 4, none⟩ = some (.int .i64 b.f0) := by have := hep 0 _ rfl; simpa [Nat.add_assoc, *] using this
          have dp1 : wr.cell? ⟨bp, op + k * 4 + 1, none⟩ = some (.int .i64 a.f1) := by have := hep 1 _ rfl; simpa [Nat.add_assoc, *] using this
          have dp2 : wr.cell? ⟨bp, op + k * 4 + 2, none⟩ = some (.int .i64 a.f2) := by have := hep 2 _ rfl; simpa [Nat.add_assoc, *] using this
          have dp3 : wr.cell? ⟨bp, op + k * 4 + 3, none⟩ = some (.int .i64 a.f3) := by have := hep 3 _ rfl; simpa [Nat.add_assoc, *] using this
          have dq0 : wr.cell? ⟨bq, oq + k * 4, none⟩ = some (.int .i64 b.f0) := by have := heq 0 _ rfl; simpa [Nat.add_assoc, *] using this
          have dq1 : wr.cell? ⟨bq, oq + k * 4 + 1, none⟩ = some (.int .i64 b.f1) := by have := heq 1 _ rfl; simpa [Nat.add_assoc, *] using this
          have dq2 : wr.cell? ⟨bq, oq + k * 4 + 2, none⟩ = some (.int .i64 b.f2) := by have := heq 2 _ rfl; simpa [Nat.add_assoc, *] using this
          have dq3 : wr.cell? ⟨bq, oq + k * 4 + 3, none⟩ = some (.int .i64 b.f3) := by have := heq 3 _ rfl; simpa [Nat.add_assoc, *] using this
          clear hep heq h0 h1 hab
          have hwp : bp < wr.heap.size := by have := hB1.size; omega
          have hwq : bq < wr.heap.size := by have := hB1.size; omega
          go_wp2_with fail
          refine wp_region_grew (by kernel_rfl) (by kernel_rfl) ?_
          repeat (first | (go_big_quiet_step (fail)) | (quiet_step (fail)))
          refine wpQuiet_nil ?_
          rintro _ ⟨⟨w9, hb9⟩, rfl⟩
          try dsimp only
          go_wp2
          go_ret
          exact ⟨ret_bool (hm.out.trans hf2.out).symm, bnext hB1 hb9⟩
        · have hx : (a.f2 == b.f2) = false := beq_eq_false_iff_ne.2 h2
          have dp0 : wr.cell? ⟨bp, op + k * 4, none⟩ = some (.int .i64 b.f0) := by have := hep 0 _ rfl; simpa [Nat.add_assoc, *] using this
          have dp1 : wr.cell? ⟨bp, op + k * 4 + 1, none⟩ = some (.int .i64 b.f1) := by have := hep 1 _ rfl; simpa [Nat.add_assoc, *] using this
          have dp2 : wr.cell? ⟨bp, op + k * 4 + 2, none⟩ = some (.int .i64 a.f2) := by have := hep 2 _ rfl; simpa [Nat.add_assoc, *] using this
          have dp3 : wr.cell? ⟨bp, op + k * 4 + 3, none⟩ = some (.int .i64 a.f3) := by have := hep 3 _ rfl; simpa [Nat.add_assoc, *] using this
          have dq0 : wr.cell? ⟨bq, oq + k * 4, none⟩ = some (.int .i64 b.f0) := by have := heq 0 _ rfl; simpa [Nat.add_assoc, *] using this
          have dq1 : wr.cell? ⟨bq, oq + k * 4 + 1, none⟩ = some (.int .i64 b.f1) := by have := heq 1 _ rfl; simpa [Nat.add_assoc, *] using this
          have dq2 : wr.cell? ⟨bq, oq + k * 4 + 2, none⟩ = some (.int .i64 b.f2) := by have := heq 2 _ rfl; simpa [Nat.add_assoc, *] using this
          have dq3 : wr.cell? ⟨bq, oq + k * 4 + 3, none⟩ = some (.int .i64 b.f3) := by have := heq 3 _ rfl; simpa [Nat.add_assoc, *] using this
          clear hep heq h0 h1 h2 hab
          have hwp : bp < wr.heap.size := by have := hB1.size; omega
          have hwq : bq < wr.heap.size := by have := hB1.size; omega
          go_wp2_with fail
          refine wp_region_grew (by kernel_rfl) (by kernel_rfl) ?_
          repeat (first | (go_big_quiet_step (fail)) | (quiet_step (fail)))
          refine wpQuiet_nil ?_
          rintro _ ⟨⟨w9, hb9⟩, rfl⟩
          try dsimp only
          go_wp2
          go_ret
          exact ⟨ret_bool (hm.out.trans hf2.out).symm, bnext hB1 hb9⟩
        · have hx : (a.f3 == b.f3) = false := beq_eq_false_iff_ne.2 h3
          have dp0 : wr.cell? ⟨bp, op + k * 4, none⟩ = some (.int .i64 b.f0) := by have := hep 0 _ rfl; simpa [Nat.add_assoc, *] using this
          have dp1 : wr.cell? ⟨bp, op + k * 4 + 1, none⟩ = some (.int .i64 b.f1) := by have := hep 1 _ rfl; simpa [Nat.add_assoc, *] using this
          have dp2 : wr.cell? ⟨bp, op + k * 4 + 2, none⟩ = some (.int .i64 b.f2) := by have := hep 2 _ rfl; simpa [Nat.add_assoc, *] using this
          have dp3 : wr.cell? ⟨bp, op + k * 4 + 3, none⟩ = some (.int .i64 a.f3) := by have := hep 3 _ rfl; simpa [Nat.add_assoc, *] using this
          have dq0 : wr.cell? ⟨bq, oq + k * 4, none⟩ = some (.int .i64 b.f0) := by have := heq 0 _ rfl; simpa [Nat.add_assoc, *] using this
          have dq1 : wr.cell? ⟨bq, oq + k * 4 + 1, none⟩ = some (.int .i64 b.f1) := by have := heq 1 _ rfl; simpa [Nat.add_assoc, *] using this
          have dq2 : wr.cell? ⟨bq, oq + k * 4 + 2, none⟩ = some (.int .i64 b.f2) := by have := heq 2 _ rfl; simpa [Nat.add_assoc, *] using this
          have dq3 : wr.cell? ⟨bq, oq + k * 4 + 3, none⟩ = some (.int .i64 b.f3) := by have := heq 3 _ rfl; simpa [Nat.add_assoc, *] using this
          clear hep heq h0 h1 h2 h3 hab
          have hwp : bp < wr.heap.size := by have := hB1.size; omega
          have hwq : bq < wr.heap.size := by have := hB1.size; omega
          go_wp2_with fail
          refine wp_region_grew (by kernel_rfl) (by kernel_rfl) ?_
          repeat (first | (go_big_quiet_step (fail)) | (quiet_step (fail)))
          refine wpQuiet_nil ?_
          rintro _ ⟨⟨w9, hb9⟩, rfl⟩
          try dsimp only
          go_wp2
          go_ret
          exact ⟨ret_bool (hm.out.trans hf2.out).symm, bnext hB1 hb9⟩
    · obtain rfl : k = L.length := by omega
      go_wp2
      go_ret
      exact ⟨ret_bool (hm.out.trans hv'.out).symm, by go_grown⟩
theorem impl_SameFaults (L M : List RFault) (A A2 : Option Addr) (c c2 B : Nat) (w : World) (hs : Sl w B A (flat RFault.cells L)) (hs2 : Sl w B A2 (flat RFault.cells M)) (hB : B ≤ w.heap.size) (hl : L.length ≤ 1048576) (hl2 : M.length ≤ 1048576) : Calls Try.prog 23 #[.slice A L.length c, .slice A2 M.length c2] w fun e w' => e = .returned (.bool (sameFaultM L M)) ∧ Below w.heap.size w w' := by
  go_enter Try.func23, Try.ntmps23
  go_wp2_with (go_at_call 68; refine (impl_sameFault L M _ _ _ _ B _ hs hs2 hB hl hl2).mono ?_; rintro e w1 ⟨rfl, hb1⟩)
  go_ret
  exact ⟨rfl, hb1⟩
end Go.Proofs.Ytdkhehcgioigpaa
