/-
  Contracts of lists of warnings: the copies that the laws make, their equality, their size: the program's and the reference's. Each under the conditions that it states.
-/
import Derived.Test.YtlolkngklfabfaaText1
import Derived.Test.YtlolkngklfabfaaRow
import Derived.Test.YtlolkngklfabfaaWarn
set_option linter.unusedVariables false
set_option linter.unnecessarySimpa false
set_option maxRecDepth 100000
set_option linter.unusedSimpArgs false
namespace Go.Proofs.Ytlolkngklfabfaa
open Go.RowKit BigFrame

structure RWarning where
  f0 : Int
  f1 : Int
  f2 : Int
  f3 : Int
  f4 : Int
  f5 : Int
  f6 : Int
  f7 : ByteArray
instance : Inhabited RWarning := ⟨⟨0, 0, 0, 0, 0, 0, 0, ⟨#[]⟩⟩⟩
def RWarning.cells (a : RWarning) : List Value := [.int .i64 a.f0, .int .i64 a.f1, .int .i64 a.f2, .int .i64 a.f3, .int .i64 a.f4, .int .i64 a.f5, .int .i64 a.f6, .string a.f7]
theorem RWarning.len (a : RWarning) : a.cells.length = 8 := rfl
def RWarning.ok (a : RWarning) : Prop := IntKind.i64.has a.f0 ∧ IntKind.i64.has a.f1 ∧ IntKind.i64.has a.f2 ∧ IntKind.i64.has a.f3 ∧ IntKind.i64.has a.f4 ∧ IntKind.i64.has a.f5 ∧ IntKind.i64.has a.f6 ∧ a.f7.size ≤ maxLen
def RWarning.same (a b : RWarning) : Bool := decide (a.f0 = b.f0) && (decide (a.f1 = b.f1) && (decide (a.f2 = b.f2) && (decide (a.f3 = b.f3) && (decide (a.f4 = b.f4) && (decide (a.f5 = b.f5) && (decide (a.f6 = b.f6) && (decide (a.f7 = b.f7))))))))
section
open Go.ChangeShapes Go.WideShapes Go.ChangeAt Go.Deep
theorem trod_Warning {H : Type} {enc : TypeId × Value → H} {w : World} {b : Nat} {spare : Nat → Bool} {held : Bool} {m : Nat} {c : List Value} {y : DataW H × List MemPlace} (h : DataW.trod enc Try.prog w b spare held m 110 c = some y) : ∃ a : RWarning, c = a.cells ∧ a.ok := by
  have hc : c.length = 8 := by
    obtain ⟨_, _, _, _, hl, _⟩ := DataW.trod_struct Try.underlying110 h
    exact hl.trans (by kernel_rfl)
  obtain ⟨c0, c1, c2, c3, c4, c5, c6, c7, rfl⟩ : ∃ c0 c1 c2 c3 c4 c5 c6 c7, c = [c0, c1, c2, c3, c4, c5, c6, c7] := by
    match c, hc with
    | [c0, c1, c2, c3, c4, c5, c6, c7], _ => exact ⟨c0, c1, c2, c3, c4, c5, c6, c7, rfl⟩
  obtain ⟨xsc0_c1_c2_c3_c4_c5_c6_c7, nc0_c1_c2_c3_c4_c5_c6_c7, _, _, _, hlc0_c1_c2_c3_c4_c5_c6_c7, hfc0_c1_c2_c3_c4_c5_c6_c7⟩ := DataW.trod_struct Try.underlying110 h
  have gc0_c1_c2_c3_c4_c5_c6_c7_0 := (hfc0_c1_c2_c3_c4_c5_c6_c7 0 _ rfl).trans (List.getElem?_eq_getElem (by rw [hlc0_c1_c2_c3_c4_c5_c6_c7]; decide))
  obtain ⟨zc0, ec0, _, qc0⟩ := DataW.trod_int Try.underlying2 (show DataW.trod enc Try.prog w b spare held nc0_c1_c2_c3_c4_c5_c6_c7 2 [c0] = _ from gc0_c1_c2_c3_c4_c5_c6_c7_0)
  have gc0_c1_c2_c3_c4_c5_c6_c7_1 := (hfc0_c1_c2_c3_c4_c5_c6_c7 1 _ rfl).trans (List.getElem?_eq_getElem (by rw [hlc0_c1_c2_c3_c4_c5_c6_c7]; decide))
  obtain ⟨zc1, ec1, _, qc1⟩ := DataW.trod_int Try.underlying2 (show DataW.trod enc Try.prog w b spare held nc0_c1_c2_c3_c4_c5_c6_c7 2 [c1] = _ from gc0_c1_c2_c3_c4_c5_c6_c7_1)
  have gc0_c1_c2_c3_c4_c5_c6_c7_2 := (hfc0_c1_c2_c3_c4_c5_c6_c7 2 _ rfl).trans (List.getElem?_eq_getElem (by rw [hlc0_c1_c2_c3_c4_c5_c6_c7]; decide))
  obtain ⟨zc2, ec2, _, qc2⟩ := DataW.trod_int Try.underlying2 (show DataW.trod enc Try.prog w b spare held nc0_c1_c2_c3_c4_c5_c6_c7 2 [c2] = _ from gc0_c1_c2_c3_c4_c5_c6_c7_2)
  have gc0_c1_c2_c3_c4_c5_c6_c7_3 := (hfc0_c1_c2_c3_c4_c5_c6_c7 3 _ rfl).trans (List.getElem?_eq_getElem (by rw [hlc0_c1_c2_c3_c4_c5_c6_c7]; decide))
  obtain ⟨zc3, ec3, _, qc3⟩ := DataW.trod_int Try.underlying2 (show DataW.trod enc Try.prog w b spare held nc0_c1_c2_c3_c4_c5_c6_c7 2 [c3] = _ from gc0_c1_c2_c3_c4_c5_c6_c7_3)
  have gc0_c1_c2_c3_c4_c5_c6_c7_4 := (hfc0_c1_c2_c3_c4_c5_c6_c7 4 _ rfl).trans (List.getElem?_eq_getElem (by rw [hlc0_c1_c2_c3_c4_c5_c6_c7]; decide))
  replace gc0_c1_c2_c3_c4_c5_c6_c7_4 := (show DataW.trod enc Try.prog w b spare held nc0_c1_c2_c3_c4_c5_c6_c7 33 [c4, c5] = _ from gc0_c1_c2_c3_c4_c5_c6_c7_4)
  obtain ⟨xsc4_c5, nc4_c5, _, _, _, hlc4_c5, hfc4_c5⟩ := DataW.trod_struct Try.underlying33 gc0_c1_c2_c3_c4_c5_c6_c7_4
  have gc4_c5_0 := (hfc4_c5 0 _ rfl).trans (List.getElem?_eq_getElem (by rw [hlc4_c5]; decide))
  obtain ⟨zc4, ec4, _, qc4⟩ := DataW.trod_int Try.underlying2 (show DataW.trod enc Try.prog w b spare held nc4_c5 2 [c4] = _ from gc4_c5_0)
  have gc4_c5_1 := (hfc4_c5 1 _ rfl).trans (List.getElem?_eq_getElem (by rw [hlc4_c5]; decide))
  obtain ⟨zc5, ec5, _, qc5⟩ := DataW.trod_int Try.underlying2 (show DataW.trod enc Try.prog w b spare held nc4_c5 2 [c5] = _ from gc4_c5_1)
  have gc0_c1_c2_c3_c4_c5_c6_c7_5 := (hfc0_c1_c2_c3_c4_c5_c6_c7 5 _ rfl).trans (List.getElem?_eq_getElem (by rw [hlc0_c1_c2_c3_c4_c5_c6_c7]; decide))
  obtain ⟨zc6, ec6, _, qc6⟩ := DataW.trod_int Try.underlying2 (show DataW.trod enc Try.prog w b spare held nc0_c1_c2_c3_c4_c5_c6_c7 2 [c6] = _ from gc0_c1_c2_c3_c4_c5_c6_c7_5)
  have gc0_c1_c2_c3_c4_c5_c6_c7_6 := (hfc0_c1_c2_c3_c4_c5_c6_c7 6 _ rfl).trans (List.getElem?_eq_getElem (by rw [hlc0_c1_c2_c3_c4_c5_c6_c7]; decide))
  obtain ⟨zc7, ec7, _, qc7⟩ := DataW.trod_string Try.underlying9 (show DataW.trod enc Try.prog w b spare held nc0_c1_c2_c3_c4_c5_c6_c7 9 [c7] = _ from gc0_c1_c2_c3_c4_c5_c6_c7_6)
  obtain rfl : c0 = _ := by simpa using ec0
  obtain rfl : c1 = _ := by simpa using ec1
  obtain rfl : c2 = _ := by simpa using ec2
  obtain rfl : c3 = _ := by simpa using ec3
  obtain rfl : c4 = _ := by simpa using ec4
  obtain rfl : c5 = _ := by simpa using ec5
  obtain rfl : c6 = _ := by simpa using ec6
  obtain rfl : c7 = _ := by simpa using ec7
  exact ⟨⟨zc0, zc1, zc2, zc3, zc4, zc5, zc6, zc7⟩, rfl, (by simpa [Lit.wf, IntKind.has] using qc0), (by simpa [Lit.wf, IntKind.has] using qc1), (by simpa [Lit.wf, IntKind.has] using qc2), (by simpa [Lit.wf, IntKind.has] using qc3), (by simpa [Lit.wf, IntKind.has] using qc4), (by simpa [Lit.wf, IntKind.has] using qc5), (by simpa [Lit.wf, IntKind.has] using qc6), qc7⟩
end
set_option maxHeartbeats 1600000 in
theorem eqWarning_same (f0 : Int) (f1 : Int) (f2 : Int) (f3 : Int) (f4 : Int) (f5 : Int) (f6 : Int) (f7 : ByteArray) (w : World) : Calls Try.prog 80 #[.agg #[.int .i64 f0, .int .i64 f1, .int .i64 f2, .int .i64 f3, .int .i64 f4, .int .i64 f5, .int .i64 f6, .string f7], .agg #[.int .i64 f0, .int .i64 f1, .int .i64 f2, .int .i64 f3, .int .i64 f4, .int .i64 f5, .int .i64 f6, .string f7]] w fun e w' => e = .returned (.bool true) ∧ Below w.heap.size w w' := by
  go_enter Try.func80, Try.ntmps80
  go_wp2
  all_goals (go_ret; exact ⟨rfl, by go_grown⟩)
def RWarning.szN (a : RWarning) : Nat := a.f7.size
theorem RWarning.okS {a : RWarning} (h : a.ok) : a.f7.size ≤ 9223372036854775807 := by
  simp only [RWarning.ok, maxLen, IntKind.max, IntKind.bits, IntKind.signed] at h
  simp at h
  omega
theorem szWarning_rec (a : RWarning) (ha : a.ok) (l : Int) (h1 : -1 ≤ l) (h2 : l ≤ 1048576) (w : World) : Calls Try.prog 71 #[.agg #[.int .i64 a.f0, .int .i64 a.f1, .int .i64 a.f2, .int .i64 a.f3, .int .i64 a.f4, .int .i64 a.f5, .int .i64 a.f6, .string a.f7], .int .i64 l] w fun e w' => e = .returned (.int .i64 (szR l a.szN)) ∧ Below w.heap.size w w' := by
  have hs := RWarning.okS ha
  by_cases h : l - (a.f7.size : Int) < 0
  · have hm : Hid (szR l a.szN = -1) := by apply Lib.hid; unfold szR RWarning.szN; rw [if_pos h]
    go_enter Try.func71, Try.ntmps71
    go_wp2
    go_ret
    exact ⟨ret_int hm.out.symm, by go_grown⟩
  · have hm : Hid (szR l a.szN = l - a.f7.size) := by apply Lib.hid; unfold szR RWarning.szN; rw [if_neg h]
    go_enter Try.func71, Try.ntmps71
    go_wp2
    go_ret
    exact ⟨ret_int hm.out.symm, by go_grown⟩
set_option maxHeartbeats 1600000 in
theorem szWarningS_rec (L : List RWarning) (A : Option Addr) (c B : Nat) (l : Int) (w : World) (hs : Sl w B A (flat RWarning.cells L)) (hB : B ≤ w.heap.size) (hok : ∀ a ∈ L, a.ok) (hn : L.length ≤ maxLen) (h1 : -1 ≤ l) (h2 : l ≤ 1048576) : Calls Try.prog 11 #[.slice A L.length c, .int .i64 l] w fun e w' => e = .returned (.int .i64 (szS RWarning.szN l L)) ∧ Below w.heap.size w w' := by
  have hn2 : L.length ≤ 9223372036854775807 := by simpa [maxLen, IntKind.max, IntKind.bits, IntKind.signed] using hn
  have hs' := Lib.hid hs
  have hok' := Lib.hid hok
  clear hs hok
  by_cases h : l - (L.length : Int) < 0
  · have hm : Hid (szS RWarning.szN l L = -1) := by apply Lib.hid; unfold szS; rw [if_pos h]
    go_enter Try.func11, Try.ntmps11
    go_wp2
    go_ret
    exact ⟨ret_int hm.out.symm, by go_grown⟩
  have hm : Hid (szS RWarning.szN l L = szAll RWarning.szN (l - L.length) L) := by apply Lib.hid; unfold szS; rw [if_neg h]
  go_enter Try.func11, Try.ntmps11
  go_wp2
  go_loopw [1, 5] (fun x i wr => ∃ (k : Nat) (z : Int), x = .int .i64 z ∧ i = .int .i64 k ∧ k ≤ L.length ∧ 0 ≤ z ∧ z ≤ 1048576 ∧ szAll RWarning.szN (l - L.length) L = szAll RWarning.szN z (L.drop k) ∧ Below w.heap.size w wr) (fun _ i _ => L.length - (intOf i).toNat)
  case atStart => exact ⟨0, _, rfl, rfl, Nat.zero_le _, by omega, by omega, rfl, Below.refl _ _⟩
  case round =>
    obtain ⟨k, z, rfl, rfl, hk, hz0, hz1, hv, hB1⟩ := hrel
    have hv' := Lib.hid hv
    clear hv
    by_cases hlt : k < L.length
    · obtain ⟨b, o, rfl, hb, he⟩ := Sl.elem RWarning.len (by decide) (hs'.out.below (hB1.mono hB)) hlt
      have d0 : wr.cell? ⟨b, o + k * 8, none⟩ = some (.int .i64 L[k].f0) := by have := he 0 _ rfl; simpa [Nat.add_assoc] using this
      have d1 : wr.cell? ⟨b, o + k * 8 + 1, none⟩ = some (.int .i64 L[k].f1) := by have := he 1 _ rfl; simpa [Nat.add_assoc] using this
      have d2 : wr.cell? ⟨b, o + k * 8 + 2, none⟩ = some (.int .i64 L[k].f2) := by have := he 2 _ rfl; simpa [Nat.add_assoc] using this
      have d3 : wr.cell? ⟨b, o + k * 8 + 3, none⟩ = some (.int .i64 L[k].f3) := by have := he 3 _ rfl; simpa [Nat.add_assoc] using this
      have d4 : wr.cell? ⟨b, o + k * 8 + 4, none⟩ = some (.int .i64 L[k].f4) := by have := he 4 _ rfl; simpa [Nat.add_assoc] using this
      have d5 : wr.cell? ⟨b, o + k * 8 + 5, none⟩ = some (.int .i64 L[k].f5) := by have := he 5 _ rfl; simpa [Nat.add_assoc] using this
      have d6 : wr.cell? ⟨b, o + k * 8 + 6, none⟩ = some (.int .i64 L[k].f6) := by have := he 6 _ rfl; simpa [Nat.add_assoc] using this
      have d7 : wr.cell? ⟨b, o + k * 8 + 7, none⟩ = some (.string L[k].f7) := by have := he 7 _ rfl; simpa [Nat.add_assoc] using this
      have ha := Lib.hid (hok'.out _ (List.getElem_mem hlt))
      have hd := Lib.hid (szAll_at (f := RWarning.szN) (l := z) hlt)
      clear he
      by_cases hq : szR z (L[k]).szN < 0
      · have hq2 := Lib.hid (szR_lt hq)
        go_wp2_with (go_at_call 71; refine (szWarning_rec L[k] ha.out z (by omega) hz1 _).mono ?_; rintro e w1 ⟨rfl, hb1⟩)
        go_ret
        exact ⟨ret_int (by rw [hm.out, hv'.out, hd.out, if_pos (by have := hq2.out.1; omega)]), bnext hB1 hb1⟩
      · have hq2 := Lib.hid (szR_ge hq)
        go_wp2_with (go_at_call 71; refine (szWarning_rec L[k] ha.out z (by omega) hz1 _).mono ?_; rintro e w1 ⟨rfl, hb1⟩)
        go_roundw
        case rel => exact ⟨k + 1, _, rfl, by go_num, by omega, by omega, by have := hq2.out; omega, by rw [hv'.out, hd.out, if_neg (by have := hq2.out.1; omega), hq2.out.2], bnext hB1 hb1⟩
        case measure => simp [intOf]; omega
    · obtain rfl : k = L.length := by omega
      have he : Hid (szS RWarning.szN l L = z) := by apply Lib.hid; rw [hm.out, hv'.out, List.drop_length]; rfl
      go_wp2
      go_ret
      exact ⟨ret_int he.out.symm, hB1⟩
set_option maxHeartbeats 1600000 in
theorem toWarningS_any (L : List RWarning) (A : Option Addr) (c B : Nat) (w : World) (hs : Sl w B A (flat RWarning.cells L)) (hB : B ≤ w.heap.size) (hl : L.length ≤ 1048576) : Calls Try.prog 13 #[.slice A L.length c] w (ToPost (flat RWarning.cells L) L.length w) := by
  have hmk : ∀ w : World, (Instr.makeSlice 24 (.int .i64 L.length) (.int .i64 L.length)).run Try.prog w = .ok (.slice (some ⟨w.heap.size, 0, none⟩) L.length L.length) (w.alloc (.cells (madeCells #[.int .i64 0, .int .i64 0, .int .i64 0, .int .i64 0, .int .i64 0, .int .i64 0, .int .i64 0, .string ⟨#[]⟩] (L.length * 8)) 113)) := fun w => made_row (by_ := 72) w Try.underlying24 (by kernel_rfl) (by kernel_rfl) L.length (by omega) (by omega)
  have hs' := Lib.hid hs
  clear hs
  go_enter Try.func13, Try.ntmps13
  go_wp2
  have hO : Own (w.alloc (.cells (madeCells #[.int .i64 0, .int .i64 0, .int .i64 0, .int .i64 0, .int .i64 0, .int .i64 0, .int .i64 0, .string ⟨#[]⟩] (L.length * 8)) 113)) w.heap.size 113 (L.length * 8) (flat RWarning.cells (L.take 0)) := own_made w _ _ _ _
  have hB0 : Below w.heap.size w (w.alloc (.cells (madeCells #[.int .i64 0, .int .i64 0, .int .i64 0, .int .i64 0, .int .i64 0, .int .i64 0, .int .i64 0, .string ⟨#[]⟩] (L.length * 8)) 113)) := by go_grown
  clear hmk
  go_loopw [4] (fun i wr => ∃ k : Nat, i = .int .i64 k ∧ k ≤ L.length ∧ Below w.heap.size w wr ∧ Own wr w.heap.size 113 (L.length * 8) (flat RWarning.cells (L.take k))) (fun i _ => L.length - (intOf i).toNat)
  case atStart => exact ⟨0, rfl, Nat.zero_le _, hB0, hO⟩
  case round =>
    clear hB0 hO
    obtain ⟨k, rfl, hk, hB1, hO⟩ := hrel
    by_cases hlt : k < L.length
    · obtain ⟨b, o, rfl, hb, he⟩ := Sl.elem RWarning.len (by decide) (hs'.out.below (hB1.mono hB)) hlt
      have d0 : wr.cell? ⟨b, o + k * 8, none⟩ = some (.int .i64 L[k].f0) := by have := he 0 _ rfl; simpa [Nat.add_assoc] using this
      have d1 : wr.cell? ⟨b, o + k * 8 + 1, none⟩ = some (.int .i64 L[k].f1) := by have := he 1 _ rfl; simpa [Nat.add_assoc] using this
      have d2 : wr.cell? ⟨b, o + k * 8 + 2, none⟩ = some (.int .i64 L[k].f2) := by have := he 2 _ rfl; simpa [Nat.add_assoc] using this
      have d3 : wr.cell? ⟨b, o + k * 8 + 3, none⟩ = some (.int .i64 L[k].f3) := by have := he 3 _ rfl; simpa [Nat.add_assoc] using this
      have d4 : wr.cell? ⟨b, o + k * 8 + 4, none⟩ = some (.int .i64 L[k].f4) := by have := he 4 _ rfl; simpa [Nat.add_assoc] using this
      have d5 : wr.cell? ⟨b, o + k * 8 + 5, none⟩ = some (.int .i64 L[k].f5) := by have := he 5 _ rfl; simpa [Nat.add_assoc] using this
      have d6 : wr.cell? ⟨b, o + k * 8 + 6, none⟩ = some (.int .i64 L[k].f6) := by have := he 6 _ rfl; simpa [Nat.add_assoc] using this
      have d7 : wr.cell? ⟨b, o + k * 8 + 7, none⟩ = some (.string L[k].f7) := by have := he 7 _ rfl; simpa [Nat.add_assoc] using this
      have hkn : k * 8 + 8 ≤ L.length * 8 := by have := Nat.mul_le_mul_right 8 (show k + 1 ≤ L.length by omega); omega
      have hlen : (flat RWarning.cells (L.take k)).length = k * 8 := by rw [flat_len RWarning.len, List.length_take, Nat.min_eq_left hk]
      have hstep : flat RWarning.cells (L.take (k + 1)) = flat RWarning.cells (L.take k) ++ [.int .i64 L[k].f0] ++ [.int .i64 L[k].f1] ++ [.int .i64 L[k].f2] ++ [.int .i64 L[k].f3] ++ [.int .i64 L[k].f4] ++ [.int .i64 L[k].f5] ++ [.int .i64 L[k].f6] ++ [.string L[k].f7] := by rw [List.take_succ_eq_append_getElem hlt, flat_snoc]; simp [RWarning.cells]
      have hstep := Lib.hid hstep
      clear he
      go_wp2_with (go_at_call 74; refine (toWarning_any _ _ _ _ _ _ _ _ _).mono ?_; rintro e w1 ⟨rfl, hb1⟩; (have hO1 := hO.on hb1); obtain ⟨y0, x0⟩ := hO1.cell (i := k * 8) (by omega); have v0 := hO1.frozen (k * 8); obtain ⟨y1, x1⟩ := hO1.cell (i := k * 8 + 1) (by omega); have v1 := hO1.frozen (k * 8 + 1); obtain ⟨y2, x2⟩ := hO1.cell (i := k * 8 + 2) (by omega); have v2 := hO1.frozen (k * 8 + 2); obtain ⟨y3, x3⟩ := hO1.cell (i := k * 8 + 3) (by omega); have v3 := hO1.frozen (k * 8 + 3); obtain ⟨y4, x4⟩ := hO1.cell (i := k * 8 + 4) (by omega); have v4 := hO1.frozen (k * 8 + 4); obtain ⟨y5, x5⟩ := hO1.cell (i := k * 8 + 5) (by omega); have v5 := hO1.frozen (k * 8 + 5); obtain ⟨y6, x6⟩ := hO1.cell (i := k * 8 + 6) (by omega); have v6 := hO1.frozen (k * 8 + 6); obtain ⟨y7, x7⟩ := hO1.cell (i := k * 8 + 7) (by omega); have v7 := hO1.frozen (k * 8 + 7))
      go_roundw
      case rel => exact ⟨k + 1, by go_num, by omega, by have := bnext hB1 hb1; go_grown, by rw [hstep.out]; exact (Own.set (Own.set (Own.set (Own.set (Own.set (Own.set (Own.set (Own.set hO1 (by simp [hlen]) (by omega) _) (by simp [hlen]) (by omega) _) (by simp [hlen]) (by omega) _) (by simp [hlen]) (by omega) _) (by simp [hlen]) (by omega) _) (by simp [hlen]) (by omega) _) (by simp [hlen]) (by omega) _) (by simp [hlen]) (by omega) _)⟩
      case measure => simp [intOf]; omega
    · obtain rfl : k = L.length := by omega
      have hO2 : Own wr w.heap.size 113 (L.length * 8) (flat RWarning.cells L) := by rw [List.take_length] at hO; exact hO
      go_wp2
      go_ret
      exact ⟨rfl, hB1, hO2.lt, hO2.sl⟩
set_option maxHeartbeats 1600000 in
theorem eqWarningS_same (L : List RWarning) (A A2 : Option Addr) (c c2 B : Nat) (w : World) (hs : Sl w B A (flat RWarning.cells L)) (hs2 : Sl w B A2 (flat RWarning.cells L)) (hB : B ≤ w.heap.size) (hl : L.length ≤ 1048576) : Calls Try.prog 15 #[.slice A L.length c, .slice A2 L.length c2] w fun e w' => e = .returned (.bool true) ∧ Below w.heap.size w w' := by
  have hs' := Lib.hid hs
  have hs2' := Lib.hid hs2
  clear hs hs2
  go_enter Try.func15, Try.ntmps15
  go_wp2
  go_loopw [5] (fun i wr => ∃ k : Nat, i = .int .i64 k ∧ k ≤ L.length ∧ Below w.heap.size w wr) (fun i _ => L.length - (intOf i).toNat)
  case atStart => exact ⟨0, rfl, Nat.zero_le _, Below.refl _ _⟩
  case round =>
    obtain ⟨k, rfl, hk, hB1⟩ := hrel
    have hS1 := hB1.size
    by_cases hlt : k < L.length
    · obtain ⟨bp, op, rfl, hbp, hep⟩ := Sl.elem RWarning.len (by decide) (hs'.out.below (hB1.mono hB)) hlt
      have dp0 : wr.cell? ⟨bp, op + k * 8, none⟩ = some (.int .i64 L[k].f0) := by have := hep 0 _ rfl; simpa [Nat.add_assoc] using this
      have dp1 : wr.cell? ⟨bp, op + k * 8 + 1, none⟩ = some (.int .i64 L[k].f1) := by have := hep 1 _ rfl; simpa [Nat.add_assoc] using this
      have dp2 : wr.cell? ⟨bp, op + k * 8 + 2, none⟩ = some (.int .i64 L[k].f2) := by have := hep 2 _ rfl; simpa [Nat.add_assoc] using this
      have dp3 : wr.cell? ⟨bp, op + k * 8 + 3, none⟩ = some (.int .i64 L[k].f3) := by have := hep 3 _ rfl; simpa [Nat.add_assoc] using this
      have dp4 : wr.cell? ⟨bp, op + k * 8 + 4, none⟩ = some (.int .i64 L[k].f4) := by have := hep 4 _ rfl; simpa [Nat.add_assoc] using this
      have dp5 : wr.cell? ⟨bp, op + k * 8 + 5, none⟩ = some (.int .i64 L[k].f5) := by have := hep 5 _ rfl; simpa [Nat.add_assoc] using this
      have dp6 : wr.cell? ⟨bp, op + k * 8 + 6, none⟩ = some (.int .i64 L[k].f6) := by have := hep 6 _ rfl; simpa [Nat.add_assoc] using this
      have dp7 : wr.cell? ⟨bp, op + k * 8 + 7, none⟩ = some (.string L[k].f7) := by have := hep 7 _ rfl; simpa [Nat.add_assoc] using this
      have hwp : bp < wr.heap.size := by omega
      obtain ⟨bq, oq, rfl, hbq, heq⟩ := Sl.elem RWarning.len (by decide) (hs2'.out.below (hB1.mono hB)) hlt
      have dq0 : wr.cell? ⟨bq, oq + k * 8, none⟩ = some (.int .i64 L[k].f0) := by have := heq 0 _ rfl; simpa [Nat.add_assoc] using this
      have dq1 : wr.cell? ⟨bq, oq + k * 8 + 1, none⟩ = some (.int .i64 L[k].f1) := by have := heq 1 _ rfl; simpa [Nat.add_assoc] using this
      have dq2 : wr.cell? ⟨bq, oq + k * 8 + 2, none⟩ = some (.int .i64 L[k].f2) := by have := heq 2 _ rfl; simpa [Nat.add_assoc] using this
      have dq3 : wr.cell? ⟨bq, oq + k * 8 + 3, none⟩ = some (.int .i64 L[k].f3) := by have := heq 3 _ rfl; simpa [Nat.add_assoc] using this
      have dq4 : wr.cell? ⟨bq, oq + k * 8 + 4, none⟩ = some (.int .i64 L[k].f4) := by have := heq 4 _ rfl; simpa [Nat.add_assoc] using this
      have dq5 : wr.cell? ⟨bq, oq + k * 8 + 5, none⟩ = some (.int .i64 L[k].f5) := by have := heq 5 _ rfl; simpa [Nat.add_assoc] using this
      have dq6 : wr.cell? ⟨bq, oq + k * 8 + 6, none⟩ = some (.int .i64 L[k].f6) := by have := heq 6 _ rfl; simpa [Nat.add_assoc] using this
      have dq7 : wr.cell? ⟨bq, oq + k * 8 + 7, none⟩ = some (.string L[k].f7) := by have := heq 7 _ rfl; simpa [Nat.add_assoc] using this
      have hwq : bq < wr.heap.size := by omega
      clear hep heq
      go_wp2_with fail
      refine wp_region_grew (by kernel_rfl) (by kernel_rfl) ?_
      repeat (first | (go_big_quiet_step ((go_at_call 80; exact grew_of (eqWarning_same _ _ _ _ _ _ _ _ _)))) | (quiet_step ((go_at_call 80; exact grew_of (eqWarning_same _ _ _ _ _ _ _ _ _)))))
      refine wpQuiet_nil ?_
      rintro _ ⟨⟨w9, hb9⟩, rfl⟩
      try dsimp only
      go_wp2
      go_roundw
      case rel => exact ⟨k + 1, by go_num, by omega, bnext hB1 hb9⟩
      case measure => simp [intOf]; omega
    · obtain rfl : k = L.length := by omega
      go_wp2
      go_ret
      exact ⟨rfl, hB1⟩
def sameWarningM (L M : List RWarning) : Bool := decide (L.length = M.length) && allTo (fun k => (L.getD k default).same (M.getD k default)) L.length
theorem RWarning.diff {a b : RWarning} (h : ¬ a = b) : (¬ a.f0 = b.f0) ∨ (a.f0 = b.f0 ∧ ¬ a.f1 = b.f1) ∨ (a.f0 = b.f0 ∧ a.f1 = b.f1 ∧ ¬ a.f2 = b.f2) ∨ (a.f0 = b.f0 ∧ a.f1 = b.f1 ∧ a.f2 = b.f2 ∧ ¬ a.f3 = b.f3) ∨ (a.f0 = b.f0 ∧ a.f1 = b.f1 ∧ a.f2 = b.f2 ∧ a.f3 = b.f3 ∧ ¬ a.f4 = b.f4) ∨ (a.f0 = b.f0 ∧ a.f1 = b.f1 ∧ a.f2 = b.f2 ∧ a.f3 = b.f3 ∧ a.f4 = b.f4 ∧ ¬ a.f5 = b.f5) ∨ (a.f0 = b.f0 ∧ a.f1 = b.f1 ∧ a.f2 = b.f2 ∧ a.f3 = b.f3 ∧ a.f4 = b.f4 ∧ a.f5 = b.f5 ∧ ¬ a.f6 = b.f6) ∨ (a.f0 = b.f0 ∧ a.f1 = b.f1 ∧ a.f2 = b.f2 ∧ a.f3 = b.f3 ∧ a.f4 = b.f4 ∧ a.f5 = b.f5 ∧ a.f6 = b.f6 ∧ ¬ a.f7 = b.f7) := by
  rcases a with ⟨a0, a1, a2, a3, a4, a5, a6, a7⟩
  rcases b with ⟨b0, b1, b2, b3, b4, b5, b6, b7⟩
  simp only [RWarning.mk.injEq] at h
  dsimp only
  by_cases h0 : a0 = b0
  rotate_left
  · exact Or.inl h0
  by_cases h1 : a1 = b1
  rotate_left
  · exact Or.inr (Or.inl ⟨h0, h1⟩)
  by_cases h2 : a2 = b2
  rotate_left
  · exact Or.inr (Or.inr (Or.inl ⟨h0, h1, h2⟩))
  by_cases h3 : a3 = b3
  rotate_left
  · exact Or.inr (Or.inr (Or.inr (Or.inl ⟨h0, h1, h2, h3⟩)))
  by_cases h4 : a4 = b4
  rotate_left
  · exact Or.inr (Or.inr (Or.inr (Or.inr (Or.inl ⟨h0, h1, h2, h3, h4⟩))))
  by_cases h5 : a5 = b5
  rotate_left
  · exact Or.inr (Or.inr (Or.inr (Or.inr (Or.inr (Or.inl ⟨h0, h1, h2, h3, h4, h5⟩)))))
  by_cases h6 : a6 = b6
  rotate_left
  · exact Or.inr (Or.inr (Or.inr (Or.inr (Or.inr (Or.inr (Or.inl ⟨h0, h1, h2, h3, h4, h5, h6⟩))))))
  exact Or.inr (Or.inr (Or.inr (Or.inr (Or.inr (Or.inr (Or.inr (⟨h0, h1, h2, h3, h4, h5, h6, fun e => h ⟨h0, h1, h2, h3, h4, h5, h6, e⟩⟩)))))))
theorem RWarning.same_yes (a : RWarning) : a.same a = true := by simp [RWarning.same]
theorem RWarning.same_no {a b : RWarning} (h : ¬ a = b) : a.same b = false := by
  rcases RWarning.diff h with h | h | h | h | h | h | h | h
  all_goals simp [RWarning.same, h]
end Go.Proofs.Ytlolkngklfabfaa
