/-
  Contracts of rows of phases: the copies that the laws make, their equality, their size; what a color is: the program's and the reference's. Each under the conditions that it states.
-/
import Derived.Test.YtpnffdkkmibchaaText1
import Derived.Test.YtpnffdkkmibchaaRow
import Derived.Lib.Strings
import Derived.Lib.Walk
import Derived.Lib.Bytealg
set_option linter.unusedVariables false
set_option linter.unnecessarySimpa false
set_option maxRecDepth 100000
set_option linter.unusedSimpArgs false
namespace Go.Proofs.Ytpnffdkkmibchaa
open Go.RowKit BigFrame

structure RPhase where
  f0 : ByteArray
  f1 : Int
instance : Inhabited RPhase := ⟨⟨⟨#[]⟩, 0⟩⟩
def RPhase.cells (a : RPhase) : List Value := [.string a.f0, .int .i64 a.f1]
theorem RPhase.len (a : RPhase) : a.cells.length = 2 := rfl
def RPhase.ok (a : RPhase) : Prop := a.f0.size ≤ maxLen ∧ IntKind.i64.has a.f1
def RPhase.same (a b : RPhase) : Bool := decide (a.f0 = b.f0) && (decide (a.f1 = b.f1))
section
open Go.ChangeShapes Go.WideShapes Go.ChangeAt Go.Deep
theorem trod_Phase {H : Type} {enc : TypeId × Value → H} {w : World} {b : Nat} {spare : Nat → Bool} {held : Bool} {m : Nat} {c : List Value} {y : DataW H × List MemPlace} (h : DataW.trod enc Try.prog w b spare held m 31 c = some y) : ∃ a : RPhase, c = a.cells ∧ a.ok := by
  have hc : c.length = 2 := by
    obtain ⟨_, _, _, _, hl, _⟩ := DataW.trod_struct Try.underlying31 h
    exact hl.trans (by kernel_rfl)
  obtain ⟨c0, c1, rfl⟩ : ∃ c0 c1, c = [c0, c1] := by
    match c, hc with
    | [c0, c1], _ => exact ⟨c0, c1, rfl⟩
  obtain ⟨xsc0_c1, nc0_c1, _, _, _, hlc0_c1, hfc0_c1⟩ := DataW.trod_struct Try.underlying31 h
  have gc0_c1_0 := (hfc0_c1 0 _ rfl).trans (List.getElem?_eq_getElem (by rw [hlc0_c1]; decide))
  obtain ⟨zc0, ec0, _, qc0⟩ := DataW.trod_string Try.underlying9 (show DataW.trod enc Try.prog w b spare held nc0_c1 9 [c0] = _ from gc0_c1_0)
  have gc0_c1_1 := (hfc0_c1 1 _ rfl).trans (List.getElem?_eq_getElem (by rw [hlc0_c1]; decide))
  obtain ⟨zc1, ec1, _, qc1⟩ := DataW.trod_int Try.underlying2 (show DataW.trod enc Try.prog w b spare held nc0_c1 2 [c1] = _ from gc0_c1_1)
  obtain rfl : c0 = _ := by simpa using ec0
  obtain rfl : c1 = _ := by simpa using ec1
  exact ⟨⟨zc0, zc1⟩, rfl, qc0, (by simpa [Lit.wf, IntKind.has] using qc1)⟩
end
set_option maxHeartbeats 1600000 in
theorem toPhase_any (f0 : ByteArray) (f1 : Int) (w : World) : Calls Try.prog 13 #[.agg #[.string f0, .int .i64 f1]] w fun e w' => e = .returned (.agg #[.string f0, .int .i64 f1]) ∧ Below w.heap.size w w' := by
  go_enter Try.func13, Try.ntmps13
  go_wp2
  go_returns
  exact ⟨rfl, by go_grown⟩
set_option maxHeartbeats 1600000 in
theorem eqPhase_same (f0 : ByteArray) (f1 : Int) (w : World) : Calls Try.prog 17 #[.agg #[.string f0, .int .i64 f1], .agg #[.string f0, .int .i64 f1]] w fun e w' => e = .returned (.bool true) ∧ Below w.heap.size w w' := by
  go_enter Try.func17, Try.ntmps17
  go_wp2
  all_goals (go_ret; exact ⟨rfl, by go_grown⟩)
def RPhase.szN (a : RPhase) : Nat := a.f0.size
theorem RPhase.okS {a : RPhase} (h : a.ok) : a.f0.size ≤ 9223372036854775807 := by
  simp only [RPhase.ok, maxLen, IntKind.max, IntKind.bits, IntKind.signed] at h
  simp at h
  omega
theorem szPhase_rec (a : RPhase) (ha : a.ok) (l : Int) (h1 : -1 ≤ l) (h2 : l ≤ 1048576) (w : World) : Calls Try.prog 9 #[.agg #[.string a.f0, .int .i64 a.f1], .int .i64 l] w fun e w' => e = .returned (.int .i64 (szR l a.szN)) ∧ Below w.heap.size w w' := by
  have hs := RPhase.okS ha
  by_cases h : l - (a.f0.size : Int) < 0
  · have hm : Hid (szR l a.szN = -1) := by apply Lib.hid; unfold szR RPhase.szN; rw [if_pos h]
    go_enter Try.func9, Try.ntmps9
    go_wp2
    go_ret
    exact ⟨ret_int hm.out.symm, by go_grown⟩
  · have hm : Hid (szR l a.szN = l - a.f0.size) := by apply Lib.hid; unfold szR RPhase.szN; rw [if_neg h]
    go_enter Try.func9, Try.ntmps9
    go_wp2
    go_ret
    exact ⟨ret_int hm.out.symm, by go_grown⟩
set_option maxHeartbeats 1600000 in
theorem szPhaseS_rec (L : List RPhase) (A : Option Addr) (c B : Nat) (l : Int) (w : World) (hs : Sl w B A (flat RPhase.cells L)) (hB : B ≤ w.heap.size) (hok : ∀ a ∈ L, a.ok) (hn : L.length ≤ maxLen) (h1 : -1 ≤ l) (h2 : l ≤ 1048576) : Calls Try.prog 4 #[.slice A L.length c, .int .i64 l] w fun e w' => e = .returned (.int .i64 (szS RPhase.szN l L)) ∧ Below w.heap.size w w' := by
  have hn2 : L.length ≤ 9223372036854775807 := by simpa [maxLen, IntKind.max, IntKind.bits, IntKind.signed] using hn
  have hs' := Lib.hid hs
  have hok' := Lib.hid hok
  clear hs hok
  by_cases h : l - (L.length : Int) < 0
  · have hm : Hid (szS RPhase.szN l L = -1) := by apply Lib.hid; unfold szS; rw [if_pos h]
    go_enter Try.func4, Try.ntmps4
    go_wp2
    go_ret
    exact ⟨ret_int hm.out.symm, by go_grown⟩
  have hm : Hid (szS RPhase.szN l L = szAll RPhase.szN (l - L.length) L) := by apply Lib.hid; unfold szS; rw [if_neg h]
  go_enter Try.func4, Try.ntmps4
  go_wp2
  go_loopw [1, 5] (fun x i wr => ∃ (k : Nat) (z : Int), x = .int .i64 z ∧ i = .int .i64 k ∧ k ≤ L.length ∧ 0 ≤ z ∧ z ≤ 1048576 ∧ szAll RPhase.szN (l - L.length) L = szAll RPhase.szN z (L.drop k) ∧ Below w.heap.size w wr) (fun _ i _ => L.length - (intOf i).toNat)
  case atStart => exact ⟨0, _, rfl, rfl, Nat.zero_le _, by omega, by omega, rfl, Below.refl _ _⟩
  case round =>
    obtain ⟨k, z, rfl, rfl, hk, hz0, hz1, hv, hB1⟩ := hrel
    have hv' := Lib.hid hv
    clear hv
    by_cases hlt : k < L.length
    · obtain ⟨b, o, rfl, hb, he⟩ := Sl.elem RPhase.len (by decide) (hs'.out.below (hB1.mono hB)) hlt
      have d0 : wr.cell? ⟨b, o + k * 2, none⟩ = some (.string L[k].f0) := by have := he 0 _ rfl; simpa [Nat.add_assoc] using this
      have d1 : wr.cell? ⟨b, o + k * 2 + 1, none⟩ = some (.int .i64 L[k].f1) := by have := he 1 _ rfl; simpa [Nat.add_assoc] using this
      have ha := Lib.hid (hok'.out _ (List.getElem_mem hlt))
      have hd := Lib.hid (szAll_at (f := RPhase.szN) (l := z) hlt)
      clear he
      by_cases hq : szR z (L[k]).szN < 0
      · have hq2 := Lib.hid (szR_lt hq)
        go_wp2_with (go_at_call 9; refine (szPhase_rec L[k] ha.out z (by omega) hz1 _).mono ?_; rintro e w1 ⟨rfl, hb1⟩)
        go_ret
        exact ⟨ret_int (by rw [hm.out, hv'.out, hd.out, if_pos (by have := hq2.out.1; omega)]), bnext hB1 hb1⟩
      · have hq2 := Lib.hid (szR_ge hq)
        go_wp2_with (go_at_call 9; refine (szPhase_rec L[k] ha.out z (by omega) hz1 _).mono ?_; rintro e w1 ⟨rfl, hb1⟩)
        go_roundw
        case rel => exact ⟨k + 1, _, rfl, by go_num, by omega, by omega, by have := hq2.out; omega, by rw [hv'.out, hd.out, if_neg (by have := hq2.out.1; omega), hq2.out.2], bnext hB1 hb1⟩
        case measure => simp [intOf]; omega
    · obtain rfl : k = L.length := by omega
      have he : Hid (szS RPhase.szN l L = z) := by apply Lib.hid; rw [hm.out, hv'.out, List.drop_length]; rfl
      go_wp2
      go_ret
      exact ⟨ret_int he.out.symm, hB1⟩
set_option maxHeartbeats 1600000 in
theorem toPhaseS_any (L : List RPhase) (A : Option Addr) (c B : Nat) (w : World) (hs : Sl w B A (flat RPhase.cells L)) (hB : B ≤ w.heap.size) (hl : L.length ≤ 1048576) : Calls Try.prog 6 #[.slice A L.length c] w (ToPost (flat RPhase.cells L) L.length w) := by
  have hmk : ∀ w : World, (Instr.makeSlice 25 (.int .i64 L.length) (.int .i64 L.length)).run Try.prog w = .ok (.slice (some ⟨w.heap.size, 0, none⟩) L.length L.length) (w.alloc (.cells (madeCells #[.string ⟨#[]⟩, .int .i64 0] (L.length * 2)) 34)) := fun w => made_row (by_ := 24) w Try.underlying25 (by kernel_rfl) (by kernel_rfl) L.length (by omega) (by omega)
  have hs' := Lib.hid hs
  clear hs
  go_enter Try.func6, Try.ntmps6
  go_wp2
  have hO : Own (w.alloc (.cells (madeCells #[.string ⟨#[]⟩, .int .i64 0] (L.length * 2)) 34)) w.heap.size 34 (L.length * 2) (flat RPhase.cells (L.take 0)) := own_made w _ _ _ _
  have hB0 : Below w.heap.size w (w.alloc (.cells (madeCells #[.string ⟨#[]⟩, .int .i64 0] (L.length * 2)) 34)) := by go_grown
  clear hmk
  go_loopw [4] (fun i wr => ∃ k : Nat, i = .int .i64 k ∧ k ≤ L.length ∧ Below w.heap.size w wr ∧ Own wr w.heap.size 34 (L.length * 2) (flat RPhase.cells (L.take k))) (fun i _ => L.length - (intOf i).toNat)
  case atStart => exact ⟨0, rfl, Nat.zero_le _, hB0, hO⟩
  case round =>
    clear hB0 hO
    obtain ⟨k, rfl, hk, hB1, hO⟩ := hrel
    by_cases hlt : k < L.length
    · obtain ⟨b, o, rfl, hb, he⟩ := Sl.elem RPhase.len (by decide) (hs'.out.below (hB1.mono hB)) hlt
      have d0 : wr.cell? ⟨b, o + k * 2, none⟩ = some (.string L[k].f0) := by have := he 0 _ rfl; simpa [Nat.add_assoc] using this
      have d1 : wr.cell? ⟨b, o + k * 2 + 1, none⟩ = some (.int .i64 L[k].f1) := by have := he 1 _ rfl; simpa [Nat.add_assoc] using this
      have hkn : k * 2 + 2 ≤ L.length * 2 := by have := Nat.mul_le_mul_right 2 (show k + 1 ≤ L.length by omega); omega
      have hlen : (flat RPhase.cells (L.take k)).length = k * 2 := by rw [flat_len RPhase.len, List.length_take, Nat.min_eq_left hk]
      have hstep : flat RPhase.cells (L.take (k + 1)) = flat RPhase.cells (L.take k) ++ [.string L[k].f0] ++ [.int .i64 L[k].f1] := by rw [List.take_succ_eq_append_getElem hlt, flat_snoc]; simp [RPhase.cells]
      have hstep := Lib.hid hstep
      clear he
      go_wp2_with (go_at_call 13; refine (toPhase_any _ _ _).mono ?_; rintro e w1 ⟨rfl, hb1⟩; (have hO1 := hO.on hb1); obtain ⟨y0, x0⟩ := hO1.cell (i := k * 2) (by omega); have v0 := hO1.frozen (k * 2); obtain ⟨y1, x1⟩ := hO1.cell (i := k * 2 + 1) (by omega); have v1 := hO1.frozen (k * 2 + 1))
      go_roundw
      case rel => exact ⟨k + 1, by go_num, by omega, by have := bnext hB1 hb1; go_grown, by rw [hstep.out]; exact (Own.set (Own.set hO1 (by simp [hlen]) (by omega) _) (by simp [hlen]) (by omega) _)⟩
      case measure => simp [intOf]; omega
    · obtain rfl : k = L.length := by omega
      have hO2 : Own wr w.heap.size 34 (L.length * 2) (flat RPhase.cells L) := by rw [List.take_length] at hO; exact hO
      go_wp2
      go_ret
      exact ⟨rfl, hB1, hO2.lt, hO2.sl⟩
set_option maxHeartbeats 1600000 in
theorem eqPhaseS_same (L : List RPhase) (A A2 : Option Addr) (c c2 B : Nat) (w : World) (hs : Sl w B A (flat RPhase.cells L)) (hs2 : Sl w B A2 (flat RPhase.cells L)) (hB : B ≤ w.heap.size) (hl : L.length ≤ 1048576) : Calls Try.prog 8 #[.slice A L.length c, .slice A2 L.length c2] w fun e w' => e = .returned (.bool true) ∧ Below w.heap.size w w' := by
  have hs' := Lib.hid hs
  have hs2' := Lib.hid hs2
  clear hs hs2
  go_enter Try.func8, Try.ntmps8
  go_wp2
  go_loopw [5] (fun i wr => ∃ k : Nat, i = .int .i64 k ∧ k ≤ L.length ∧ Below w.heap.size w wr) (fun i _ => L.length - (intOf i).toNat)
  case atStart => exact ⟨0, rfl, Nat.zero_le _, Below.refl _ _⟩
  case round =>
    obtain ⟨k, rfl, hk, hB1⟩ := hrel
    have hS1 := hB1.size
    by_cases hlt : k < L.length
    · obtain ⟨bp, op, rfl, hbp, hep⟩ := Sl.elem RPhase.len (by decide) (hs'.out.below (hB1.mono hB)) hlt
      have dp0 : wr.cell? ⟨bp, op + k * 2, none⟩ = some (.string L[k].f0) := by have := hep 0 _ rfl; simpa [Nat.add_assoc] using this
      have dp1 : wr.cell? ⟨bp, op + k * 2 + 1, none⟩ = some (.int .i64 L[k].f1) := by have := hep 1 _ rfl; simpa [Nat.add_assoc] using this
      have hwp : bp < wr.heap.size := by omega
      obtain ⟨bq, oq, rfl, hbq, heq⟩ := Sl.elem RPhase.len (by decide) (hs2'.out.below (hB1.mono hB)) hlt
      have dq0 : wr.cell? ⟨bq, oq + k * 2, none⟩ = some (.string L[k].f0) := by have := heq 0 _ rfl; simpa [Nat.add_assoc] using this
      have dq1 : wr.cell? ⟨bq, oq + k * 2 + 1, none⟩ = some (.int .i64 L[k].f1) := by have := heq 1 _ rfl; simpa [Nat.add_assoc] using this
      have hwq : bq < wr.heap.size := by omega
      clear hep heq
      go_wp2_with fail
      refine wp_region_grew (by kernel_rfl) (by kernel_rfl) ?_
      repeat (first | (go_big_quiet_step ((go_at_call 17; exact grew_of (eqPhase_same _ _ _)))) | (quiet_step ((go_at_call 17; exact grew_of (eqPhase_same _ _ _)))))
      refine wpQuiet_nil ?_
      rintro _ ⟨⟨w9, hb9⟩, rfl⟩
      try dsimp only
      go_wp2
      go_roundw
      case rel => exact ⟨k + 1, by go_num, by omega, bnext hB1 hb9⟩
      case measure => simp [intOf]; omega
    · obtain rfl : k = L.length := by omega
      go_wp2
      go_ret
      exact ⟨rfl, hB1⟩
set_option maxHeartbeats 1000000 in
theorem lib_indexByte (s : ByteArray) (c : Int) (w : World) : Calls Try.prog 49 #[.string s, .int .u8 c] w fun e w' => e = .returned (.int .i64 (Lib.indexByte s.data.toList c.toNat.toUInt8)) ∧ w' = w := by
  go_enter Try.func49, Try.ntmps49
  go_wp2
  rw [run_callFunc_extern Try.func53 (by kernel_rfl) (by kernel_rfl) (by kernel_rfl) (e := Extern.BytealgIndexByte.indexByte) (by kernel_rfl), Lib.run_indexByteString]
  simp only [Result.andThen]
  rw [Oper.upon_value]
  go_wp2
  go_ret
  exact ⟨rfl, rfl⟩

set_option maxHeartbeats 2000000 in
theorem lib_index_one (s : ByteArray) (c : UInt8) (w : World) : Calls Try.prog 46 #[.string s, .string ⟨#[c]⟩] w fun e w' => e = .returned (.int .i64 (Lib.indexByte s.data.toList c)) ∧ w' = w := by
  go_enter Try.func46, Try.ntmps46
  go_wp2_with (go_at_call 49; refine (lib_indexByte _ _ _).mono ?_; rintro e w' ⟨rfl, rfl⟩)
  · have h : ([c] == s.toList) = true := by assumption
    go_ret
    refine ⟨?_, rfl⟩
    have e : s.data.toList = [c] := by rw [← Lib.toList_data]; exact (beq_iff_eq.1 h).symm
    rw [e]
    simp [Lib.indexByte]
  · go_ret
    exact ⟨rfl, rfl⟩

theorem lib_strings_index (s : ByteArray) (c : UInt8) (w : World) : Calls Try.prog 41 #[.string s, .string ⟨#[c]⟩] w fun e w' => e = .returned (.int .i64 (Lib.indexByte s.data.toList c)) ∧ w' = w := by
  go_enter Try.func41, Try.ntmps41
  go_wp2_with (go_at_call 46; refine (lib_index_one _ _ _).mono ?_; rintro e w' ⟨rfl, rfl⟩)
  go_ret
  exact ⟨rfl, rfl⟩

theorem lib_contains (s : ByteArray) (c : UInt8) (w : World) : Calls Try.prog 32 #[.string s, .string ⟨#[c]⟩] w fun e w' => e = .returned (.bool (decide (0 ≤ Lib.indexByte s.data.toList c))) ∧ w' = w := by
  go_enter Try.func32, Try.ntmps32
  go_wp2_with (go_at_call 41; refine (lib_strings_index _ _ _).mono ?_; rintro e w' ⟨rfl, rfl⟩)
  go_ret
  exact ⟨rfl, rfl⟩

def colorM (s : ByteArray) : Bool := s.toList == [87] || (s.toList == [82] || (s.toList == [71] || s.toList == [89]))
theorem color_one (c : UInt8) : decide (0 ≤ Lib.indexByte [87, 82, 71, 89] c) = colorM ⟨#[c]⟩ := by
  have e : (⟨#[c]⟩ : ByteArray).toList = [c] := by rw [ByteArray.toList_eq]
  unfold colorM
  rw [e]
  by_cases h1 : c = 87
  · subst h1; decide
  by_cases h2 : c = 82
  · subst h2; decide
  by_cases h3 : c = 71
  · subst h3; decide
  by_cases h4 : c = 89
  · subst h4; decide
  simp [Lib.indexByte, h1, h2, h3, h4, Ne.symm h1, Ne.symm h2, Ne.symm h3, Ne.symm h4]
theorem color_long {s : ByteArray} (h : ¬ s.size = 1) : colorM s = false := by
  have hl : s.toList.length = s.size := by rw [ByteArray.toList_eq]; rfl
  have key : ∀ b : UInt8, (s.toList == [b]) = false := fun b => beq_eq_false_iff_ne.2 fun e => by rw [e] at hl; simp at hl; omega
  unfold colorM
  rw [key, key, key, key]; rfl
theorem impl_isColor (s : ByteArray) (hs : s.size ≤ maxLen) (w : World) : Calls Try.prog 22 #[.string s] w fun e w' => e = .returned (.bool (colorM s)) ∧ w = w' := by
  have hs2 : s.size ≤ 9223372036854775807 := by simpa [maxLen, IntKind.max, IntKind.bits, IntKind.signed] using hs
  by_cases h : s.size = 1
  · obtain ⟨c, rfl⟩ : ∃ c : UInt8, s = ⟨#[c]⟩ := by
      obtain ⟨⟨l⟩⟩ := s
      match l, h with
      | [c], _ => exact ⟨c, rfl⟩
    have hm := Lib.hid (color_one c)
    clear h hs hs2
    go_enter Try.func22, Try.ntmps22
    go_wp2_with (go_at_call 32; refine (lib_contains _ _ _).mono ?_; rintro e w' ⟨rfl, rfl⟩)
    go_ret
    exact ⟨ret_bool hm.out, rfl⟩
  · have hm := Lib.hid (color_long h)
    have hb : ((s.size : Int) == 1) = false := beq_eq_false_iff_ne.2 (by omega)
    clear h
    go_enter Try.func22, Try.ntmps22
    go_wp2
    go_ret
    exact ⟨ret_bool hm.out.symm, rfl⟩

theorem spec_Color (s : ByteArray) (w : World) : Calls Try.prog 19 #[.string s] w fun e w' => e = .returned (.bool (colorM s)) ∧ w = w' := by
  unfold colorM
  cases h1 : (s.toList == [87])
  rotate_left
  · go_enter Try.func19, Try.ntmps19
    go_wp2
    go_ret
    exact ⟨rfl, rfl⟩
  cases h2 : (s.toList == [82])
  rotate_left
  · go_enter Try.func19, Try.ntmps19
    go_wp2
    go_ret
    exact ⟨rfl, rfl⟩
  cases h3 : (s.toList == [71])
  rotate_left
  · go_enter Try.func19, Try.ntmps19
    go_wp2
    go_ret
    exact ⟨rfl, rfl⟩
  cases h4 : (s.toList == [89])
  · go_enter Try.func19, Try.ntmps19
    go_wp2
    go_ret
    exact ⟨rfl, rfl⟩
  · go_enter Try.func19, Try.ntmps19
    go_wp2
    go_ret
    exact ⟨rfl, rfl⟩
end Go.Proofs.Ytpnffdkkmibchaa
