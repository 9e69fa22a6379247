/-
  Contracts of lists of dangers: the copies that the laws make, their equality, their size: the program's and the reference's. Each under the conditions that it states.
-/
import Derived.Test.YtlolkngklfabfaaText1
import Derived.Test.YtlolkngklfabfaaRow
import Derived.Test.YtlolkngklfabfaaDanger
set_option linter.unusedVariables false
set_option linter.unnecessarySimpa false
set_option maxRecDepth 100000
set_option linter.unusedSimpArgs false
namespace Go.Proofs.Ytlolkngklfabfaa
open Go.RowKit BigFrame

structure RDanger where
  f0 : ByteArray
  f1 : Int
  f2 : Int
  f3 : Int
instance : Inhabited RDanger := ⟨⟨⟨#[]⟩, 0, 0, 0⟩⟩
def RDanger.cells (a : RDanger) : List Value := [.string a.f0, .int .i64 a.f1, .int .i64 a.f2, .int .i64 a.f3]
theorem RDanger.len (a : RDanger) : a.cells.length = 4 := rfl
def RDanger.ok (a : RDanger) : Prop := a.f0.size ≤ maxLen ∧ IntKind.i64.has a.f1 ∧ IntKind.i64.has a.f2 ∧ IntKind.i64.has a.f3
def RDanger.same (a b : RDanger) : Bool := decide (a.f0 = b.f0) && (decide (a.f1 = b.f1) && (decide (a.f2 = b.f2) && (decide (a.f3 = b.f3))))
section
open Go.ChangeShapes Go.WideShapes Go.ChangeAt Go.Deep
theorem trod_Danger {H : Type} {enc : TypeId × Value → H} {w : World} {b : Nat} {spare : Nat → Bool} {held : Bool} {m : Nat} {c : List Value} {y : DataW H × List MemPlace} (h : DataW.trod enc Try.prog w b spare held m 35 c = some y) : ∃ a : RDanger, c = a.cells ∧ a.ok := by
  have hc : c.length = 4 := by
    obtain ⟨_, _, _, _, hl, _⟩ := DataW.trod_struct Try.underlying35 h
    exact hl.trans (by kernel_rfl)
  obtain ⟨c0, c1, c2, c3, rfl⟩ : ∃ c0 c1 c2 c3, c = [c0, c1, c2, c3] := by
    match c, hc with
    | [c0, c1, c2, c3], _ => exact ⟨c0, c1, c2, c3, rfl⟩
  obtain ⟨xsc0_c1_c2_c3, nc0_c1_c2_c3, _, _, _, hlc0_c1_c2_c3, hfc0_c1_c2_c3⟩ := DataW.trod_struct Try.underlying35 h
  have gc0_c1_c2_c3_0 := (hfc0_c1_c2_c3 0 _ rfl).trans (List.getElem?_eq_getElem (by rw [hlc0_c1_c2_c3]; decide))
  obtain ⟨zc0, ec0, _, qc0⟩ := DataW.trod_string Try.underlying9 (show DataW.trod enc Try.prog w b spare held nc0_c1_c2_c3 9 [c0] = _ from gc0_c1_c2_c3_0)
  have gc0_c1_c2_c3_1 := (hfc0_c1_c2_c3 1 _ rfl).trans (List.getElem?_eq_getElem (by rw [hlc0_c1_c2_c3]; decide))
  replace gc0_c1_c2_c3_1 := (show DataW.trod enc Try.prog w b spare held nc0_c1_c2_c3 33 [c1, c2] = _ from gc0_c1_c2_c3_1)
  obtain ⟨xsc1_c2, nc1_c2, _, _, _, hlc1_c2, hfc1_c2⟩ := DataW.trod_struct Try.underlying33 gc0_c1_c2_c3_1
  have gc1_c2_0 := (hfc1_c2 0 _ rfl).trans (List.getElem?_eq_getElem (by rw [hlc1_c2]; decide))
  obtain ⟨zc1, ec1, _, qc1⟩ := DataW.trod_int Try.underlying2 (show DataW.trod enc Try.prog w b spare held nc1_c2 2 [c1] = _ from gc1_c2_0)
  have gc1_c2_1 := (hfc1_c2 1 _ rfl).trans (List.getElem?_eq_getElem (by rw [hlc1_c2]; decide))
  obtain ⟨zc2, ec2, _, qc2⟩ := DataW.trod_int Try.underlying2 (show DataW.trod enc Try.prog w b spare held nc1_c2 2 [c2] = _ from gc1_c2_1)
  have gc0_c1_c2_c3_2 := (hfc0_c1_c2_c3 2 _ rfl).trans (List.getElem?_eq_getElem (by rw [hlc0_c1_c2_c3]; decide))
  obtain ⟨zc3, ec3, _, qc3⟩ := DataW.trod_int Try.underlying2 (show DataW.trod enc Try.prog w b spare held nc0_c1_c2_c3 2 [c3] = _ from gc0_c1_c2_c3_2)
  obtain rfl : c0 = _ := by simpa using ec0
  obtain rfl : c1 = _ := by simpa using ec1
  obtain rfl : c2 = _ := by simpa using ec2
  obtain rfl : c3 = _ := by simpa using ec3
  exact ⟨⟨zc0, zc1, zc2, zc3⟩, rfl, qc0, (by simpa [Lit.wf, IntKind.has] using qc1), (by simpa [Lit.wf, IntKind.has] using qc2), (by simpa [Lit.wf, IntKind.has] using qc3)⟩
end
set_option maxHeartbeats 1600000 in
theorem eqDanger_same (f0 : ByteArray) (f1 : Int) (f2 : Int) (f3 : Int) (w : World) : Calls Try.prog 89 #[.agg #[.string f0, .int .i64 f1, .int .i64 f2, .int .i64 f3], .agg #[.string f0, .int .i64 f1, .int .i64 f2, .int .i64 f3]] w fun e w' => e = .returned (.bool true) ∧ Below w.heap.size w w' := by
  go_enter Try.func89, Try.ntmps89
  go_wp2
  all_goals (go_ret; exact ⟨rfl, by go_grown⟩)
def RDanger.szN (a : RDanger) : Nat := a.f0.size
theorem RDanger.okS {a : RDanger} (h : a.ok) : a.f0.size ≤ 9223372036854775807 := by
  simp only [RDanger.ok, maxLen, IntKind.max, IntKind.bits, IntKind.signed] at h
  simp at h
  omega
theorem szDanger_rec (a : RDanger) (ha : a.ok) (l : Int) (h1 : -1 ≤ l) (h2 : l ≤ 1048576) (w : World) : Calls Try.prog 19 #[.agg #[.string a.f0, .int .i64 a.f1, .int .i64 a.f2, .int .i64 a.f3], .int .i64 l] w fun e w' => e = .returned (.int .i64 (szR l a.szN)) ∧ Below w.heap.size w w' := by
  have hs := RDanger.okS ha
  by_cases h : l - (a.f0.size : Int) < 0
  · have hm : Hid (szR l a.szN = -1) := by apply Lib.hid; unfold szR RDanger.szN; rw [if_pos h]
    go_enter Try.func19, Try.ntmps19
    go_wp2
    go_ret
    exact ⟨ret_int hm.out.symm, by go_grown⟩
  · have hm : Hid (szR l a.szN = l - a.f0.size) := by apply Lib.hid; unfold szR RDanger.szN; rw [if_neg h]
    go_enter Try.func19, Try.ntmps19
    go_wp2
    go_ret
    exact ⟨ret_int hm.out.symm, by go_grown⟩
set_option maxHeartbeats 1600000 in
theorem szDangerS_rec (L : List RDanger) (A : Option Addr) (c B : Nat) (l : Int) (w : World) (hs : Sl w B A (flat RDanger.cells L)) (hB : B ≤ w.heap.size) (hok : ∀ a ∈ L, a.ok) (hn : L.length ≤ maxLen) (h1 : -1 ≤ l) (h2 : l ≤ 1048576) : Calls Try.prog 18 #[.slice A L.length c, .int .i64 l] w fun e w' => e = .returned (.int .i64 (szS RDanger.szN l L)) ∧ Below w.heap.size w w' := by
  have hn2 : L.length ≤ 9223372036854775807 := by simpa [maxLen, IntKind.max, IntKind.bits, IntKind.signed] using hn
  have hs' := Lib.hid hs
  have hok' := Lib.hid hok
  clear hs hok
  by_cases h : l - (L.length : Int) < 0
  · have hm : Hid (szS RDanger.szN l L = -1) := by apply Lib.hid; unfold szS; rw [if_pos h]
    go_enter Try.func18, Try.ntmps18
    go_wp2
    go_ret
    exact ⟨ret_int hm.out.symm, by go_grown⟩
  have hm : Hid (szS RDanger.szN l L = szAll RDanger.szN (l - L.length) L) := by apply Lib.hid; unfold szS; rw [if_neg h]
  go_enter Try.func18, Try.ntmps18
  go_wp2
  go_loopw [1, 5] (fun x i wr => ∃ (k : Nat) (z : Int), x = .int .i64 z ∧ i = .int .i64 k ∧ k ≤ L.length ∧ 0 ≤ z ∧ z ≤ 1048576 ∧ szAll RDanger.szN (l - L.length) L = szAll RDanger.szN z (L.drop k) ∧ Below w.heap.size w wr) (fun _ i _ => L.length - (intOf i).toNat)
  case atStart => exact ⟨0, _, rfl, rfl, Nat.zero_le _, by omega, by omega, rfl, Below.refl _ _⟩
  case round =>
    obtain ⟨k, z, rfl, rfl, hk, hz0, hz1, hv, hB1⟩ := hrel
    have hv' := Lib.hid hv
    clear hv
    by_cases hlt : k < L.length
    · obtain ⟨b, o, rfl, hb, he⟩ := Sl.elem RDanger.len (by decide) (hs'.out.below (hB1.mono hB)) hlt
      have d0 : wr.cell? ⟨b, o + k * 4, none⟩ = some (.string L[k].f0) := by have := he 0 _ rfl; simpa [Nat.add_assoc] using this
      have d1 : wr.cell? ⟨b, o + k * 4 + 1, none⟩ = some (.int .i64 L[k].f1) := by have := he 1 _ rfl; simpa [Nat.add_assoc] using this
      have d2 : wr.cell? ⟨b, o + k * 4 + 2, none⟩ = some (.int .i64 L[k].f2) := by have := he 2 _ rfl; simpa [Nat.add_assoc] using this
      have d3 : wr.cell? ⟨b, o + k * 4 + 3, none⟩ = some (.int .i64 L[k].f3) := by have := he 3 _ rfl; simpa [Nat.add_assoc] using this
      have ha := Lib.hid (hok'.out _ (List.getElem_mem hlt))
      have hd := Lib.hid (szAll_at (f := RDanger.szN) (l := z) hlt)
      clear he
      by_cases hq : szR z (L[k]).szN < 0
      · have hq2 := Lib.hid (szR_lt hq)
        go_wp2_with (go_at_call 19; refine (szDanger_rec L[k] ha.out z (by omega) hz1 _).mono ?_; rintro e w1 ⟨rfl, hb1⟩)
        go_ret
        exact ⟨ret_int (by rw [hm.out, hv'.out, hd.out, if_pos (by have := hq2.out.1; omega)]), bnext hB1 hb1⟩
      · have hq2 := Lib.hid (szR_ge hq)
        go_wp2_with (go_at_call 19; refine (szDanger_rec L[k] ha.out z (by omega) hz1 _).mono ?_; rintro e w1 ⟨rfl, hb1⟩)
        go_roundw
        case rel => exact ⟨k + 1, _, rfl, by go_num, by omega, by omega, by have := hq2.out; omega, by rw [hv'.out, hd.out, if_neg (by have := hq2.out.1; omega), hq2.out.2], bnext hB1 hb1⟩
        case measure => simp [intOf]; omega
    · obtain rfl : k = L.length := by omega
      have he : Hid (szS RDanger.szN l L = z) := by apply Lib.hid; rw [hm.out, hv'.out, List.drop_length]; rfl
      go_wp2
      go_ret
      exact ⟨ret_int he.out.symm, hB1⟩
set_option maxHeartbeats 1600000 in
theorem toDangerS_any (L : List RDanger) (A : Option Addr) (c B : Nat) (w : World) (hs : Sl w B A (flat RDanger.cells L)) (hB : B ≤ w.heap.size) (hl : L.length ≤ 1048576) : Calls Try.prog 21 #[.slice A L.length c] w (ToPost (flat RDanger.cells L) L.length w) := by
  have hmk : ∀ w : World, (Instr.makeSlice 38 (.int .i64 L.length) (.int .i64 L.length)).run Try.prog w = .ok (.slice (some ⟨w.heap.size, 0, none⟩) L.length L.length) (w.alloc (.cells (madeCells #[.string ⟨#[]⟩, .int .i64 0, .int .i64 0, .int .i64 0] (L.length * 4)) 44)) := fun w => made_row (by_ := 40) w Try.underlying38 (by kernel_rfl) (by kernel_rfl) L.length (by omega) (by omega)
  have hs' := Lib.hid hs
  clear hs
  go_enter Try.func21, Try.ntmps21
  go_wp2
  have hO : Own (w.alloc (.cells (madeCells #[.string ⟨#[]⟩, .int .i64 0, .int .i64 0, .int .i64 0] (L.length * 4)) 44)) w.heap.size 44 (L.length * 4) (flat RDanger.cells (L.take 0)) := own_made w _ _ _ _
  have hB0 : Below w.heap.size w (w.alloc (.cells (madeCells #[.string ⟨#[]⟩, .int .i64 0, .int .i64 0, .int .i64 0] (L.length * 4)) 44)) := by go_grown
  clear hmk
  go_loopw [4] (fun i wr => ∃ k : Nat, i = .int .i64 k ∧ k ≤ L.length ∧ Below w.heap.size w wr ∧ Own wr w.heap.size 44 (L.length * 4) (flat RDanger.cells (L.take k))) (fun i _ => L.length - (intOf i).toNat)
  case atStart => exact ⟨0, rfl, Nat.zero_le _, hB0, hO⟩
  case round =>
    clear hB0 hO
    obtain ⟨k, rfl, hk, hB1, hO⟩ := hrel
    by_cases hlt : k < L.length
    · obtain ⟨b, o, rfl, hb, he⟩ := Sl.elem RDanger.len (by decide) (hs'.out.below (hB1.mono hB)) hlt
      have d0 : wr.cell? ⟨b, o + k * 4, none⟩ = some (.string L[k].f0) := by have := he 0 _ rfl; simpa [Nat.add_assoc] using this
      have d1 : wr.cell? ⟨b, o + k * 4 + 1, none⟩ = some (.int .i64 L[k].f1) := by have := he 1 _ rfl; simpa [Nat.add_assoc] using this
      have d2 : wr.cell? ⟨b, o + k * 4 + 2, none⟩ = some (.int .i64 L[k].f2) := by have := he 2 _ rfl; simpa [Nat.add_assoc] using this
      have d3 : wr.cell? ⟨b, o + k * 4 + 3, none⟩ = some (.int .i64 L[k].f3) := by have := he 3 _ rfl; simpa [Nat.add_assoc] using this
      have hkn : k * 4 + 4 ≤ L.length * 4 := by have := Nat.mul_le_mul_right 4 (show k + 1 ≤ L.length by omega); omega
      have hlen : (flat RDanger.cells (L.take k)).length = k * 4 := by rw [flat_len RDanger.len, List.length_take, Nat.min_eq_left hk]
      have hstep : flat RDanger.cells (L.take (k + 1)) = flat RDanger.cells (L.take k) ++ [.string L[k].f0] ++ [.int .i64 L[k].f1] ++ [.int .i64 L[k].f2] ++ [.int .i64 L[k].f3] := by rw [List.take_succ_eq_append_getElem hlt, flat_snoc]; simp [RDanger.cells]
      have hstep := Lib.hid hstep
      clear he
      go_wp2_with (go_at_call 22; refine (toDanger_any _ _ _ _ _).mono ?_; rintro e w1 ⟨rfl, hb1⟩; (have hO1 := hO.on hb1); obtain ⟨y0, x0⟩ := hO1.cell (i := k * 4) (by omega); have v0 := hO1.frozen (k * 4); obtain ⟨y1, x1⟩ := hO1.cell (i := k * 4 + 1) (by omega); have v1 := hO1.frozen (k * 4 + 1); obtain ⟨y2, x2⟩ := hO1.cell (i := k * 4 + 2) (by omega); have v2 := hO1.frozen (k * 4 + 2); obtain ⟨y3, x3⟩ := hO1.cell (i := k * 4 + 3) (by omega); have v3 := hO1.frozen (k * 4 + 3))
      go_roundw
      case rel => exact ⟨k + 1, by go_num, by omega, by have := bnext hB1 hb1; go_grown, by rw [hstep.out]; exact (Own.set (Own.set (Own.set (Own.set hO1 (by simp [hlen]) (by omega) _) (by simp [hlen]) (by omega) _) (by simp [hlen]) (by omega) _) (by simp [hlen]) (by omega) _)⟩
      case measure => simp [intOf]; omega
    · obtain rfl : k = L.length := by omega
      have hO2 : Own wr w.heap.size 44 (L.length * 4) (flat RDanger.cells L) := by rw [List.take_length] at hO; exact hO
      go_wp2
      go_ret
      exact ⟨rfl, hB1, hO2.lt, hO2.sl⟩
set_option maxHeartbeats 1600000 in
theorem eqDangerS_same (L : List RDanger) (A A2 : Option Addr) (c c2 B : Nat) (w : World) (hs : Sl w B A (flat RDanger.cells L)) (hs2 : Sl w B A2 (flat RDanger.cells L)) (hB : B ≤ w.heap.size) (hl : L.length ≤ 1048576) : Calls Try.prog 24 #[.slice A L.length c, .slice A2 L.length c2] w fun e w' => e = .returned (.bool true) ∧ Below w.heap.size w w' := by
  have hs' := Lib.hid hs
  have hs2' := Lib.hid hs2
  clear hs hs2
  go_enter Try.func24, Try.ntmps24
  go_wp2
  go_loopw [5] (fun i wr => ∃ k : Nat, i = .int .i64 k ∧ k ≤ L.length ∧ Below w.heap.size w wr) (fun i _ => L.length - (intOf i).toNat)
  case atStart => exact ⟨0, rfl, Nat.zero_le _, Below.refl _ _⟩
  case round =>
    obtain ⟨k, rfl, hk, hB1⟩ := hrel
    have hS1 := hB1.size
    by_cases hlt : k < L.length
    · obtain ⟨bp, op, rfl, hbp, hep⟩ := Sl.elem RDanger.len (by decide) (hs'.out.below (hB1.mono hB)) hlt
      have dp0 : wr.cell? ⟨bp, op + k * 4, none⟩ = some (.string L[k].f0) := by have := hep 0 _ rfl; simpa [Nat.add_assoc] using this
      have dp1 : wr.cell? ⟨bp, op + k * 4 + 1, none⟩ = some (.int .i64 L[k].f1) := by have := hep 1 _ rfl; simpa [Nat.add_assoc] using this
      have dp2 : wr.cell? ⟨bp, op + k * 4 + 2, none⟩ = some (.int .i64 L[k].f2) := by have := hep 2 _ rfl; simpa [Nat.add_assoc] using this
      have dp3 : wr.cell? ⟨bp, op + k * 4 + 3, none⟩ = some (.int .i64 L[k].f3) := by have := hep 3 _ rfl; simpa [Nat.add_assoc] using this
      have hwp : bp < wr.heap.size := by omega
      obtain ⟨bq, oq, rfl, hbq, heq⟩ := Sl.elem RDanger.len (by decide) (hs2'.out.below (hB1.mono hB)) hlt
      have dq0 : wr.cell? ⟨bq, oq + k * 4, none⟩ = some (.string L[k].f0) := by have := heq 0 _ rfl; simpa [Nat.add_assoc] using this
      have dq1 : wr.cell? ⟨bq, oq + k * 4 + 1, none⟩ = some (.int .i64 L[k].f1) := by have := heq 1 _ rfl; simpa [Nat.add_assoc] using this
      have dq2 : wr.cell? ⟨bq, oq + k * 4 + 2, none⟩ = some (.int .i64 L[k].f2) := by have := heq 2 _ rfl; simpa [Nat.add_assoc] using this
      have dq3 : wr.cell? ⟨bq, oq + k * 4 + 3, none⟩ = some (.int .i64 L[k].f3) := by have := heq 3 _ rfl; simpa [Nat.add_assoc] using this
      have hwq : bq < wr.heap.size := by omega
      clear hep heq
      go_wp2_with fail
      refine wp_region_grew (by kernel_rfl) (by kernel_rfl) ?_
      repeat (first | (go_big_quiet_step ((go_at_call 89; exact grew_of (eqDanger_same _ _ _ _ _)))) | (quiet_step ((go_at_call 89; exact grew_of (eqDanger_same _ _ _ _ _)))))
      refine wpQuiet_nil ?_
      rintro _ ⟨⟨w9, hb9⟩, rfl⟩
      try dsimp only
      go_wp2
      go_roundw
      case rel => exact ⟨k + 1, by go_num, by omega, bnext hB1 hb9⟩
      case measure => simp [intOf]; omega
    · obtain rfl : k = L.length := by omega
      go_wp2
      go_ret
      exact ⟨rfl, hB1⟩
def sameDangerM (L M : List RDanger) : Bool := decide (L.length = M.length) && allTo (fun k => (L.getD k default).same (M.getD k default)) L.length
theorem RDanger.diff {a b : RDanger} (h : ¬ a = b) : (¬ a.f0 = b.f0) ∨ (a.f0 = b.f0 ∧ ¬ a.f1 = b.f1) ∨ (a.f0 = b.f0 ∧ a.f1 = b.f1 ∧ ¬ a.f2 = b.f2) ∨ (a.f0 = b.f0 ∧ a.f1 = b.f1 ∧ a.f2 = b.f2 ∧ ¬ a.f3 = b.f3) := by
  rcases a with ⟨a0, a1, a2, a3⟩
  rcases b with ⟨b0, b1, b2, b3⟩
  simp only [RDanger.mk.injEq] at h
  dsimp only
  by_cases h0 : a0 = b0
  rotate_left
  · exact Or.inl h0
  by_cases h1 : a1 = b1
  rotate_left
  · exact Or.inr (Or.inl ⟨h0, h1⟩)
  by_cases h2 : a2 = b2
  rotate_left
  · exact Or.inr (Or.inr (Or.inl ⟨h0, h1, h2⟩))
  exact Or.inr (Or.inr (Or.inr (⟨h0, h1, h2, fun e => h ⟨h0, h1, h2, e⟩⟩)))
theorem RDanger.same_yes (a : RDanger) : a.same a = true := by simp [RDanger.same]
theorem RDanger.same_no {a b : RDanger} (h : ¬ a = b) : a.same b = false := by
  rcases RDanger.diff h with h | h | h | h
  all_goals simp [RDanger.same, h]
end Go.Proofs.Ytlolkngklfabfaa
