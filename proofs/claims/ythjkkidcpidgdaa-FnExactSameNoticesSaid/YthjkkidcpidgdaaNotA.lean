/-
  Contracts of what a notice holds: rows of sectors, marks, characters with their groups: the copies that the laws make, their equality, their size. Each under the conditions that it states.
-/
import Derived.Test.YthjkkidcpidgdaaInts
import Derived.Test.YthjkkidcpidgdaaText1
import Derived.Test.YthjkkidcpidgdaaPlaces
set_option linter.unusedVariables false
set_option linter.unnecessarySimpa false
set_option maxRecDepth 100000
set_option linter.unusedSimpArgs false
namespace Go.Proofs.Ythjkkidcpidgdaa
open Go.RowKit BigFrame Go.Deep

structure RSector where
  f0 : Int
  f1 : Int
  f2 : ByteArray
instance : Inhabited RSector := ⟨⟨0, 0, ⟨#[]⟩⟩⟩
def RSector.cells (a : RSector) : List Value := [.int .i64 a.f0, .int .i64 a.f1, .string a.f2]
theorem RSector.len (a : RSector) : a.cells.length = 3 := rfl
def RSector.ok (a : RSector) : Prop := IntKind.i64.has a.f0 ∧ IntKind.i64.has a.f1 ∧ a.f2.size ≤ maxLen
def RSector.same (a b : RSector) : Bool := decide (a.f0 = b.f0) && (decide (a.f1 = b.f1) && (decide (a.f2 = b.f2)))
section
open Go.ChangeShapes Go.WideShapes Go.ChangeAt Go.Deep
theorem trod_Sector {H : Type} {enc : TypeId × Value → H} {w : World} {b : Nat} {spare : Nat → Bool} {held : Bool} {m : Nat} {c : List Value} {y : DataW H × List MemPlace} (h : DataW.trod enc Try.prog w b spare held m 109 c = some y) : ∃ a : RSector, c = a.cells ∧ a.ok := by
  have hc : c.length = 3 := by
    obtain ⟨_, _, _, _, hl, _⟩ := DataW.trod_struct Try.underlying109 h
    exact hl.trans (by kernel_rfl)
  obtain ⟨c0, c1, c2, rfl⟩ : ∃ c0 c1 c2, c = [c0, c1, c2] := by
    match c, hc with
    | [c0, c1, c2], _ => exact ⟨c0, c1, c2, rfl⟩
  obtain ⟨xsc0_c1_c2, nc0_c1_c2, _, _, _, hlc0_c1_c2, hfc0_c1_c2⟩ := DataW.trod_struct Try.underlying109 h
  have gc0_c1_c2_0 := (hfc0_c1_c2 0 _ rfl).trans (List.getElem?_eq_getElem (by rw [hlc0_c1_c2]; decide))
  obtain ⟨zc0, ec0, _, qc0⟩ := DataW.trod_int Try.underlying2 (show DataW.trod enc Try.prog w b spare held nc0_c1_c2 2 [c0] = _ from gc0_c1_c2_0)
  have gc0_c1_c2_1 := (hfc0_c1_c2 1 _ rfl).trans (List.getElem?_eq_getElem (by rw [hlc0_c1_c2]; decide))
  obtain ⟨zc1, ec1, _, qc1⟩ := DataW.trod_int Try.underlying2 (show DataW.trod enc Try.prog w b spare held nc0_c1_c2 2 [c1] = _ from gc0_c1_c2_1)
  have gc0_c1_c2_2 := (hfc0_c1_c2 2 _ rfl).trans (List.getElem?_eq_getElem (by rw [hlc0_c1_c2]; decide))
  obtain ⟨zc2, ec2, _, qc2⟩ := DataW.trod_string Try.underlying9 (show DataW.trod enc Try.prog w b spare held nc0_c1_c2 9 [c2] = _ from gc0_c1_c2_2)
  obtain rfl : c0 = _ := by simpa using ec0
  obtain rfl : c1 = _ := by simpa using ec1
  obtain rfl : c2 = _ := by simpa using ec2
  exact ⟨⟨zc0, zc1, zc2⟩, rfl, (by simpa [Lit.wf, IntKind.has] using qc0), (by simpa [Lit.wf, IntKind.has] using qc1), qc2⟩
end
set_option maxHeartbeats 1600000 in
theorem toSector_any (f0 : Int) (f1 : Int) (f2 : ByteArray) (w : World) : Calls Try.prog 75 #[.agg #[.int .i64 f0, .int .i64 f1, .string f2]] w fun e w' => e = .returned (.agg #[.int .i64 f0, .int .i64 f1, .string f2]) ∧ Below w.heap.size w w' := by
  go_enter Try.func75, Try.ntmps75
  go_wp2
  go_returns
  exact ⟨rfl, by go_grown⟩
set_option maxHeartbeats 1600000 in
theorem eqSector_same (f0 : Int) (f1 : Int) (f2 : ByteArray) (w : World) : Calls Try.prog 77 #[.agg #[.int .i64 f0, .int .i64 f1, .string f2], .agg #[.int .i64 f0, .int .i64 f1, .string f2]] w fun e w' => e = .returned (.bool true) ∧ Below w.heap.size w w' := by
  go_enter Try.func77, Try.ntmps77
  go_wp2
  all_goals (go_ret; exact ⟨rfl, by go_grown⟩)
def RSector.szN (a : RSector) : Nat := a.f2.size
theorem RSector.okS {a : RSector} (h : a.ok) : a.f2.size ≤ 9223372036854775807 := by
  simp only [RSector.ok, maxLen, IntKind.max, IntKind.bits, IntKind.signed] at h
  simp at h
  omega
theorem szSector_rec (a : RSector) (ha : a.ok) (l : Int) (h1 : -1 ≤ l) (h2 : l ≤ 1048576) (w : World) : Calls Try.prog 71 #[.agg #[.int .i64 a.f0, .int .i64 a.f1, .string a.f2], .int .i64 l] w fun e w' => e = .returned (.int .i64 (szR l a.szN)) ∧ Below w.heap.size w w' := by
  have hs := RSector.okS ha
  by_cases h : l - (a.f2.size : Int) < 0
  · have hm : Hid (szR l a.szN = -1) := by apply Lib.hid; unfold szR RSector.szN; rw [if_pos h]
    go_enter Try.func71, Try.ntmps71
    go_wp2
    go_ret
    exact ⟨ret_int hm.out.symm, by go_grown⟩
  · have hm : Hid (szR l a.szN = l - a.f2.size) := by apply Lib.hid; unfold szR RSector.szN; rw [if_neg h]
    go_enter Try.func71, Try.ntmps71
    go_wp2
    go_ret
    exact ⟨ret_int hm.out.symm, by go_grown⟩
set_option maxHeartbeats 1600000 in
theorem szSectorS_rec (L : List RSector) (A : Option Addr) (c B : Nat) (l : Int) (w : World) (hs : Sl w B A (flat RSector.cells L)) (hB : B ≤ w.heap.size) (hok : ∀ a ∈ L, a.ok) (hn : L.length ≤ maxLen) (h1 : -1 ≤ l) (h2 : l ≤ 1048576) : Calls Try.prog 50 #[.slice A L.length c, .int .i64 l] w fun e w' => e = .returned (.int .i64 (szS RSector.szN l L)) ∧ Below w.heap.size w w' := by
  have hn2 : L.length ≤ 9223372036854775807 := by simpa [maxLen, IntKind.max, IntKind.bits, IntKind.signed] using hn
  have hs' := Lib.hid hs
  have hok' := Lib.hid hok
  clear hs hok
  by_cases h : l - (L.length : Int) < 0
  · have hm : Hid (szS RSector.szN l L = -1) := by apply Lib.hid; unfold szS; rw [if_pos h]
    go_enter Try.func50, Try.ntmps50
    go_wp2
    go_ret
    exact ⟨ret_int hm.out.symm, by go_grown⟩
  have hm : Hid (szS RSector.szN l L = szAll RSector.szN (l - L.length) L) := by apply Lib.hid; unfold szS; rw [if_neg h]
  go_enter Try.func50, Try.ntmps50
  go_wp2
  go_loopw [1, 5] (fun x i wr => ∃ (k : Nat) (z : Int), x = .int .i64 z ∧ i = .int .i64 k ∧ k ≤ L.length ∧ 0 ≤ z ∧ z ≤ 1048576 ∧ szAll RSector.szN (l - L.length) L = szAll RSector.szN z (L.drop k) ∧ Below w.heap.size w wr) (fun _ i _ => L.length - (intOf i).toNat)
  case atStart => exact ⟨0, _, rfl, rfl, Nat.zero_le _, by omega, by omega, rfl, Below.refl _ _⟩
  case round =>
    obtain ⟨k, z, rfl, rfl, hk, hz0, hz1, hv, hB1⟩ := hrel
    have hv' := Lib.hid hv
    clear hv
    by_cases hlt : k < L.length
    · obtain ⟨b, o, rfl, hb, he⟩ := Sl.elem RSector.len (by decide) (hs'.out.below (hB1.mono hB)) hlt
      have d0 : wr.cell? ⟨b, o + k * 3, none⟩ = some (.int .i64 L[k].f0) := by have := he 0 _ rfl; simpa [Nat.add_assoc] using this
      have d1 : wr.cell? ⟨b, o + k * 3 + 1, none⟩ = some (.int .i64 L[k].f1) := by have := he 1 _ rfl; simpa [Nat.add_assoc] using this
      have d2 : wr.cell? ⟨b, o + k * 3 + 2, none⟩ = some (.string L[k].f2) := by have := he 2 _ rfl; simpa [Nat.add_assoc] using this
      have ha := Lib.hid (hok'.out _ (List.getElem_mem hlt))
      have hd := Lib.hid (szAll_at (f := RSector.szN) (l := z) hlt)
      clear he
      by_cases hq : szR z (L[k]).szN < 0
      · have hq2 := Lib.hid (szR_lt hq)
        go_wp2_with (go_at_call 71; refine (szSector_rec L[k] ha.out z (by omega) hz1 _).mono ?_; rintro e w1 ⟨rfl, hb1⟩)
        go_ret
        exact ⟨ret_int (by rw [hm.out, hv'.out, hd.out, if_pos (by have := hq2.out.1; omega)]), bnext hB1 hb1⟩
      · have hq2 := Lib.hid (szR_ge hq)
        go_wp2_with (go_at_call 71; refine (szSector_rec L[k] ha.out z (by omega) hz1 _).mono ?_; rintro e w1 ⟨rfl, hb1⟩)
        go_roundw
        case rel => exact ⟨k + 1, _, rfl, by go_num, by omega, by omega, by have := hq2.out; omega, by rw [hv'.out, hd.out, if_neg (by have := hq2.out.1; omega), hq2.out.2], bnext hB1 hb1⟩
        case measure => simp [intOf]; omega
    · obtain rfl : k = L.length := by omega
      have he : Hid (szS RSector.szN l L = z) := by apply Lib.hid; rw [hm.out, hv'.out, List.drop_length]; rfl
      go_wp2
      go_ret
      exact ⟨ret_int he.out.symm, hB1⟩
set_option maxHeartbeats 1600000 in
theorem toSectorS_any (L : List RSector) (A : Option Addr) (c B : Nat) (w : World) (hs : Sl w B A (flat RSector.cells L)) (hB : B ≤ w.heap.size) (hl : L.length ≤ 1048576) : Calls Try.prog 55 #[.slice A L.length c] w (ToPost (flat RSector.cells L) L.length w) := by
  have hmk : ∀ w : World, (Instr.makeSlice 51 (.int .i64 L.length) (.int .i64 L.length)).run Try.prog w = .ok (.slice (some ⟨w.heap.size, 0, none⟩) L.length L.length) (w.alloc (.cells (madeCells #[.int .i64 0, .int .i64 0, .string ⟨#[]⟩] (L.length * 3)) 75)) := fun w => made_row (by_ := 32) w Try.underlying51 (by kernel_rfl) (by kernel_rfl) L.length (by omega) (by omega)
  have hs' := Lib.hid hs
  clear hs
  go_enter Try.func55, Try.ntmps55
  go_wp2
  have hO : Own (w.alloc (.cells (madeCells #[.int .i64 0, .int .i64 0, .string ⟨#[]⟩] (L.length * 3)) 75)) w.heap.size 75 (L.length * 3) (flat RSector.cells (L.take 0)) := own_made w _ _ _ _
  have hB0 : Below w.heap.size w (w.alloc (.cells (madeCells #[.int .i64 0, .int .i64 0, .string ⟨#[]⟩] (L.length * 3)) 75)) := by go_grown
  clear hmk
  go_loopw [4] (fun i wr => ∃ k : Nat, i = .int .i64 k ∧ k ≤ L.length ∧ Below w.heap.size w wr ∧ Own wr w.heap.size 75 (L.length * 3) (flat RSector.cells (L.take k))) (fun i _ => L.length - (intOf i).toNat)
  case atStart => exact ⟨0, rfl, Nat.zero_le _, hB0, hO⟩
  case round =>
    clear hB0 hO
    obtain ⟨k, rfl, hk, hB1, hO⟩ := hrel
    by_cases hlt : k < L.length
    · obtain ⟨b, o, rfl, hb, he⟩ := Sl.elem RSector.len (by decide) (hs'.out.below (hB1.mono hB)) hlt
      have d0 : wr.cell? ⟨b, o + k * 3, none⟩ = some (.int .i64 L[k].f0) := by have := he 0 _ rfl; simpa [Nat.add_assoc] using this
      have d1 : wr.cell? ⟨b, o + k * 3 + 1, none⟩ = some (.int .i64 L[k].f1) := by have := he 1 _ rfl; simpa [Nat.add_assoc] using this
      have d2 : wr.cell? ⟨b, o + k * 3 + 2, none⟩ = some (.string L[k].f2) := by have := he 2 _ rfl; simpa [Nat.add_assoc] using this
      have hkn : k * 3 + 3 ≤ L.length * 3 := by have := Nat.mul_le_mul_right 3 (show k + 1 ≤ L.length by omega); omega
      have hlen : (flat RSector.cells (L.take k)).length = k * 3 := by rw [flat_len RSector.len, List.length_take, Nat.min_eq_left hk]
      have hstep : flat RSector.cells (L.take (k + 1)) = flat RSector.cells (L.take k) ++ [.int .i64 L[k].f0] ++ [.int .i64 L[k].f1] ++ [.string L[k].f2] := by rw [List.take_succ_eq_append_getElem hlt, flat_snoc]; simp [RSector.cells]
      have hstep := Lib.hid hstep
      clear he
      go_wp2_with (go_at_call 75; refine (toSector_any _ _ _ _).mono ?_; rintro e w1 ⟨rfl, hb1⟩; (have hO1 := hO.on hb1); obtain ⟨y0, x0⟩ := hO1.cell (i := k * 3) (by omega); have v0 := hO1.frozen (k * 3); obtain ⟨y1, x1⟩ := hO1.cell (i := k * 3 + 1) (by omega); have v1 := hO1.frozen (k * 3 + 1); obtain ⟨y2, x2⟩ := hO1.cell (i := k * 3 + 2) (by omega); have v2 := hO1.frozen (k * 3 + 2))
      go_roundw
      case rel => exact ⟨k + 1, by go_num, by omega, by have := bnext hB1 hb1; go_grown, by rw [hstep.out]; exact (Own.set (Own.set (Own.set hO1 (by simp [hlen]) (by omega) _) (by simp [hlen]) (by omega) _) (by simp [hlen]) (by omega) _)⟩
      case measure => simp [intOf]; omega
    · obtain rfl : k = L.length := by omega
      have hO2 : Own wr w.heap.size 75 (L.length * 3) (flat RSector.cells L) := by rw [List.take_length] at hO; exact hO
      go_wp2
      go_ret
      exact ⟨rfl, hB1, hO2.lt, hO2.sl⟩
set_option maxHeartbeats 1600000 in
theorem eqSectorS_same (L : List RSector) (A A2 : Option Addr) (c c2 B : Nat) (w : World) (hs : Sl w B A (flat RSector.cells L)) (hs2 : Sl w B A2 (flat RSector.cells L)) (hB : B ≤ w.heap.size) (hl : L.length ≤ 1048576) : Calls Try.prog 60 #[.slice A L.length c, .slice A2 L.length c2] w fun e w' => e = .returned (.bool true) ∧ Below w.heap.size w w' := by
  have hs' := Lib.hid hs
  have hs2' := Lib.hid hs2
  clear hs hs2
  go_enter Try.func60, Try.ntmps60
  go_wp2
  go_loopw [5] (fun i wr => ∃ k : Nat, i = .int .i64 k ∧ k ≤ L.length ∧ Below w.heap.size w wr) (fun i _ => L.length - (intOf i).toNat)
  case atStart => exact ⟨0, rfl, Nat.zero_le _, Below.refl _ _⟩
  case round =>
    obtain ⟨k, rfl, hk, hB1⟩ := hrel
    have hS1 := hB1.size
    by_cases hlt : k < L.length
    · obtain ⟨bp, op, rfl, hbp, hep⟩ := Sl.elem RSector.len (by decide) (hs'.out.below (hB1.mono hB)) hlt
      have dp0 : wr.cell? ⟨bp, op + k * 3, none⟩ = some (.int .i64 L[k].f0) := by have := hep 0 _ rfl; simpa [Nat.add_assoc] using this
      have dp1 : wr.cell? ⟨bp, op + k * 3 + 1, none⟩ = some (.int .i64 L[k].f1) := by have := hep 1 _ rfl; simpa [Nat.add_assoc] using this
      have dp2 : wr.cell? ⟨bp, op + k * 3 + 2, none⟩ = some (.string L[k].f2) := by have := hep 2 _ rfl; simpa [Nat.add_assoc] using this
      have hwp : bp < wr.heap.size := by omega
      obtain ⟨bq, oq, rfl, hbq, heq⟩ := Sl.elem RSector.len (by decide) (hs2'.out.below (hB1.mono hB)) hlt
      have dq0 : wr.cell? ⟨bq, oq + k * 3, none⟩ = some (.int .i64 L[k].f0) := by have := heq 0 _ rfl; simpa [Nat.add_assoc] using this
      have dq1 : wr.cell? ⟨bq, oq + k * 3 + 1, none⟩ = some (.int .i64 L[k].f1) := by have := heq 1 _ rfl; simpa [Nat.add_assoc] using this
      have dq2 : wr.cell? ⟨bq, oq + k * 3 + 2, none⟩ = some (.string L[k].f2) := by have := heq 2 _ rfl; simpa [Nat.add_assoc] using this
      have hwq : bq < wr.heap.size := by omega
      clear hep heq
      go_wp2_with fail
      refine wp_region_grew (by kernel_rfl) (by kernel_rfl) ?_
      repeat (first | (go_big_quiet_step ((go_at_call 77; exact grew_of (eqSector_same _ _ _ _)))) | (quiet_step ((go_at_call 77; exact grew_of (eqSector_same _ _ _ _)))))
      refine wpQuiet_nil ?_
      rintro _ ⟨⟨w9, hb9⟩, rfl⟩
      try dsimp only
      go_wp2
      go_roundw
      case rel => exact ⟨k + 1, by go_num, by omega, bnext hB1 hb9⟩
      case measure => simp [intOf]; omega
    · obtain rfl : k = L.length := by omega
      go_wp2
      go_ret
      exact ⟨rfl, hB1⟩
def sameSectorM (L M : List RSector) : Bool := decide (L.length = M.length) && allTo (fun k => (L.getD k default).same (M.getD k default)) L.length
theorem RSector.diff {a b : RSector} (h : ¬ a = b) : (¬ a.f0 = b.f0) ∨ (a.f0 = b.f0 ∧ ¬ a.f1 = b.f1) ∨ (a.f0 = b.f0 ∧ a.f1 = b.f1 ∧ ¬ a.f2 = b.f2) := by
  rcases a with ⟨a0, a1, a2⟩
  rcases b with ⟨b0, b1, b2⟩
  simp only [RSector.mk.injEq] at h
  dsimp only
  by_cases h0 : a0 = b0
  rotate_left
  · exact Or.inl h0
  by_cases h1 : a1 = b1
  rotate_left
  · exact Or.inr (Or.inl ⟨h0, h1⟩)
  exact Or.inr (Or.inr (⟨h0, h1, fun e => h ⟨h0, h1, e⟩⟩))
theorem RSector.same_yes (a : RSector) : a.same a = true := by simp [RSector.same]
theorem RSector.same_no {a b : RSector} (h : ¬ a = b) : a.same b = false := by
  rcases RSector.diff h with h | h | h
  all_goals simp [RSector.same, h]
set_option maxHeartbeats 1600000 in
theorem spec_sameSector (L M : List RSector) (A A2 : Option Addr) (c c2 B : Nat) (w : World) (hs : Sl w B A (flat RSector.cells L)) (hs2 : Sl w B A2 (flat RSector.cells M)) (hB : B ≤ w.heap.size) (hl : L.length ≤ 1048576) (hl2 : M.length ≤ 1048576) : Calls Try.prog 73 #[.slice A L.length c, .slice A2 M.length c2] w fun e w' => e = .returned (.bool (sameSectorM L M)) ∧ Below w.heap.size w w' := by
  have hs' := Lib.hid hs
  have hs2' := Lib.hid hs2
  clear hs hs2
  by_cases hlen : L.length = M.length
  rotate_left
  · have hm : Hid (sameSectorM L M = false) := by apply Lib.hid; unfold sameSectorM; rw [decide_eq_false hlen]; rfl
    have hne : ((L.length : Int) == (M.length : Int)) = false := beq_eq_false_iff_ne.2 (by omega)
    clear hlen
    go_enter Try.func73, Try.ntmps73
    go_wp2
    go_ret
    exact ⟨ret_bool hm.out.symm, by go_grown⟩
  have hm : Hid (sameSectorM L M = allTo (fun k => (L.getD k default).same (M.getD k default)) L.length) := by apply Lib.hid; unfold sameSectorM; rw [decide_eq_true hlen]; rfl
  have hlen' := Lib.hid hlen
  rw [← hlen]
  clear hlen
  go_enter Try.func73, Try.ntmps73
  go_wp2
  go_loopw [5] (fun i wr => ∃ k : Nat, i = .int .i64 k ∧ k ≤ L.length ∧ allTo (fun k => (L.getD k default).same (M.getD k default)) k = true ∧ Below w.heap.size w wr) (fun i _ => L.length - (intOf i).toNat)
  case atStart => exact ⟨0, rfl, Nat.zero_le _, rfl, by go_grown⟩
  case round =>
    obtain ⟨k, rfl, hk, hv, hB1⟩ := hrel
    have hv' := Lib.hid hv
    clear hv
    by_cases hlt : k < L.length
    · have hltM : k < M.length := by have := hlen'.out; omega
      obtain ⟨bp, op, rfl, hbp, hep⟩ := Sl.elem RSector.len (by decide) (hs'.out.below (hB1.mono hB)) hlt
      obtain ⟨bq, oq, rfl, hbq, heq⟩ := Sl.elem RSector.len (by decide) (hs2'.out.below (hB1.mono hB)) hltM
      have hg : Hid ((L.getD k default).same (M.getD k default) = (L[k]).same (M[k])) := by apply Lib.hid; rw [List.getD_eq_getElem?_getD, List.getD_eq_getElem?_getD, List.getElem?_eq_getElem hlt, List.getElem?_eq_getElem hltM]; rfl
      obtain ⟨a, ha⟩ : ∃ a, L[k] = a := ⟨_, rfl⟩
      obtain ⟨b, hb⟩ : ∃ b, M[k] = b := ⟨_, rfl⟩
      rw [ha, hb] at hg
      rw [ha] at hep
      rw [hb] at heq
      clear ha hb
      by_cases hab : a = b
      · obtain rfl := hab
        have hf2 := Lib.hid (allTo_step (f := fun k => (L.getD k default).same (M.getD k default)) hv'.out (show (L.getD k default).same (M.getD k default) = true by rw [hg.out]; exact RSector.same_yes _))
        have dp0 : wr.cell? ⟨bp, op + k * 3, none⟩ = some (.int .i64 a.f0) := by have := hep 0 _ rfl; simpa [Nat.add_assoc, *] using this
        have dp1 : wr.cell? ⟨bp, op + k * 3 + 1, none⟩ = some (.int .i64 a.f1) := by have := hep 1 _ rfl; simpa [Nat.add_assoc, *] using this
        have dp2 : wr.cell? ⟨bp, op + k * 3 + 2, none⟩ = some (.string a.f2) := by have := hep 2 _ rfl; simpa [Nat.add_assoc, *] using this
        have dq0 : wr.cell? ⟨bq, oq + k * 3, none⟩ = some (.int .i64 a.f0) := by have := heq 0 _ rfl; simpa [Nat.add_assoc, *] using this
        have dq1 : wr.cell? ⟨bq, oq + k * 3 + 1, none⟩ = some (.int .i64 a.f1) := by have := heq 1 _ rfl; simpa [Nat.add_assoc, *] using this
        have dq2 : wr.cell? ⟨bq, oq + k * 3 + 2, none⟩ = some (.string a.f2) := by have := heq 2 _ rfl; simpa [Nat.add_assoc, *] using this
        clear hep heq
        have hwp : bp < wr.heap.size := by have := hB1.size; omega
        have hwq : bq < wr.heap.size := by have := hB1.size; omega
        go_wp2_with fail
        refine wp_region_grew (by kernel_rfl) (by kernel_rfl) ?_
        repeat (first | (go_big_quiet_step (fail)) | (quiet_step (fail)))
        refine wpQuiet_nil ?_
        rintro _ ⟨⟨w9, hb9⟩, rfl⟩
        try dsimp only
        go_wp2
        go_roundw
        case rel => exact ⟨k + 1, by go_num, by omega, hf2.out, bnext hB1 hb9⟩
        case measure => simp [intOf]; omega
      · have hf2 := Lib.hid (allTo_hit (f := fun k => (L.getD k default).same (M.getD k default)) hlt (show (L.getD k default).same (M.getD k default) = false by rw [hg.out]; exact RSector.same_no hab))
        rcases RSector.diff hab with h0 | ⟨h0, h1⟩ | ⟨h0, h1, h2⟩
        · have hx : (a.f0 == b.f0) = false := beq_eq_false_iff_ne.2 h0
          have dp0 : wr.cell? ⟨bp, op + k * 3, none⟩ = some (.int .i64 a.f0) := by have := hep 0 _ rfl; simpa [Nat.add_assoc, *] using this
          have dp1 : wr.cell? ⟨bp, op + k * 3 + 1, none⟩ = some (.int .i64 a.f1) := by have := hep 1 _ rfl; simpa [Nat.add_assoc, *] using this
          have dp2 : wr.cell? ⟨bp, op + k * 3 + 2, none⟩ = some (.string a.f2) := by have := hep 2 _ rfl; simpa [Nat.add_assoc, *] using this
          have dq0 : wr.cell? ⟨bq, oq + k * 3, none⟩ = some (.int .i64 b.f0) := by have := heq 0 _ rfl; simpa [Nat.add_assoc, *] using this
          have dq1 : wr.cell? ⟨bq, oq + k * 3 + 1, none⟩ = some (.int .i64 b.f1) := by have := heq 1 _ rfl; simpa [Nat.add_assoc, *] using this
          have dq2 : wr.cell? ⟨bq, oq + k * 3 + 2, none⟩ = some (.string b.f2) := by have := heq 2 _ rfl; simpa [Nat.add_assoc, *] using this
          clear hep heq h0 hab
          have hwp : bp < wr.heap.size := by have := hB1.size; omega
          have hwq : bq < wr.heap.size := by have := hB1.size; omega
          go_wp2_with fail
          refine wp_region_grew (by kernel_rfl) (by kernel_rfl) ?_
          repeat (first | (go_big_quiet_step (fail)) | (quiet_step (fail)))
          refine wpQuiet_nil ?_
          rintro _ ⟨⟨w9, hb9⟩, rfl⟩
          try dsimp only
          go_wp2
          go_ret
          exact ⟨ret_bool (hm.out.trans hf2.out).symm, bnext hB1 hb9⟩
        · have hx : (a.f1 == b.f1) = false := beq_eq_false_iff_ne.2 h1
          have dp0 : wr.cell? ⟨bp, op + k * 3, none⟩ = some (.int .i64 b.f0) := by have := hep 0 _ rfl; simpa [Nat.add_assoc, *] using this
          have dp1 : wr.cell? ⟨bp, op + k * 3 + 1, none⟩ = some (.int .i64 a.f1) := by have := hep 1 _ rfl; simpa [Nat.add_assoc, *] using this
          have dp2 : wr.cell? ⟨bp, op + k * 3 + 2, none⟩ = some (.string a.f2) := by have := hep 2 _ rfl; simpa [Nat.add_assoc, *] using this
          have dq0 : wr.cell? ⟨bq, oq + k * 3, none⟩ = some (.int .i64 b.f0) := by have := heq 0 _ rfl; simpa [Nat.add_assoc, *] using this
          have dq1 : wr.cell? ⟨bq, oq + k * 3 + 1, none⟩ = some (.int .i64 b.f1) := by have := heq 1 _ rfl; simpa [Nat.add_assoc, *] using this
          have dq2 : wr.cell? ⟨bq, oq + k * 3 + 2, none⟩ = some (.string b.f2) := by have := heq 2 _ rfl; simpa [Nat.add_assoc, *] using this
          clear hep heq h0 h1 hab
          have hwp : bp < wr.heap.size := by have := hB1.size; omega
          have hwq : bq < wr.heap.size := by have := hB1.size; omega
          go_wp2_with fail
          refine wp_region_grew (by kernel_rfl) (by kernel_rfl) ?_
          repeat (first | (go_big_quiet_step (fail)) | (quiet_step (fail)))
          refine wpQuiet_nil ?_
          rintro _ ⟨⟨w9, hb9⟩, rfl⟩
          try dsimp only
          go_wp2
          go_ret
          exact ⟨ret_bool (hm.out.trans hf2.out).symm, bnext hB1 hb9⟩
        · have hx := bytes_ne h2
          have dp0 : wr.cell? ⟨bp, op + k * 3, none⟩ = some (.int .i64 b.f0) := by have := hep 0 _ rfl; simpa [Nat.add_assoc, *] using this
          have dp1 : wr.cell? ⟨bp, op + k * 3 + 1, none⟩ = some (.int .i64 b.f1) := by have := hep 1 _ rfl; simpa [Nat.add_assoc, *] using this
          have dp2 : wr.cell? ⟨bp, op + k * 3 + 2, none⟩ = some (.string a.f2) := by have := hep 2 _ rfl; simpa [Nat.add_assoc, *] using this
          have dq0 : wr.cell? ⟨bq, oq + k * 3, none⟩ = some (.int .i64 b.f0) := by have := heq 0 _ rfl; simpa [Nat.add_assoc, *] using this
          have dq1 : wr.cell? ⟨bq, oq + k * 3 + 1, none⟩ = some (.int .i64 b.f1) := by have := heq 1 _ rfl; simpa [Nat.add_assoc, *] using this
          have dq2 : wr.cell? ⟨bq, oq + k * 3 + 2, none⟩ = some (.string b.f2) := by have := heq 2 _ rfl; simpa [Nat.add_assoc, *] using this
          clear hep heq h0 h1 h2 hab
          have hwp : bp < wr.heap.size := by have := hB1.size; omega
          have hwq : bq < wr.heap.size := by have := hB1.size; omega
          go_wp2_with fail
          refine wp_region_grew (by kernel_rfl) (by kernel_rfl) ?_
          repeat (first | (go_big_quiet_step (fail)) | (quiet_step (fail)))
          refine wpQuiet_nil ?_
          rintro _ ⟨⟨w9, hb9⟩, rfl⟩
          try dsimp only
          go_wp2
          go_ret
          exact ⟨ret_bool (hm.out.trans hf2.out).symm, bnext hB1 hb9⟩
    · obtain rfl : k = L.length := by omega
      go_wp2
      go_ret
      exact ⟨ret_bool (hm.out.trans hv'.out).symm, by go_grown⟩
set_option maxHeartbeats 1600000 in
theorem impl_sameSector (L M : List RSector) (A A2 : Option Addr) (c c2 B : Nat) (w : World) (hs : Sl w B A (flat RSector.cells L)) (hs2 : Sl w B A2 (flat RSector.cells M)) (hB : B ≤ w.heap.size) (hl : L.length ≤ 1048576) (hl2 : M.length ≤ 1048576) : Calls Try.prog 35 #[.slice A L.length c, .slice A2 M.length c2] w fun e w' => e = .returned (.bool (sameSectorM L M)) ∧ Below w.heap.size w w' := by
  have hs' := Lib.hid hs
  have hs2' := Lib.hid hs2
  clear hs hs2
  by_cases hlen : L.length = M.length
  rotate_left
  · have hm : Hid (sameSectorM L M = false) := by apply Lib.hid; unfold sameSectorM; rw [decide_eq_false hlen]; rfl
    have hne : ((L.length : Int) == (M.length : Int)) = false := beq_eq_false_iff_ne.2 (by omega)
    clear hlen
    go_enter Try.func35, Try.ntmps35
    go_wp2
    go_ret
    exact ⟨ret_bool hm.out.symm, by go_grown⟩
  have hm : Hid (sameSectorM L M = allTo (fun k => (L.getD k default).same (M.getD k default)) L.length) := by apply Lib.hid; unfold sameSectorM; rw [decide_eq_true hlen]; rfl
  have hlen' := Lib.hid hlen
  rw [← hlen]
  clear hlen
  go_enter Try.func35, Try.ntmps35
  go_wp2
  go_loopw [13] (fun i wr => ∃ k : Nat, i = .int .i64 k ∧ k ≤ L.length ∧ allTo (fun k => (L.getD k default).same (M.getD k default)) k = true ∧ Below w.heap.size w wr) (fun i _ => L.length - (intOf i).toNat)
  case atStart => exact ⟨0, rfl, Nat.zero_le _, rfl, by go_grown⟩
  case round =>
    obtain ⟨k, rfl, hk, hv, hB1⟩ := hrel
    have hv' := Lib.hid hv
    clear hv
    by_cases hlt : k < L.length
    · have hltM : k < M.length := by have := hlen'.out; omega
      obtain ⟨bp, op, rfl, hbp, hep⟩ := Sl.elem RSector.len (by decide) (hs'.out.below (hB1.mono hB)) hlt
      obtain ⟨bq, oq, rfl, hbq, heq⟩ := Sl.elem RSector.len (by decide) (hs2'.out.below (hB1.mono hB)) hltM
      have hg : Hid ((L.getD k default).same (M.getD k default) = (L[k]).same (M[k])) := by apply Lib.hid; rw [List.getD_eq_getElem?_getD, List.getD_eq_getElem?_getD, List.getElem?_eq_getElem hlt, List.getElem?_eq_getElem hltM]; rfl
      obtain ⟨a, ha⟩ : ∃ a, L[k] = a := ⟨_, rfl⟩
      obtain ⟨b, hb⟩ : ∃ b, M[k] = b := ⟨_, rfl⟩
      rw [ha, hb] at hg
      rw [ha] at hep
      rw [hb] at heq
      clear ha hb
      by_cases hab : a = b
      · obtain rfl := hab
        have hf2 := Lib.hid (allTo_step (f := fun k => (L.getD k default).same (M.getD k default)) hv'.out (show (L.getD k default).same (M.getD k default) = true by rw [hg.out]; exact RSector.same_yes _))
        have dp0 : wr.cell? ⟨bp, op + k * 3, none⟩ = some (.int .i64 a.f0) := by have := hep 0 _ rfl; simpa [Nat.add_assoc, *] using this
        have dp1 : wr.cell? ⟨bp, op + k * 3 + 1, none⟩ = some (.int .i64 a.f1) := by have := hep 1 _ rfl; simpa [Nat.add_assoc, *] using this
        have dp2 : wr.cell? ⟨bp, op + k * 3 + 2, none⟩ = some (.string a.f2) := by have := hep 2 _ rfl; simpa [Nat.add_assoc, *] using this
        have dq0 : wr.cell? ⟨bq, oq + k * 3, none⟩ = some (.int .i64 a.f0) := by have := heq 0 _ rfl; simpa [Nat.add_assoc, *] using this
        have dq1 : wr.cell? ⟨bq, oq + k * 3 + 1, none⟩ = some (.int .i64 a.f1) := by have := heq 1 _ rfl; simpa [Nat.add_assoc, *] using this
        have dq2 : wr.cell? ⟨bq, oq + k * 3 + 2, none⟩ = some (.string a.f2) := by have := heq 2 _ rfl; simpa [Nat.add_assoc, *] using this
        clear hep heq
        have hwp : bp < wr.heap.size := by have := hB1.size; omega
        have hwq : bq < wr.heap.size := by have := hB1.size; omega
        go_wp2_with fail
        refine wp_region_grew (by kernel_rfl) (by kernel_rfl) ?_
        repeat (first | (go_big_quiet_step (fail)) | (quiet_step (fail)))
        refine wpQuiet_nil ?_
        rintro _ ⟨⟨w9, hb9⟩, rfl⟩
        try dsimp only
        go_wp2
        go_roundw
        case rel => exact ⟨k + 1, by go_num, by omega, hf2.out, bnext hB1 hb9⟩
        case measure => simp [intOf]; omega
      · have hf2 := Lib.hid (allTo_hit (f := fun k => (L.getD k default).same (M.getD k default)) hlt (show (L.getD k default).same (M.getD k default) = false by rw [hg.out]; exact RSector.same_no hab))
        rcases RSector.diff hab with h0 | ⟨h0, h1⟩ | ⟨h0, h1, h2⟩
        · have hx : (a.f0 == b.f0) = false := beq_eq_false_iff_ne.2 h0
          have dp0 : wr.cell? ⟨bp, op + k * 3, none⟩ = some (.int .i64 a.f0) := by have := hep 0 _ rfl; simpa [Nat.add_assoc, *] using this
          have dp1 : wr.cell? ⟨bp, op + k * 3 + 1, none⟩ = some (.int .i64 a.f1) := by have := hep 1 _ rfl; simpa [Nat.add_assoc, *] using this
          have dp2 : wr.cell? ⟨bp, op + k * 3 + 2, none⟩ = some (.string a.f2) := by have := hep 2 _ rfl; simpa [Nat.add_assoc, *] using this
          have dq0 : wr.cell? ⟨bq, oq + k * 3, none⟩ = some (.int .i64 b.f0) := by have := heq 0 _ rfl; simpa [Nat.add_assoc, *] using this
          have dq1 : wr.cell? ⟨bq, oq + k * 3 + 1, none⟩ = some (.int .i64 b.f1) := by have := heq 1 _ rfl; simpa [Nat.add_assoc, *] using this
          have dq2 : wr.cell? ⟨bq, oq + k * 3 + 2, none⟩ = some (.string b.f2) := by have := heq 2 _ rfl; simpa [Nat.add_assoc, *] using this
          clear hep heq h0 hab
          have hwp : bp < wr.heap.size := by have := hB1.size; omega
          have hwq : bq < wr.heap.size := by have := hB1.size; omega
          go_wp2_with fail
          refine wp_region_grew (by kernel_rfl) (by kernel_rfl) ?_
          repeat (first | (go_big_quiet_step (fail)) | (quiet_step (fail)))
          refine wpQuiet_nil ?_
          rintro _ ⟨⟨w9, hb9⟩, rfl⟩
          try dsimp only
          go_wp2
          go_ret
          exact ⟨ret_bool (hm.out.trans hf2.out).symm, bnext hB1 hb9⟩
        · have hx : (a.f1 == b.f1) = false := beq_eq_false_iff_ne.2 h1
          have dp0 : wr.cell? ⟨bp, op + k * 3, none⟩ = some (.int .i64 b.f0) := by have := hep 0 _ rfl; simpa [Nat.add_assoc, *] using this
          have dp1 : wr.cell? ⟨bp, op + k * 3 + 1, none⟩ = some (.int .i64 a.f1) := by have := hep 1 _ rfl; simpa [Nat.add_assoc, *] using this
          have dp2 : wr.cell? ⟨bp, op + k * 3 + 2, none⟩ = some (.string a.f2) := by have := hep 2 _ rfl; simpa [Nat.add_assoc, *] using this
          have dq0 : wr.cell? ⟨bq, oq + k * 3, none⟩ = some (.int .i64 b.f0) := by have := heq 0 _ rfl; simpa [Nat.add_assoc, *] using this
          have dq1 : wr.cell? ⟨bq, oq + k * 3 + 1, none⟩ = some (.int .i64 b.f1) := by have := heq 1 _ rfl; simpa [Nat.add_assoc, *] using this
          have dq2 : wr.cell? ⟨bq, oq + k * 3 + 2, none⟩ = some (.string b.f2) := by have := heq 2 _ rfl; simpa [Nat.add_assoc, *] using this
          clear hep heq h0 h1 hab
          have hwp : bp < wr.heap.size := by have := hB1.size; omega
          have hwq : bq < wr.heap.size := by have := hB1.size; omega
          go_wp2_with fail
          refine wp_region_grew (by kernel_rfl) (by kernel_rfl) ?_
          repeat (first | (go_big_quiet_step (fail)) | (quiet_step (fail)))
          refine wpQuiet_nil ?_
          rintro _ ⟨⟨w9, hb9⟩, rfl⟩
          try dsimp only
          go_wp2
          go_ret
          exact ⟨ret_bool (hm.out.trans hf2.out).symm, bnext hB1 hb9⟩
        · have hx := bytes_ne h2
          have dp0 : wr.cell? ⟨bp, op + k * 3, none⟩ = some (.int .i64 b.f0) := by have := hep 0 _ rfl; simpa [Nat.add_assoc, *] using this
          have dp1 : wr.cell? ⟨bp, op + k * 3 + 1, none⟩ = some (.int .i64 b.f1) := by have := hep 1 _ rfl; simpa [Nat.add_assoc, *] using this
          have dp2 : wr.cell? ⟨bp, op + k * 3 + 2, none⟩ = some (.string a.f2) := by have := hep 2 _ rfl; simpa [Nat.add_assoc, *] using this
          have dq0 : wr.cell? ⟨bq, oq + k * 3, none⟩ = some (.int .i64 b.f0) := by have := heq 0 _ rfl; simpa [Nat.add_assoc, *] using this
          have dq1 : wr.cell? ⟨bq, oq + k * 3 + 1, none⟩ = some (.int .i64 b.f1) := by have := heq 1 _ rfl; simpa [Nat.add_assoc, *] using this
          have dq2 : wr.cell? ⟨bq, oq + k * 3 + 2, none⟩ = some (.string b.f2) := by have := heq 2 _ rfl; simpa [Nat.add_assoc, *] using this
          clear hep heq h0 h1 h2 hab
          have hwp : bp < wr.heap.size := by have := hB1.size; omega
          have hwq : bq < wr.heap.size := by have := hB1.size; omega
          go_wp2_with fail
          refine wp_region_grew (by kernel_rfl) (by kernel_rfl) ?_
          repeat (first | (go_big_quiet_step (fail)) | (quiet_step (fail)))
          refine wpQuiet_nil ?_
          rintro _ ⟨⟨w9, hb9⟩, rfl⟩
          try dsimp only
          go_wp2
          go_ret
          exact ⟨ret_bool (hm.out.trans hf2.out).symm, bnext hB1 hb9⟩
    · obtain rfl : k = L.length := by omega
      go_wp2
      go_ret
      exact ⟨ret_bool (hm.out.trans hv'.out).symm, by go_grown⟩
structure RMark where
  f0 : Int
  f1 : ByteArray
  f2 : ByteArray
  f3 : ByteArray
instance : Inhabited RMark := ⟨⟨0, ⟨#[]⟩, ⟨#[]⟩, ⟨#[]⟩⟩⟩
def RMark.cells (a : RMark) : List Value := [.int .i64 a.f0, .string a.f1, .string a.f2, .string a.f3]
theorem RMark.len (a : RMark) : a.cells.length = 4 := rfl
def RMark.ok (a : RMark) : Prop := IntKind.i64.has a.f0 ∧ a.f1.size ≤ maxLen ∧ a.f2.size ≤ maxLen ∧ a.f3.size ≤ maxLen
def RMark.same (a b : RMark) : Bool := decide (a.f0 = b.f0) && (decide (a.f1 = b.f1) && (decide (a.f2 = b.f2) && (decide (a.f3 = b.f3))))
set_option maxHeartbeats 1600000 in
theorem toMark_any (f0 : Int) (f1 : ByteArray) (f2 : ByteArray) (f3 : ByteArray) (w : World) : Calls Try.prog 53 #[.agg #[.int .i64 f0, .string f1, .string f2, .string f3]] w fun e w' => e = .returned (.agg #[.int .i64 f0, .string f1, .string f2, .string f3]) ∧ Below w.heap.size w w' := by
  go_enter Try.func53, Try.ntmps53
  go_wp2
  go_returns
  exact ⟨rfl, by go_grown⟩
set_option maxHeartbeats 1600000 in
theorem eqMark_same (f0 : Int) (f1 : ByteArray) (f2 : ByteArray) (f3 : ByteArray) (w : World) : Calls Try.prog 58 #[.agg #[.int .i64 f0, .string f1, .string f2, .string f3], .agg #[.int .i64 f0, .string f1, .string f2, .string f3]] w fun e w' => e = .returned (.bool true) ∧ Below w.heap.size w w' := by
  go_enter Try.func58, Try.ntmps58
  go_wp2
  all_goals (go_ret; exact ⟨rfl, by go_grown⟩)
theorem szAll_bd {α : Type} {f : α → Nat} : ∀ (L : List α) (l : Int), -1 ≤ l → -1 ≤ szAll f l L
  | [], l, h => h
  | a :: L, l, h => by
    simp only [szAll]
    split
    · omega
    · exact szAll_bd L _ (by omega)
theorem szS_bd {α : Type} {f : α → Nat} {l : Int} (h : -1 ≤ l) (L : List α) : -1 ≤ szS f l L ∧ szS f l L ≤ l := by
  unfold szS
  split
  · omega
  · have h1 := szAll_bd (f := f) L (l - L.length) (by omega)
    have h2 := szAll_le (f := f) L (l - L.length) (by omega)
    omega
theorem wp_atN {P : Program} {c : Code} {Q : Exit → Act → World → Prop} {a : Act} {W : World} (h : ∀ wf, wf = W → Code.wp P c Q a wf) : Code.wp P c Q a W := h W rfl
theorem end_atN {P : Program} {f : Func} {post : Ending → World → Prop} {e : Exit} {a : Act} {W : World} (h : ∀ wf, wf = W → bodyPost P f post e a wf) : bodyPost P f post e a W := h W rfl
/-- What a size gives: what is left, and what is known where something is left. -/
def SzPost (l : Int) (fits : Prop) (w : World) (e : Ending) (w' : World) : Prop := ∃ r : Int, ((-1 ≤ r ∧ r ≤ l) ∧ (0 ≤ r → fits)) ∧ e = .returned (.int .i64 r) ∧ Below w.heap.size w w'

/-- The cells xs lie from the beginning of a block that is not elder than lo. -/
def AtB (w : World) (lo b : Nat) (xs : List Value) : Prop := (lo ≤ b ∧ b < w.heap.size) ∧ ∀ (j : Nat) (u : Value), xs[j]? = some u → w.cell? ⟨b, j, none⟩ = some u
theorem AtB.on {w w' : World} {lo b : Nat} {xs : List Value} (h : AtB w lo b xs) (hb : Below w.heap.size w w') : AtB w' lo b xs :=
  ⟨⟨h.1.1, Nat.lt_of_lt_of_le h.1.2 hb.size⟩, fun j u hu => (hb.cell (p := ⟨b, j, none⟩) h.1.2).trans (h.2 j u hu)⟩
theorem AtB.less {w : World} {lo lo' b : Nat} {xs : List Value} (h : AtB w lo b xs) (hl : lo' ≤ lo) : AtB w lo' b xs := ⟨⟨Nat.le_trans hl h.1.1, h.1.2⟩, h.2⟩
theorem AtB.set {w : World} {lo b g k : Nat} {xs : List Value} {v : Value} (h : AtB w lo b xs) (hg : g < lo) : AtB (w.setCell ⟨g, k, none⟩ v) lo b xs :=
  ⟨⟨h.1.1, by simpa using h.1.2⟩, fun j u hu => by
    rw [World.cell?_setCell_other _ _ _ _ (fun e => absurd (congrArg Addr.block e) (by have := h.1.1; show ¬ g = b; omega))]
    exact h.2 j u hu⟩
theorem AtB.sl {w : World} {lo b : Nat} {xs : List Value} (h : AtB w lo b xs) : Sl w w.heap.size (some ⟨b, 0, none⟩) xs := fun _ =>
  ⟨b, 0, rfl, h.1.2, fun j u hu => by rw [Nat.zero_add]; exact h.2 j u hu⟩
theorem AtB.new {w' : World} {g : Nat} {xs : List Value} (hg : g < w'.heap.size) (h : Sl w' (g + 1) (some ⟨g, 0, none⟩) xs) : AtB w' g g xs :=
  ⟨⟨Nat.le_refl _, hg⟩, fun j u hu => by
    obtain ⟨b, o, e, hb, hc⟩ := h (by intro e; rw [e] at hu; simp at hu)
    cases e
    have := hc j u hu
    rwa [Nat.zero_add] at this⟩

theorem szMark_rec (k : Int) (a b c : ByteArray) (ha : a.size ≤ maxLen) (hb : b.size ≤ maxLen) (hc : c.size ≤ maxLen) (l : Int) (h1 : -1 ≤ l) (h2 : l ≤ 1048576) (w : World) : Calls Try.prog 48 #[.agg #[.int .i64 k, .string a, .string b, .string c], .int .i64 l] w (SzPost l True w) := by
  have ha2 : a.size ≤ 9223372036854775807 := by simpa [maxLen, IntKind.max, IntKind.bits, IntKind.signed] using ha
  have hb2 : b.size ≤ 9223372036854775807 := by simpa [maxLen, IntKind.max, IntKind.bits, IntKind.signed] using hb
  have hc2 : c.size ≤ 9223372036854775807 := by simpa [maxLen, IntKind.max, IntKind.bits, IntKind.signed] using hc
  clear ha hb hc
  by_cases n1 : l - (a.size : Int) < 0
  · go_enter Try.func48, Try.ntmps48
    go_wp2
    go_ret
    exact ⟨-1, ⟨⟨by omega, by omega⟩, fun _ => trivial⟩, rfl, by go_grown⟩
  by_cases n2 : l - (a.size : Int) - (b.size : Int) < 0
  · go_enter Try.func48, Try.ntmps48
    go_wp2
    go_ret
    exact ⟨-1, ⟨⟨by omega, by omega⟩, fun _ => trivial⟩, rfl, by go_grown⟩
  by_cases n3 : l - (a.size : Int) - (b.size : Int) - (c.size : Int) < 0
  · go_enter Try.func48, Try.ntmps48
    go_wp2
    go_ret
    exact ⟨-1, ⟨⟨by omega, by omega⟩, fun _ => trivial⟩, rfl, by go_grown⟩
  · go_enter Try.func48, Try.ntmps48
    go_wp2
    go_ret
    exact ⟨l - (a.size : Int) - (b.size : Int) - (c.size : Int), ⟨⟨by omega, by omega⟩, fun _ => trivial⟩, rfl, by go_grown⟩

set_option maxHeartbeats 800000 in
theorem szCharacter_rec (k : Int) (A : Option Addr) (n c : Nat) (a b : ByteArray) (p : Int) (hn : n ≤ maxLen) (ha : a.size ≤ maxLen) (hb : b.size ≤ maxLen) (l : Int) (h1 : -1 ≤ l) (h2 : l ≤ 1048576) (w : World) : Calls Try.prog 49 #[.agg #[.int .i64 k, .slice A n c, .string a, .string b, .int .i64 p], .int .i64 l] w (SzPost l (n ≤ 1048576) w) := by
  have ha2 : a.size ≤ 9223372036854775807 := by simpa [maxLen, IntKind.max, IntKind.bits, IntKind.signed] using ha
  have hb2 : b.size ≤ 9223372036854775807 := by simpa [maxLen, IntKind.max, IntKind.bits, IntKind.signed] using hb
  clear ha hb
  obtain ⟨z, hz⟩ : ∃ z, szR l n = z := ⟨_, rfl⟩
  have hC : ∀ w, Calls Try.prog 70 #[.slice A n c, .int .i64 l] w fun e w' => e = .returned (.int .i64 z) ∧ w = w' := fun w => by rw [← hz]; exact szInt64S_any _ _ _ _ h1 h2 hn w
  by_cases hq : z < 0
  · have hz1 : z = -1 := by rw [← hz] at hq ⊢; exact (szR_lt hq).2
    clear hz
    go_enter Try.func49, Try.ntmps49
    go_wp2_with (go_at_call 70; refine (hC _).mono ?_; rintro e w' ⟨rfl, rfl⟩)
    go_ret
    exact ⟨-1, ⟨⟨by omega, by omega⟩, fun h => by omega⟩, by first | rfl | (rw [hz1]), by go_grown⟩
  have hz1 : z = l - n ∧ ¬ l - n < 0 := by rw [← hz] at hq ⊢; exact ⟨(szR_ge hq).2, (szR_ge hq).1⟩
  have hz2 : z ≤ l ∧ n ≤ 1048576 := by omega
  clear hz1 hz
  by_cases n1 : z - (a.size : Int) < 0
  · go_enter Try.func49, Try.ntmps49
    go_wp2_with (go_at_call 70; refine (hC _).mono ?_; rintro e w' ⟨rfl, rfl⟩)
    go_ret
    exact ⟨-1, ⟨⟨by omega, by omega⟩, fun h => by omega⟩, rfl, by go_grown⟩
  by_cases n2 : z - (a.size : Int) - (b.size : Int) < 0
  · go_enter Try.func49, Try.ntmps49
    go_wp2_with (go_at_call 70; refine (hC _).mono ?_; rintro e w' ⟨rfl, rfl⟩)
    go_ret
    exact ⟨-1, ⟨⟨by omega, by omega⟩, fun h => by omega⟩, rfl, by go_grown⟩
  · go_enter Try.func49, Try.ntmps49
    go_wp2_with (go_at_call 70; refine (hC _).mono ?_; rintro e w' ⟨rfl, rfl⟩)
    go_ret
    exact ⟨z - (a.size : Int) - (b.size : Int), ⟨⟨by omega, by omega⟩, fun h => by omega⟩, rfl, by go_grown⟩

set_option maxHeartbeats 1600000 in
theorem toCharacter_any (k : Int) (G : List Int) (A : Option Addr) (c : Nat) (a b : ByteArray) (p : Int) (B : Nat) (w : World) (hs : Sl w B A (ints G)) (hB : B ≤ w.heap.size) (hl : G.length ≤ 1048576) : Calls Try.prog 54 #[.agg #[.int .i64 k, .slice A G.length c, .string a, .string b, .int .i64 p]] w fun e w' => ∃ g : Nat, e = .returned (.agg #[.int .i64 k, .slice (some ⟨g, 0, none⟩) G.length G.length, .string a, .string b, .int .i64 p]) ∧ Below w.heap.size w w' ∧ AtB w' w.heap.size g (ints G) := by
  have hs' := Lib.hid hs
  clear hs
  go_enter Try.func54, Try.ntmps54
  go_wp2_with fail
  refine (toInt64S_any G A c B _ (hs'.out.below ((show Below w.heap.size w _ by go_grown).mono hB)) (by (try simp); (try omega)) hl).mono ?_
  rintro e w1 ⟨rfl, hb1, hn1, r1⟩
  have hB1 : Below w.heap.size w w1 := bnext (by go_grown) hb1
  have hat := AtB.new hn1 r1
  (have hz1 : w.heap.size < w1.heap.size := by have := hb1.size; (try simp only [World.size_alloc, World.size_setCell, World.size_drew] at this); omega); (have hy1 : w.heap.size + 1 < w1.heap.size := by have := hb1.size; (try simp only [World.size_alloc, World.size_setCell, World.size_drew] at this); omega); (have hx1 : w.heap.size + 2 < w1.heap.size := by have := hb1.size; (try simp only [World.size_alloc, World.size_setCell, World.size_drew] at this); omega)
  obtain ⟨hc1, hf1⟩ := bcell hb1
  simp only [World.size_alloc, World.size_setCell] at hat hn1
  clear hb1 r1
  go_upto_region 7 with fail
  refine wp_atN ?_
  intro w2 hw2
  have hB2 : Below w.heap.size w w2 := by rw [hw2]; go_grown
  have hat2 : AtB w2 (w.heap.size + 1 + 1 + 1) (w.heap.size + 1 + 1 + 1) (ints G) := by
    rw [hw2]
    repeat (refine AtB.set ?_ (by omega))
    exact hat
  have hz2 : w.heap.size + 2 < w2.heap.size := by rw [hw2]; simpa using hx1
  obtain ⟨o0, o1, o2, o3, o4⟩ : w2.cell? ⟨w.heap.size + 1 + 1, 0, none⟩ = some (.int .i64 k) ∧ w2.cell? ⟨w.heap.size + 1 + 1, 1, none⟩ = some (.slice (some ⟨w.heap.size + 1 + 1 + 1, 0, none⟩) G.length G.length) ∧ w2.cell? ⟨w.heap.size + 1 + 1, 2, none⟩ = some (.string a) ∧ w2.cell? ⟨w.heap.size + 1 + 1, 3, none⟩ = some (.string b) ∧ w2.cell? ⟨w.heap.size + 1 + 1, 4, none⟩ = some (.int .i64 p) := by rw [hw2]; refine ⟨?_, ?_, ?_, ?_, ?_⟩ <;> simp [go_sem, hc1]
  obtain ⟨q0, q1, q2, q3, q4⟩ : w2.cell? ⟨w.heap.size + 1, 0, none⟩ = some (.int .i64 0) ∧ w2.cell? ⟨w.heap.size + 1, 1, none⟩ = some (.slice none 0 0) ∧ w2.cell? ⟨w.heap.size + 1, 2, none⟩ = some (.string ⟨#[]⟩) ∧ w2.cell? ⟨w.heap.size + 1, 3, none⟩ = some (.string ⟨#[]⟩) ∧ w2.cell? ⟨w.heap.size + 1, 4, none⟩ = some (.int .i64 0) := by rw [hw2]; refine ⟨?_, ?_, ?_, ?_, ?_⟩ <;> simp [go_sem, hc1]
  obtain ⟨x0, x1, x2, x3, x4⟩ : w2.frozen? ⟨w.heap.size + 1, 0, none⟩ = false ∧ w2.frozen? ⟨w.heap.size + 1, 1, none⟩ = false ∧ w2.frozen? ⟨w.heap.size + 1, 2, none⟩ = false ∧ w2.frozen? ⟨w.heap.size + 1, 3, none⟩ = false ∧ w2.frozen? ⟨w.heap.size + 1, 4, none⟩ = false := by rw [hw2]; refine ⟨?_, ?_, ?_, ?_, ?_⟩ <;> simp [go_sem, hf1]
  clear hw2 hc1 hf1 hB1 hat hz1 hy1 hx1 hn1
  go_wp2_with fail
  refine end_atN ?_
  intro wf hwf
  obtain ⟨t0, t1, t2, t3, t4⟩ : wf.cell? ⟨w.heap.size + 1, 0, none⟩ = some (.int .i64 k) ∧ wf.cell? ⟨w.heap.size + 1, 1, none⟩ = some (.slice (some ⟨w.heap.size + 1 + 1 + 1, 0, none⟩) G.length G.length) ∧ wf.cell? ⟨w.heap.size + 1, 2, none⟩ = some (.string a) ∧ wf.cell? ⟨w.heap.size + 1, 3, none⟩ = some (.string b) ∧ wf.cell? ⟨w.heap.size + 1, 4, none⟩ = some (.int .i64 p) := by rw [hwf]; refine ⟨?_, ?_, ?_, ?_, ?_⟩ <;> simp [go_sem, q0, q1, q2, q3, q4]
  have hBf : Below w.heap.size w wf := by rw [hwf]; go_grown
  have hatf : AtB wf (w.heap.size + 1 + 1 + 1) (w.heap.size + 1 + 1 + 1) (ints G) := by
    rw [hwf]
    repeat (refine AtB.set ?_ (by omega))
    exact hat2
  clear hwf
  refine bodyPost_ret (by simp [results, go_sem, t0, t1, t2, t3, t4]; try rfl) rfl ?_
  exact ⟨_, rfl, hBf, hatf.less (by omega)⟩
end Go.Proofs.Ythjkkidcpidgdaa
