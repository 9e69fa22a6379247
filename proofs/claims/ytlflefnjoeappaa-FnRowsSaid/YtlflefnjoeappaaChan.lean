/-
  Contracts of channels: what makes one valid, and whether two are equal: the program's and the reference's. Each under the conditions that it states.
-/
import Derived.Test.YtlflefnjoeappaaText1
import Derived.Test.YtlflefnjoeappaaRow
import Derived.Test.YtlflefnjoeappaaPoints
import Derived.Test.YtlflefnjoeappaaMark
set_option linter.unusedVariables false
set_option linter.unnecessarySimpa false
set_option maxRecDepth 100000
set_option linter.unusedSimpArgs false
namespace Go.Proofs.Ytlflefnjoeappaa
open Go.RowKit BigFrame

def szN (left : Int) (n : Nat) : Int := if left - n < 0 then -1 else left - n
structure RPoint where
  f0 : Int
  f1 : Int
instance : Inhabited RPoint := ⟨⟨0, 0⟩⟩
def RPoint.cells (a : RPoint) : List Value := [.int .i64 a.f0, .int .i64 a.f1]
theorem RPoint.len (a : RPoint) : a.cells.length = 2 := rfl
def RPoint.ok (a : RPoint) : Prop := IntKind.i64.has a.f0 ∧ IntKind.i64.has a.f1
def RPoint.same (a b : RPoint) : Bool := decide (a.f0 = b.f0) && (decide (a.f1 = b.f1))
section
open Go.ChangeShapes Go.WideShapes Go.ChangeAt Go.Deep
theorem trod_Point {H : Type} {enc : TypeId × Value → H} {w : World} {b : Nat} {spare : Nat → Bool} {held : Bool} {m : Nat} {c : List Value} {y : DataW H × List MemPlace} (h : DataW.trod enc Try.prog w b spare held m 84 c = some y) : ∃ a : RPoint, c = a.cells ∧ a.ok := by
  have hc : c.length = 2 := by
    obtain ⟨_, _, _, _, hl, _⟩ := DataW.trod_struct Try.underlying84 h
    exact hl.trans (by kernel_rfl)
  obtain ⟨c0, c1, rfl⟩ : ∃ c0 c1, c = [c0, c1] := by
    match c, hc with
    | [c0, c1], _ => exact ⟨c0, c1, rfl⟩
  obtain ⟨xsc0_c1, nc0_c1, _, _, _, hlc0_c1, hfc0_c1⟩ := DataW.trod_struct Try.underlying84 h
  have gc0_c1_0 := (hfc0_c1 0 _ rfl).trans (List.getElem?_eq_getElem (by rw [hlc0_c1]; decide))
  obtain ⟨zc0, ec0, _, qc0⟩ := DataW.trod_int Try.underlying2 (show DataW.trod enc Try.prog w b spare held nc0_c1 2 [c0] = _ from gc0_c1_0)
  have gc0_c1_1 := (hfc0_c1 1 _ rfl).trans (List.getElem?_eq_getElem (by rw [hlc0_c1]; decide))
  obtain ⟨zc1, ec1, _, qc1⟩ := DataW.trod_int Try.underlying2 (show DataW.trod enc Try.prog w b spare held nc0_c1 2 [c1] = _ from gc0_c1_1)
  obtain rfl : c0 = _ := by simpa using ec0
  obtain rfl : c1 = _ := by simpa using ec1
  exact ⟨⟨zc0, zc1⟩, rfl, (by simpa [Lit.wf, IntKind.has] using qc0), (by simpa [Lit.wf, IntKind.has] using qc1)⟩
end
set_option maxHeartbeats 1600000 in
theorem eqPoint_same (f0 : Int) (f1 : Int) (w : World) : Calls Try.prog 148 #[.agg #[.int .i64 f0, .int .i64 f1], .agg #[.int .i64 f0, .int .i64 f1]] w fun e w' => e = .returned (.bool true) ∧ Below w.heap.size w w' := by
  go_enter Try.func148, Try.ntmps148
  go_wp2
  all_goals (go_ret; exact ⟨rfl, by go_grown⟩)
theorem szPointS_any (n : Nat) (A : Option Addr) (c : Nat) (l : Int) (h1 : -1 ≤ l) (h2 : l ≤ 1048576) (hn : n ≤ maxLen) (w : World) : Calls Try.prog 95 #[.slice A n c, .int .i64 l] w fun e w' => e = .returned (.int .i64 (szN l n)) ∧ w = w' := by
  have hn2 : n ≤ 9223372036854775807 := by simpa [maxLen, IntKind.max, IntKind.bits, IntKind.signed] using hn
  by_cases h : l - (n : Int) < 0
  · have hm : Hid (szN l n = -1) := by apply Lib.hid; unfold szN; rw [if_pos h]
    go_enter Try.func95, Try.ntmps95
    go_wp2
    go_ret
    exact ⟨ret_int hm.out.symm, rfl⟩
  · have hm : Hid (szN l n = l - n) := by apply Lib.hid; unfold szN; rw [if_neg h]
    go_enter Try.func95, Try.ntmps95
    go_wp2
    go_ret
    exact ⟨ret_int hm.out.symm, rfl⟩
set_option maxHeartbeats 1600000 in
theorem toPointS_own (L : List RPoint) (A : Option Addr) (c B : Nat) (w : World) (hs : Sl w B A (flat RPoint.cells L)) (hB : B ≤ w.heap.size) (hl : L.length ≤ 1048576) : Calls Try.prog 99 #[.slice A L.length c] w fun e w' => e = .returned (.slice (some ⟨w.heap.size, 0, none⟩) L.length L.length) ∧ Below w.heap.size w w' ∧ Own w' w.heap.size 52 (L.length * 2) (flat RPoint.cells L) := by
  have hmk : ∀ w : World, (Instr.makeSlice 47 (.int .i64 L.length) (.int .i64 L.length)).run Try.prog w = .ok (.slice (some ⟨w.heap.size, 0, none⟩) L.length L.length) (w.alloc (.cells (madeCells #[.int .i64 0, .int .i64 0] (L.length * 2)) 52)) := fun w => made_row (by_ := 16) w Try.underlying47 (by kernel_rfl) (by kernel_rfl) L.length (by omega) (by omega)
  have hs' := Lib.hid hs
  clear hs
  go_enter Try.func99, Try.ntmps99
  go_wp2
  have hO : Own (w.alloc (.cells (madeCells #[.int .i64 0, .int .i64 0] (L.length * 2)) 52)) w.heap.size 52 (L.length * 2) (flat RPoint.cells (L.take 0)) := own_made w _ _ _ _
  have hB0 : Below w.heap.size w (w.alloc (.cells (madeCells #[.int .i64 0, .int .i64 0] (L.length * 2)) 52)) := by go_grown
  clear hmk
  go_loopw [4] (fun i wr => ∃ k : Nat, i = .int .i64 k ∧ k ≤ L.length ∧ Below w.heap.size w wr ∧ Own wr w.heap.size 52 (L.length * 2) (flat RPoint.cells (L.take k))) (fun i _ => L.length - (intOf i).toNat)
  case atStart => exact ⟨0, rfl, Nat.zero_le _, hB0, hO⟩
  case round =>
    clear hB0 hO
    obtain ⟨k, rfl, hk, hB1, hO⟩ := hrel
    by_cases hlt : k < L.length
    · obtain ⟨b, o, rfl, hb, he⟩ := Sl.elem RPoint.len (by decide) (hs'.out.below (hB1.mono hB)) hlt
      have d0 : wr.cell? ⟨b, o + k * 2, none⟩ = some (.int .i64 L[k].f0) := by have := he 0 _ rfl; simpa [Nat.add_assoc] using this
      have d1 : wr.cell? ⟨b, o + k * 2 + 1, none⟩ = some (.int .i64 L[k].f1) := by have := he 1 _ rfl; simpa [Nat.add_assoc] using this
      have hkn : k * 2 + 2 ≤ L.length * 2 := by have := Nat.mul_le_mul_right 2 (show k + 1 ≤ L.length by omega); omega
      have hlen : (flat RPoint.cells (L.take k)).length = k * 2 := by rw [flat_len RPoint.len, List.length_take, Nat.min_eq_left hk]
      have hstep : flat RPoint.cells (L.take (k + 1)) = flat RPoint.cells (L.take k) ++ [.int .i64 L[k].f0] ++ [.int .i64 L[k].f1] := by rw [List.take_succ_eq_append_getElem hlt, flat_snoc]; simp [RPoint.cells]
      have hstep := Lib.hid hstep
      clear he
      go_wp2_with (go_at_call 147; refine (toPoint_any _ _ _).mono ?_; rintro e w1 ⟨rfl, hb1⟩; (have hO1 := hO.on hb1); obtain ⟨y0, x0⟩ := hO1.cell (i := k * 2) (by omega); have v0 := hO1.frozen (k * 2); obtain ⟨y1, x1⟩ := hO1.cell (i := k * 2 + 1) (by omega); have v1 := hO1.frozen (k * 2 + 1))
      go_roundw
      case rel => exact ⟨k + 1, by go_num, by omega, by have := bnext hB1 hb1; go_grown, by rw [hstep.out]; exact (Own.set (Own.set hO1 (by simp [hlen]) (by omega) _) (by simp [hlen]) (by omega) _)⟩
      case measure => simp [intOf]; omega
    · obtain rfl : k = L.length := by omega
      have hO2 : Own wr w.heap.size 52 (L.length * 2) (flat RPoint.cells L) := by rw [List.take_length] at hO; exact hO
      go_wp2
      go_ret
      exact ⟨rfl, hB1, hO2⟩
def ssPoint (j : Nat) : Bool := decide (j < 0)
set_option maxHeartbeats 1600000 in
theorem markPointS_any (B e : Nat) (v : Value) (n : Nat) (xs : List Value) (k0 : Nat) (w : World) (h : Rs w B e 2 v n xs) (hn : n ≤ 1048576) (h0 : 1 ≤ k0) (h1 : k0 ≤ 100000000) : Calls Try.prog 103 #[v, .int .i64 k0] w fun e' w' => e' = .returned (.int .i64 ((k0 : Int) + (n : Int) * 2)) ∧ w.grownBy w' v.ownBlock ∧ Rs w' B e 2 v n (marks ssPoint k0 (n * 2)) := by
  obtain ⟨hl, ⟨rfl, rfl⟩ | ⟨g, c, N, rfl, hB, hO⟩⟩ := h
  · go_enter Try.func103, Try.ntmps103
    go_wp2
    go_loopw [1, 5] (fun s i wr => s = .int .i64 k0 ∧ i = .int .i64 0 ∧ w = wr) (fun _ _ _ => 0)
    case atStart => exact ⟨rfl, rfl, rfl⟩
    case round =>
      obtain ⟨rfl, rfl, rfl⟩ := hrel
      go_wp2
      go_ret
      exact ⟨by simp, World.grownBy.refl _ _, by simpa [marks] using Rs.nil _ _ _ _⟩
  · have hN : n * 2 ≤ N := by obtain ⟨_, _, _, hxN, _⟩ := id hO; omega
    have hM0 : Own w g e N (marks ssPoint k0 (0 * 2)) := by simpa [marks] using hO.start
    clear hO
    go_enter Try.func103, Try.ntmps103
    go_wp2
    go_loopw [1, 5] (fun s i wr => ∃ k : Nat, s = .int .i64 ((k0 : Int) + (k : Int) * 2) ∧ i = .int .i64 k ∧ k ≤ n ∧ w.grownBy wr (some g) ∧ Own wr g e N (marks ssPoint k0 (k * 2))) (fun _ i _ => n - (intOf i).toNat)
    case atStart => exact ⟨0, by simp, rfl, Nat.zero_le _, World.grownBy.refl _ _, by simpa using hM0⟩
    case round =>
      clear hM0
      obtain ⟨k, rfl, rfl, hk, hg0, hM⟩ := hrel
      by_cases hlt : k < n
      · have hkN : k * 2 + 2 ≤ N := by omega
        obtain ⟨u0, x0⟩ := hM.cell (i := k * 2) (by omega)
        have y0 := hM.frozen (k * 2)
        replace hM := Own.mark hM (by omega) (i := k * 2) rfl (u := .int .i64 ((k0 : Int) + (k : Int) * 2)) (mv_int (by unfold ssPoint; exact decide_eq_false (by omega)) (by omega))
        obtain ⟨u1, x1⟩ := hM.cell (i := k * 2 + 1) (by omega)
        have y1 := hM.frozen (k * 2 + 1)
        replace hM := Own.mark hM (by omega) (i := k * 2 + 1) rfl (u := .int .i64 ((k0 : Int) + (k : Int) * 2 + 1)) (mv_int (by unfold ssPoint; exact decide_eq_false (by omega)) (by omega))
        have hM2 := Lib.hid hM
        clear hM
        go_wp2
        go_roundw
        case rel => exact ⟨k + 1, congrArg (Value.int .i64) (by omega), by go_num, by omega, (Go.Lib.grownBy_setB (Go.Lib.grownBy_setB hg0 _ _) _ _), by rw [show (k + 1) * 2 = k * 2 + 1 + 1 by omega]; exact hM2.out⟩
        case measure => simp [intOf]; omega
      · obtain rfl : k = n := by omega
        go_wp2
        go_ret
        exact ⟨rfl, hg0, by rw [marks_len], .inr ⟨g, c, N, rfl, hB, hM⟩⟩
set_option maxHeartbeats 1600000 in
theorem eqPointS_same (L : List RPoint) (A A2 : Option Addr) (c c2 B : Nat) (w : World) (hs : Sl w B A (flat RPoint.cells L)) (hs2 : Sl w B A2 (flat RPoint.cells L)) (hB : B ≤ w.heap.size) (hl : L.length ≤ 1048576) : Calls Try.prog 101 #[.slice A L.length c, .slice A2 L.length c2] w fun e w' => e = .returned (.bool true) ∧ Below w.heap.size w w' := by
  have hs' := Lib.hid hs
  have hs2' := Lib.hid hs2
  clear hs hs2
  go_enter Try.func101, Try.ntmps101
  go_wp2
  go_loopw [5] (fun i wr => ∃ k : Nat, i = .int .i64 k ∧ k ≤ L.length ∧ Below w.heap.size w wr) (fun i _ => L.length - (intOf i).toNat)
  case atStart => exact ⟨0, rfl, Nat.zero_le _, Below.refl _ _⟩
  case round =>
    obtain ⟨k, rfl, hk, hB1⟩ := hrel
    have hS1 := hB1.size
    by_cases hlt : k < L.length
    · obtain ⟨bp, op, rfl, hbp, hep⟩ := Sl.elem RPoint.len (by decide) (hs'.out.below (hB1.mono hB)) hlt
      have dp0 : wr.cell? ⟨bp, op + k * 2, none⟩ = some (.int .i64 L[k].f0) := by have := hep 0 _ rfl; simpa [Nat.add_assoc] using this
      have dp1 : wr.cell? ⟨bp, op + k * 2 + 1, none⟩ = some (.int .i64 L[k].f1) := by have := hep 1 _ rfl; simpa [Nat.add_assoc] using this
      have hwp : bp < wr.heap.size := by omega
      obtain ⟨bq, oq, rfl, hbq, heq⟩ := Sl.elem RPoint.len (by decide) (hs2'.out.below (hB1.mono hB)) hlt
      have dq0 : wr.cell? ⟨bq, oq + k * 2, none⟩ = some (.int .i64 L[k].f0) := by have := heq 0 _ rfl; simpa [Nat.add_assoc] using this
      have dq1 : wr.cell? ⟨bq, oq + k * 2 + 1, none⟩ = some (.int .i64 L[k].f1) := by have := heq 1 _ rfl; simpa [Nat.add_assoc] using this
      have hwq : bq < wr.heap.size := by omega
      clear hep heq
      go_wp2_with fail
      refine wp_region_grew (by kernel_rfl) (by kernel_rfl) ?_
      repeat (first | (go_big_quiet_step ((go_at_call 148; exact grew_of (eqPoint_same _ _ _)))) | (quiet_step ((go_at_call 148; exact grew_of (eqPoint_same _ _ _)))))
      refine wpQuiet_nil ?_
      rintro _ ⟨⟨w9, hb9⟩, rfl⟩
      try dsimp only
      go_wp2
      go_roundw
      case rel => exact ⟨k + 1, by go_num, by omega, bnext hB1 hb9⟩
      case measure => simp [intOf]; omega
    · obtain rfl : k = L.length := by omega
      go_wp2
      go_ret
      exact ⟨rfl, hB1⟩
/-- Number k of a line is valid, and another than the one ahead of it. -/
def okPt (P : List RPoint) (k : Nat) : Bool := vPoint (P.getD k default).f0 (P.getD k default).f1 && (decide (k = 0) || !((P.getD (k - 1) default).f0 == (P.getD k default).f0 && (P.getD (k - 1) default).f1 == (P.getD k default).f1))
def vLine (P : List RPoint) : Bool := allTo (okPt P) P.length
def vChan (s : ByteArray) (P : List RPoint) (wd : Int) : Bool := vLine P && (nameM s && (inB P.length 2 12 && inB wd 10 5000))
theorem okPt_bad {P : List RPoint} {k : Nat} {a : RPoint} (hg : P.getD k default = a) (h : vPoint a.f0 a.f1 = false) : okPt P k = false := by
  unfold okPt; rw [hg, h]; rfl
theorem okPt_zero {P : List RPoint} {a : RPoint} (hg : P.getD 0 default = a) (h : vPoint a.f0 a.f1 = true) : okPt P 0 = true := by
  unfold okPt; rw [hg, h]; rfl
theorem okPt_step {P : List RPoint} {m : Nat} {a p : RPoint} (hg : P.getD (m + 1) default = a) (hp : P.getD m default = p) (h : vPoint a.f0 a.f1 = true) : okPt P (m + 1) = !(p.f0 == a.f0 && p.f1 == a.f1) := by
  unfold okPt; rw [hg, Nat.add_sub_cancel, hp, h]; simp
theorem okPt_step2 {P : List RPoint} {m : Nat} {a p : RPoint} (hg : P.getD (m + 1) default = a) (hp : P.getD m default = p) (h : vPoint a.f0 a.f1 = true) : okPt P (m + 1) = !(a.f0 == p.f0 && a.f1 == p.f1) := by
  rw [okPt_step hg hp h, Bool.beq_comm (a := p.f0), Bool.beq_comm (a := p.f1)]
theorem vChan_hit {s : ByteArray} {P : List RPoint} {wd : Int} {k : Nat} (hk : k < P.length) (h : okPt P k = false) : vChan s P wd = false := by
  unfold vChan vLine; rw [allTo_hit hk h]; rfl
/-- A channel in memory, at the head of block g. -/
def Cz (w : World) (g : Nat) (s : ByteArray) (A : Option Addr) (n c : Nat) (wd : Int) : Prop := g < w.heap.size ∧ w.cell? ⟨g, 0, none⟩ = some (.string s) ∧ w.cell? ⟨g, 1, none⟩ = some (.slice A n c) ∧ w.cell? ⟨g, 2, none⟩ = some (.int .i64 wd)
theorem Cz.on {w w' : World} {g : Nat} {s : ByteArray} {A : Option Addr} {n c : Nat} {wd : Int} (h : Cz w g s A n c wd) (hb : Below w.heap.size w w') : Cz w' g s A n c wd := by
  obtain ⟨hg, c0, c1, c2⟩ := h
  obtain ⟨hc, _⟩ := bcell hb
  exact ⟨Nat.lt_of_lt_of_le hg hb.size, (hc _ _ hg).trans c0, (hc _ _ hg).trans c1, (hc _ _ hg).trans c2⟩
theorem Cz.new (w : World) (s : ByteArray) (A : Option Addr) (n c : Nat) (wd : Int) (t : TypeId) : Cz (w.alloc (.cells #[.string s, .slice A n c, .int .i64 wd] t)) w.heap.size s A n c wd := ⟨by simp, by simp, by simp, by simp⟩
set_option maxHeartbeats 2400000 in
theorem impl_ValidChannel (s : ByteArray) (hs : s.size ≤ maxLen) (P : List RPoint) (A : Option Addr) (c B : Nat) (wd : Int) (w : World) (hP : Sl w B A (flat RPoint.cells P)) (hB : B ≤ w.heap.size) (hl : P.length ≤ 1048576) :
    Calls Try.prog 81 #[.agg #[.string s, .slice A P.length c, .int .i64 wd]] w fun e w' => e = .returned (.bool (vChan s P wd)) ∧ Below w.heap.size w w' := by
  have hP' := Lib.hid hP
  have hZ0 := Lib.hid (Cz.new w s A P.length c wd 49)
  clear hP
  go_enter Try.func81, Try.ntmps81
  go_wp2
  go_loopw [8] (fun i wr => ∃ k : Nat, i = .int .i64 k ∧ k ≤ P.length ∧ allTo (okPt P) k = true ∧ Below w.heap.size w wr ∧ Cz wr w.heap.size s A P.length c wd) (fun i _ => P.length - (intOf i).toNat)
  case atStart => exact ⟨0, rfl, Nat.zero_le _, rfl, by go_grown, hZ0.out⟩
  case round =>
    obtain ⟨k, rfl, hk, hv, hB1, hZ⟩ := hrel
    have hS1 := hB1.size
    have hv' := Lib.hid hv
    clear hv
    by_cases hlt : k < P.length
    · obtain ⟨b, o, rfl, hb, he⟩ := Sl.elem RPoint.len (by decide) (hP'.out.below (hB1.mono hB)) hlt
      have hg := Lib.hid (getD_at hlt)
      obtain ⟨a, ha⟩ : ∃ a, P[k] = a := ⟨_, rfl⟩
      rw [ha] at hg he
      clear ha
      have d0 : wr.cell? ⟨b, o + k * 2, none⟩ = some (.int .i64 a.f0) := by have := he 0 _ rfl; simpa [Nat.add_assoc] using this
      have d1 : wr.cell? ⟨b, o + k * 2 + 1, none⟩ = some (.int .i64 a.f1) := by have := he 1 _ rfl; simpa [Nat.add_assoc] using this
      clear he
      have hbw : b < wr.heap.size := by omega
      have hki : (k : Int) < (P.length : Int) := by omega
      obtain ⟨hzl, z0, z1, z2⟩ := id hZ
      cases hva : vPoint a.f0 a.f1
      · have hm := Lib.hid (vChan_hit (s := s) (wd := wd) hlt (okPt_bad hg.out hva))
        go_wp2_with fail
        refine wp_region_grew (by kernel_rfl) (by kernel_rfl) ?_
        repeat (first | (go_big_quiet_step ((first | (go_at_call 130; exact grew_of (impl_ValidPoint _ _ _))))) | (quiet_step ((first | (go_at_call 130; exact grew_of (impl_ValidPoint _ _ _))))))
        refine wpQuiet_nil ?_
        rintro _ ⟨⟨w9, hb9⟩, rfl⟩
        try dsimp only
        obtain ⟨hc9, hf9⟩ := bcell hb9
        go_wp2
        go_ret
        exact ⟨ret_bool hm.out.symm, bnext hB1 (bnext (by go_grown) hb9)⟩
      rcases k with _ | m
      · simp only [Nat.zero_mul, Nat.add_zero] at d0 d1
        have hf2 := Lib.hid (allTo_step hv'.out (okPt_zero hg.out hva))
        go_wp2_with fail
        refine wp_region_grew (by kernel_rfl) (by kernel_rfl) ?_
        repeat (first | (go_big_quiet_step ((first | (go_at_call 130; exact grew_of (impl_ValidPoint _ _ _))))) | (quiet_step ((first | (go_at_call 130; exact grew_of (impl_ValidPoint _ _ _))))))
        refine wpQuiet_nil ?_
        rintro _ ⟨⟨w9, hb9⟩, rfl⟩
        try dsimp only
        obtain ⟨hc9, hf9⟩ := bcell hb9
        go_wp2
        go_roundw
        case rel => exact ⟨0 + 1, by go_num, by omega, hf2.out, bnext hB1 (bnext (by go_grown) hb9), hZ.on (bnext (by go_grown) hb9)⟩
        case measure => simp [intOf]; omega
      obtain ⟨b2, o2, e2, hb2, he2⟩ := Sl.elem RPoint.len (by decide) (hP'.out.below (hB1.mono hB)) (show m < P.length by omega)
      cases e2
      have hp := Lib.hid (getD_at (show m < P.length by omega))
      obtain ⟨p, hp'⟩ : ∃ p, P[m] = p := ⟨_, rfl⟩
      rw [hp'] at hp he2
      clear hp'
      have n0 : wr.cell? ⟨b, o + m * 2, none⟩ = some (.int .i64 p.f0) := by have := he2 0 _ rfl; simpa [Nat.add_assoc] using this
      have n1 : wr.cell? ⟨b, o + m * 2 + 1, none⟩ = some (.int .i64 p.f1) := by have := he2 1 _ rfl; simpa [Nat.add_assoc] using this
      clear he2
      have hst := Lib.hid (okPt_step hg.out hp.out hva)
      have hpos : (0 : Int) < (m : Int) + 1 := by omega
      cases hx : (p.f0 == a.f0)
      · have hf2 := Lib.hid (allTo_step hv'.out (hst.out.trans (by rw [hx]; rfl)))
        go_wp2_with fail
        refine wp_region_grew (by kernel_rfl) (by kernel_rfl) ?_
        repeat (first | (go_big_quiet_step ((first | (go_at_call 130; exact grew_of (impl_ValidPoint _ _ _))))) | (quiet_step ((first | (go_at_call 130; exact grew_of (impl_ValidPoint _ _ _))))))
        refine wpQuiet_nil ?_
        rintro _ ⟨⟨w9, hb9⟩, rfl⟩
        try dsimp only
        obtain ⟨hc9, hf9⟩ := bcell hb9
        go_wp2
        go_roundw
        case rel => exact ⟨m + 1 + 1, by go_num, by omega, hf2.out, bnext hB1 (bnext (by go_grown) hb9), hZ.on (bnext (by go_grown) hb9)⟩
        case measure => simp [intOf]; omega
      cases hy : (p.f1 == a.f1)
      · have hf2 := Lib.hid (allTo_step hv'.out (hst.out.trans (by rw [hx, hy]; rfl)))
        go_wp2_with fail
        refine wp_region_grew (by kernel_rfl) (by kernel_rfl) ?_
        repeat (first | (go_big_quiet_step ((first | (go_at_call 130; exact grew_of (impl_ValidPoint _ _ _))))) | (quiet_step ((first | (go_at_call 130; exact grew_of (impl_ValidPoint _ _ _))))))
        refine wpQuiet_nil ?_
        rintro _ ⟨⟨w9, hb9⟩, rfl⟩
        try dsimp only
        obtain ⟨hc9, hf9⟩ := bcell hb9
        go_wp2
        go_roundw
        case rel => exact ⟨m + 1 + 1, by go_num, by omega, hf2.out, bnext hB1 (bnext (by go_grown) hb9), hZ.on (bnext (by go_grown) hb9)⟩
        case measure => simp [intOf]; omega
      · have hm := Lib.hid (vChan_hit (s := s) (wd := wd) hlt (hst.out.trans (by rw [hx, hy]; rfl)))
        go_wp2_with fail
        refine wp_region_grew (by kernel_rfl) (by kernel_rfl) ?_
        repeat (first | (go_big_quiet_step ((first | (go_at_call 130; exact grew_of (impl_ValidPoint _ _ _))))) | (quiet_step ((first | (go_at_call 130; exact grew_of (impl_ValidPoint _ _ _))))))
        refine wpQuiet_nil ?_
        rintro _ ⟨⟨w9, hb9⟩, rfl⟩
        try dsimp only
        obtain ⟨hc9, hf9⟩ := bcell hb9
        go_wp2
        go_ret
        exact ⟨ret_bool hm.out.symm, bnext hB1 (bnext (by go_grown) hb9)⟩
    · obtain rfl : k = P.length := by omega
      have hm : Hid (vChan s P wd = (nameM s && (inB P.length 2 12 && inB wd 10 5000))) := by apply Lib.hid; unfold vChan vLine; rw [hv'.out]; rfl
      obtain ⟨hzl, z0, z1, z2⟩ := id hZ
      go_wp2_with (first | (go_at_call 131; refine (impl_IsName _ hs _).mono ?_; rintro e w' ⟨rfl, rfl⟩) | (go_at_call 82; refine (within_any _ _ _ _).mono ?_; rintro e w' ⟨rfl, rfl⟩))
      all_goals (go_ret; exact ⟨ret_bool (by rw [hm.out]; simp [*]), hB1⟩)
set_option maxHeartbeats 2400000 in
theorem spec_l13Ok (s : ByteArray) (hs : s.size ≤ maxLen) (P : List RPoint) (A : Option Addr) (c B g : Nat) (wd : Int) (w : World) (hZ0 : Cz w g s A P.length c wd) (hP : Sl w B A (flat RPoint.cells P)) (hB : B ≤ w.heap.size) (hl : P.length ≤ 1048576) :
    Calls Try.prog 96 #[.pointer (some ⟨g, 0, none⟩)] w fun e w' => e = .returned (.bool (vChan s P wd)) ∧ Below w.heap.size w w' := by
  have hP' := Lib.hid hP
  have hZZ := Lib.hid hZ0
  clear hP hZ0
  go_enter Try.func96, Try.ntmps96
  go_wp2
  go_loopw [3] (fun i wr => ∃ k : Nat, i = .int .i64 k ∧ k ≤ P.length ∧ allTo (okPt P) k = true ∧ Below w.heap.size w wr ∧ Cz wr g s A P.length c wd) (fun i _ => P.length - (intOf i).toNat)
  case atStart => exact ⟨0, rfl, Nat.zero_le _, rfl, Below.refl _ _, hZZ.out⟩
  case round =>
    obtain ⟨k, rfl, hk, hv, hB1, hZ⟩ := hrel
    have hS1 := hB1.size
    have hv' := Lib.hid hv
    clear hv
    by_cases hlt : k < P.length
    · obtain ⟨b, o, rfl, hb, he⟩ := Sl.elem RPoint.len (by decide) (hP'.out.below (hB1.mono hB)) hlt
      have hg := Lib.hid (getD_at hlt)
      obtain ⟨a, ha⟩ : ∃ a, P[k] = a := ⟨_, rfl⟩
      rw [ha] at hg he
      clear ha
      have d0 : wr.cell? ⟨b, o + k * 2, none⟩ = some (.int .i64 a.f0) := by have := he 0 _ rfl; simpa [Nat.add_assoc] using this
      have d1 : wr.cell? ⟨b, o + k * 2 + 1, none⟩ = some (.int .i64 a.f1) := by have := he 1 _ rfl; simpa [Nat.add_assoc] using this
      clear he
      have hbw : b < wr.heap.size := by omega
      have hki : (k : Int) < (P.length : Int) := by omega
      obtain ⟨hzl, z0, z1, z2⟩ := id hZ
      cases hva : vPoint a.f0 a.f1
      · have hm := Lib.hid (vChan_hit (s := s) (wd := wd) hlt (okPt_bad hg.out hva))
        go_wp2_with fail
        refine wp_region_grew (by kernel_rfl) (by kernel_rfl) ?_
        repeat (first | (go_big_quiet_step ((first | (go_at_call 142; exact grew_of (spec_l02Ok _ _ _))))) | (quiet_step ((first | (go_at_call 142; exact grew_of (spec_l02Ok _ _ _))))))
        refine wpQuiet_nil ?_
        rintro _ ⟨⟨w9, hb9⟩, rfl⟩
        try dsimp only
        obtain ⟨hc9, hf9⟩ := bcell hb9
        go_wp2
        go_ret
        exact ⟨ret_bool hm.out.symm, bnext hB1 (bnext (by go_grown) hb9)⟩
      rcases k with _ | m
      · simp only [Nat.zero_mul, Nat.add_zero] at d0 d1
        have hf2 := Lib.hid (allTo_step hv'.out (okPt_zero hg.out hva))
        go_wp2_with fail
        refine wp_region_grew (by kernel_rfl) (by kernel_rfl) ?_
        repeat (first | (go_big_quiet_step ((first | (go_at_call 142; exact grew_of (spec_l02Ok _ _ _))))) | (quiet_step ((first | (go_at_call 142; exact grew_of (spec_l02Ok _ _ _))))))
        refine wpQuiet_nil ?_
        rintro _ ⟨⟨w9, hb9⟩, rfl⟩
        try dsimp only
        obtain ⟨hc9, hf9⟩ := bcell hb9
        go_wp2
        go_roundw
        case rel => exact ⟨0 + 1, by go_num, by omega, hf2.out, bnext hB1 (bnext (by go_grown) hb9), hZ.on (bnext (by go_grown) hb9)⟩
        case measure => simp [intOf]; omega
      obtain ⟨b2, o2, e2, hb2, he2⟩ := Sl.elem RPoint.len (by decide) (hP'.out.below (hB1.mono hB)) (show m < P.length by omega)
      cases e2
      have hp := Lib.hid (getD_at (show m < P.length by omega))
      obtain ⟨p, hp'⟩ : ∃ p, P[m] = p := ⟨_, rfl⟩
      rw [hp'] at hp he2
      clear hp'
      have n0 : wr.cell? ⟨b, o + m * 2, none⟩ = some (.int .i64 p.f0) := by have := he2 0 _ rfl; simpa [Nat.add_assoc] using this
      have n1 : wr.cell? ⟨b, o + m * 2 + 1, none⟩ = some (.int .i64 p.f1) := by have := he2 1 _ rfl; simpa [Nat.add_assoc] using this
      clear he2
      have hst := Lib.hid (okPt_step2 hg.out hp.out hva)
      have hpos : (0 : Int) < (m : Int) + 1 := by omega
      cases hx : (a.f0 == p.f0)
      · have hf2 := Lib.hid (allTo_step hv'.out (hst.out.trans (by rw [hx]; rfl)))
        go_wp2_with fail
        refine wp_region_grew (by kernel_rfl) (by kernel_rfl) ?_
        repeat (first | (go_big_quiet_step ((first | (go_at_call 142; exact grew_of (spec_l02Ok _ _ _))))) | (quiet_step ((first | (go_at_call 142; exact grew_of (spec_l02Ok _ _ _))))))
        refine wpQuiet_nil ?_
        rintro _ ⟨⟨w9, hb9⟩, rfl⟩
        try dsimp only
        obtain ⟨hc9, hf9⟩ := bcell hb9
        go_wp2
        go_roundw
        case rel => exact ⟨m + 1 + 1, by go_num, by omega, hf2.out, bnext hB1 (bnext (by go_grown) hb9), hZ.on (bnext (by go_grown) hb9)⟩
        case measure => simp [intOf]; omega
      cases hy : (a.f1 == p.f1)
      · have hf2 := Lib.hid (allTo_step hv'.out (hst.out.trans (by rw [hx, hy]; rfl)))
        go_wp2_with fail
        refine wp_region_grew (by kernel_rfl) (by kernel_rfl) ?_
        repeat (first | (go_big_quiet_step ((first | (go_at_call 142; exact grew_of (spec_l02Ok _ _ _))))) | (quiet_step ((first | (go_at_call 142; exact grew_of (spec_l02Ok _ _ _))))))
        refine wpQuiet_nil ?_
        rintro _ ⟨⟨w9, hb9⟩, rfl⟩
        try dsimp only
        obtain ⟨hc9, hf9⟩ := bcell hb9
        go_wp2
        go_roundw
        case rel => exact ⟨m + 1 + 1, by go_num, by omega, hf2.out, bnext hB1 (bnext (by go_grown) hb9), hZ.on (bnext (by go_grown) hb9)⟩
        case measure => simp [intOf]; omega
      · have hm := Lib.hid (vChan_hit (s := s) (wd := wd) hlt (hst.out.trans (by rw [hx, hy]; rfl)))
        go_wp2_with fail
        refine wp_region_grew (by kernel_rfl) (by kernel_rfl) ?_
        repeat (first | (go_big_quiet_step ((first | (go_at_call 142; exact grew_of (spec_l02Ok _ _ _))))) | (quiet_step ((first | (go_at_call 142; exact grew_of (spec_l02Ok _ _ _))))))
        refine wpQuiet_nil ?_
        rintro _ ⟨⟨w9, hb9⟩, rfl⟩
        try dsimp only
        obtain ⟨hc9, hf9⟩ := bcell hb9
        go_wp2
        go_ret
        exact ⟨ret_bool hm.out.symm, bnext hB1 (bnext (by go_grown) hb9)⟩
    · obtain rfl : k = P.length := by omega
      have hm : Hid (vChan s P wd = (nameM s && (inB P.length 2 12 && inB wd 10 5000))) := by apply Lib.hid; unfold vChan vLine; rw [hv'.out]; rfl
      obtain ⟨hzl, z0, z1, z2⟩ := id hZ
      cases hn : nameM s
      · go_wp2_with (first | (go_at_call 143; refine (spec_Name _ hs _).mono ?_; rintro e w' ⟨rfl, rfl⟩) | (go_at_call 119; refine (in_any _ _ _ _).mono ?_; rintro e w' ⟨rfl, rfl⟩))
        all_goals (go_ret; exact ⟨ret_bool (by rw [hm.out, hn]; rfl), hB1⟩)
      by_cases h2 : 2 ≤ P.length
      rotate_left
      · have hi : inB P.length 2 12 = false := inB_un (by omega)
        have h2' : decide ((2 : Int) ≤ (P.length : Int)) = false := decide_eq_false (by omega)
        go_wp2_with (first | (go_at_call 143; refine (spec_Name _ hs _).mono ?_; rintro e w' ⟨rfl, rfl⟩) | (go_at_call 119; refine (in_any _ _ _ _).mono ?_; rintro e w' ⟨rfl, rfl⟩))
        all_goals try (exfalso; omega)
        all_goals (go_ret; exact ⟨ret_bool (by rw [hm.out, hn, hi]; rfl), hB1⟩)
      by_cases h12 : P.length ≤ 12
      rotate_left
      · have hi : inB P.length 2 12 = false := inB_un (by omega)
        have h2' : decide ((P.length : Int) ≤ 12) = false := decide_eq_false (by omega)
        go_wp2_with (first | (go_at_call 143; refine (spec_Name _ hs _).mono ?_; rintro e w' ⟨rfl, rfl⟩) | (go_at_call 119; refine (in_any _ _ _ _).mono ?_; rintro e w' ⟨rfl, rfl⟩))
        all_goals try (exfalso; omega)
        all_goals (go_ret; exact ⟨ret_bool (by rw [hm.out, hn, hi]; rfl), hB1⟩)
      have hi : inB P.length 2 12 = true := inB_mk (by omega) (by omega)
      go_wp2_with (first | (go_at_call 143; refine (spec_Name _ hs _).mono ?_; rintro e w' ⟨rfl, rfl⟩) | (go_at_call 119; refine (in_any _ _ _ _).mono ?_; rintro e w' ⟨rfl, rfl⟩))
      all_goals try (exfalso; omega)
      all_goals (go_ret; exact ⟨ret_bool (by rw [hm.out, hn, hi]; rfl), hB1⟩)
theorem eqChannel_same (s : ByteArray) (P : List RPoint) (A A2 : Option Addr) (c c2 B : Nat) (wd : Int) (w : World) (hP : Sl w B A (flat RPoint.cells P)) (hP2 : Sl w B A2 (flat RPoint.cells P)) (hB : B ≤ w.heap.size) (hl : P.length ≤ 1048576) :
    Calls Try.prog 45 #[.agg #[.string s, .slice A P.length c, .int .i64 wd], .agg #[.string s, .slice A2 P.length c2, .int .i64 wd]] w fun e w' => e = .returned (.bool true) ∧ Below w.heap.size w w' := by
  have hP' := Lib.hid hP
  have hP2' := Lib.hid hP2
  have hq : (s.toList != s.toList) = false := by simp
  clear hP hP2
  go_enter Try.func45, Try.ntmps45
  go_wp2_with fail
  refine (eqPointS_same P A A2 c c2 B _ (hP'.out.below ((show Below w.heap.size w _ by go_grown).mono hB)) (hP2'.out.below ((show Below w.heap.size w _ by go_grown).mono hB)) (by simp; omega) hl).mono ?_
  rintro e w1 ⟨rfl, hb1⟩
  have hB1 := bnext (show Below w.heap.size w _ by go_grown) hb1
  obtain ⟨hc1, hf1⟩ := bcell hb1
  go_wp2
  go_ret
  exact ⟨rfl, hB1⟩
end Go.Proofs.Ytlflefnjoeappaa
