/-
  Contracts of the side of a channel and of lists of buoys: the program's and the reference's. Under the conditions that each states.
-/
import Derived.Test.YtlflefnjoeappaaNear
set_option linter.unusedVariables false
set_option linter.unnecessarySimpa false
set_option maxRecDepth 100000
set_option linter.unusedSimpArgs false
namespace Go.Proofs.Ytlflefnjoeappaa
open Go.RowKit BigFrame

theorem cell_onN {w w' : World} {n k : Nat} {v : Value} (hb : Below w.heap.size w w') (h : w.cell? ⟨n, k, none⟩ = some v) (hn : n < w.heap.size) : w'.cell? ⟨n, k, none⟩ = some v := ((bcell hb).1 n k hn).trans h
/-- The side of piece k of a line on which a place is; of the nearest piece. -/
def segS (P : List RPoint) (x y : Int) (k : Nat) : Int := sideM (crossM (P.getD k default).f0 (P.getD k default).f1 (P.getD (k + 1) default).f0 (P.getD (k + 1) default).f1 x y)
def chanS (P : List RPoint) (x y : Int) : Int := segS P x y (nearTo P x y (P.length - 2)).1
theorem chanS_is {P : List RPoint} {x y n : Int} {k : Nat} {p a : RPoint} (h : nearTo P x y (P.length - 2) = (k, n)) (hp : P.getD k default = p) (ha : P.getD (k + 1) default = a) : chanS P x y = sideM (crossM p.f0 p.f1 a.f0 a.f1 x y) := by unfold chanS segS; rw [h, hp, ha]
set_option maxHeartbeats 1600000 in
theorem impl_ChSide (s : ByteArray) (P : List RPoint) (A : Option Addr) (c B : Nat) (wd x y : Int) (w : World) (hP : Sl w B A (flat RPoint.cells P)) (hB : B ≤ w.heap.size) (hl : P.length ≤ 1048576) (h2 : 2 ≤ P.length) (hvl : vLine P = true) (hv : vPoint x y = true) :
    Calls Try.prog 94 #[.agg #[.string s, .slice A P.length c, .int .i64 wd], .agg #[.int .i64 x, .int .i64 y]] w fun e w' => e = .returned (.int .i64 (chanS P x y)) ∧ Below w.heap.size w w' := by
  obtain ⟨b, o, rfl, hbB, _⟩ := Sl.elem RPoint.len (by decide) hP (show 0 < P.length by omega)
  have hP' := Lib.hid hP
  have hvl' := Lib.hid hvl
  have hv' := vPoint_yes hv
  obtain ⟨m, n, hk⟩ : ∃ m n, nearTo P x y (P.length - 2) = (m, n) := ⟨_, _, rfl⟩
  have hN : ∀ w', Below w.heap.size w w' → Calls Try.prog 140 #[.agg #[.string s, .slice (some ⟨b, o, none⟩) P.length c, .int .i64 wd], .agg #[.int .i64 x, .int .i64 y]] w' fun e w2 => e = .returned (.tuple #[.int .i64 m, .int .i64 n]) ∧ Below w'.heap.size w' w2 := fun w' h => by
    have h' := impl_Near s P (some ⟨b, o, none⟩) c B wd x y w' (hP'.out.below (h.mono hB)) (Nat.le_trans hB h.size) hl h2 hvl'.out hv
    rw [hk] at h'
    exact h'
  have hlt : m + 1 < P.length := by
    have h := nearTo_le P x y (P.length - 2)
    rw [hk] at h
    simp only at h
    omega
  have hk' := Lib.hid hk
  have hN' := Lib.hid hN
  have hZ0 := Lib.hid (((Cz.new w s (some ⟨b, o, none⟩) P.length c wd 49).on (show Below (w.alloc (.cells #[.string s, .slice (some ⟨b, o, none⟩) P.length c, .int .i64 wd] 49)).heap.size _ ((w.alloc (.cells #[.string s, .slice (some ⟨b, o, none⟩) P.length c, .int .i64 wd] 49)).alloc (.cells #[.int .i64 x, .int .i64 y] 52)) by go_grown)))
  clear hP hvl hv hk hN
  go_enter Try.func94, Try.ntmps94
  go_wp2_with fail
  refine (hN'.out _ (by go_grown)).mono ?_
  rintro e wr ⟨rfl, hbr⟩
  have hB1 := bnext (w := w) (by go_grown) hbr
  have hS1 := hB1.size
  obtain ⟨hcr, _⟩ := bcell hbr
  have hZ := hZ0.out.on hbr
  have hz2 := hbr.size
  simp only [World.size_alloc] at hz2
  have zl : w.heap.size + 1 < wr.heap.size := by omega
  have z0 : wr.cell? ⟨w.heap.size + 1, 0, none⟩ = some (.int .i64 x) := cell_onN hbr (by simp) (by simp)
  have z1 : wr.cell? ⟨w.heap.size + 1, 1, none⟩ = some (.int .i64 y) := cell_onN hbr (by simp) (by simp)
  obtain ⟨hzl, hc0, hc1, hc2⟩ := id hZ
  obtain ⟨b1, o1, e1, hb, he⟩ := Sl.elem RPoint.len (by decide) (hP'.out.below (hB1.mono hB)) hlt
  cases e1
  have hg := Lib.hid (getD_at hlt)
  obtain ⟨a, ha⟩ : ∃ a, P[m + 1] = a := ⟨_, rfl⟩
  rw [ha] at hg he
  clear ha
  have d0 : wr.cell? ⟨b, o + (m + 1) * 2, none⟩ = some (.int .i64 a.f0) := by have := he 0 _ rfl; simpa [Nat.add_assoc] using this
  have d1 : wr.cell? ⟨b, o + (m + 1) * 2 + 1, none⟩ = some (.int .i64 a.f1) := by have := he 1 _ rfl; simpa [Nat.add_assoc] using this
  clear he
  obtain ⟨b2, o2, e2, hb2, he2⟩ := Sl.elem RPoint.len (by decide) (hP'.out.below (hB1.mono hB)) (show m < P.length by omega)
  cases e2
  have hp := Lib.hid (getD_at (show m < P.length by omega))
  obtain ⟨p, hp'⟩ : ∃ p, P[m] = p := ⟨_, rfl⟩
  rw [hp'] at hp he2
  clear hp'
  have n0 : wr.cell? ⟨b, o + m * 2, none⟩ = some (.int .i64 p.f0) := by have := he2 0 _ rfl; simpa [Nat.add_assoc] using this
  have n1 : wr.cell? ⟨b, o + m * 2 + 1, none⟩ = some (.int .i64 p.f1) := by have := he2 1 _ rfl; simpa [Nat.add_assoc] using this
  clear he2
  have hva := vPoint_yes (line_pt hvl'.out hg.out hlt)
  have hvp := vPoint_yes (line_pt hvl'.out hp.out (by omega))
  have hbw : b < wr.heap.size := by omega
  have hR := Lib.hid (chanS_is (x := x) (y := y) hk'.out hp.out hg.out)
  have hq := fun w => impl_SideOf p.f0 p.f1 a.f0 a.f1 x y w hvp.1 hvp.2 hva.1 hva.2 hv'.1 hv'.2
  clear hbr hcr hz2 hZ
  go_wp2_with fail
  refine wp_region_grew (by kernel_rfl) (by kernel_rfl) ?_
  repeat (first | (go_big_quiet_step ((go_at_call 141; exact grew_of (hq _)))) | (quiet_step ((go_at_call 141; exact grew_of (hq _)))))
  refine wpQuiet_nil ?_
  rintro w9 ⟨⟨w8, hb9⟩, rfl⟩
  try dsimp only
  obtain ⟨hc9, hf9⟩ := bcell hb9
  go_wp2
  go_ret
  exact ⟨ret_int hR.out.symm, bnext hB1 hb9⟩
set_option maxHeartbeats 1600000 in
theorem spec_ChSide (s : ByteArray) (P : List RPoint) (A : Option Addr) (c B g : Nat) (wd x y : Int) (w : World) (hZ0 : Cz w g s A P.length c wd) (hP : Sl w B A (flat RPoint.cells P)) (hB : B ≤ w.heap.size) (hl : P.length ≤ 1048576) (h2 : 2 ≤ P.length) (hvl : vLine P = true) (hv : vPoint x y = true) :
    Calls Try.prog 98 #[.pointer (some ⟨g, 0, none⟩), .agg #[.int .i64 x, .int .i64 y]] w fun e w' => e = .returned (.int .i64 (chanS P x y)) ∧ Below w.heap.size w w' := by
  obtain ⟨b, o, rfl, hbB, _⟩ := Sl.elem RPoint.len (by decide) hP (show 0 < P.length by omega)
  have hP' := Lib.hid hP
  have hvl' := Lib.hid hvl
  have hv' := vPoint_yes hv
  obtain ⟨m, n, hk⟩ : ∃ m n, nearTo P x y (P.length - 2) = (m, n) := ⟨_, _, rfl⟩
  have hN : ∀ w', Below w.heap.size w w' → Calls Try.prog 145 #[.slice (some ⟨b, o, none⟩) P.length c, .agg #[.int .i64 x, .int .i64 y]] w' fun e w2 => e = .returned (.tuple #[.int .i64 ((m : Int) + 1), .int .i64 n]) ∧ Below w'.heap.size w' w2 := fun w' h => by
    have h' := spec_Near P (some ⟨b, o, none⟩) c B x y w' (hP'.out.below (h.mono hB)) (Nat.le_trans hB h.size) hl h2 hvl'.out hv
    rw [hk] at h'
    exact h'
  have hlt : m + 1 < P.length := by
    have h := nearTo_le P x y (P.length - 2)
    rw [hk] at h
    simp only at h
    omega
  have hk' := Lib.hid hk
  have hN' := Lib.hid hN
  obtain ⟨hzl, hc0, hc1, hc2⟩ := id hZ0
  have hZZ := Lib.hid hZ0
  clear hP hvl hv hk hN hZ0
  go_enter Try.func98, Try.ntmps98
  go_wp2_with fail
  have hB0 : Below w.heap.size w (w.alloc (.cells #[.int .i64 x, .int .i64 y] 52)) := by go_grown
  refine wp_region_grew (by kernel_rfl) (by kernel_rfl) ?_
  repeat (first | (go_big_quiet_step ((go_at_call 145; exact grew_of (hN'.out _ (bnext hB0 (Grew.below _)))))) | (quiet_step ((go_at_call 145; exact grew_of (hN'.out _ (bnext hB0 (Grew.below _)))))))
  refine wpQuiet_nil ?_
  rintro w9 ⟨⟨w8, hb9⟩, rfl⟩
  try dsimp only
  obtain ⟨hc9, hf9⟩ := bcell hb9
  obtain ⟨wr, hwr⟩ : ∃ wr, wr = w9 := ⟨_, rfl⟩
  rw [← hwr]
  rw [← hwr] at hb9 hc9
  have hB1 := bnext (w := w) (by go_grown) hb9
  have hS1 := hB1.size
  have hz2 := hb9.size
  simp only [World.size_alloc] at hz2
  have zl : w.heap.size < wr.heap.size := by omega
  have z0 : wr.cell? ⟨w.heap.size, 0, none⟩ = some (.int .i64 x) := cell_onN hb9 (by simp) (by simp)
  have z1 : wr.cell? ⟨w.heap.size, 1, none⟩ = some (.int .i64 y) := cell_onN hb9 (by simp) (by simp)
  have hZ := hZZ.out.on hB1
  clear hc0 hc1 hc2
  obtain ⟨hzr, hc0, hc1, hc2⟩ := id hZ
  obtain ⟨b1, o1, e1, hb, he⟩ := Sl.elem RPoint.len (by decide) (hP'.out.below (hB1.mono hB)) hlt
  cases e1
  have hg := Lib.hid (getD_at hlt)
  obtain ⟨a, ha⟩ : ∃ a, P[m + 1] = a := ⟨_, rfl⟩
  rw [ha] at hg he
  clear ha
  have d0 : wr.cell? ⟨b, o + (m + 1) * 2, none⟩ = some (.int .i64 a.f0) := by have := he 0 _ rfl; simpa [Nat.add_assoc] using this
  have d1 : wr.cell? ⟨b, o + (m + 1) * 2 + 1, none⟩ = some (.int .i64 a.f1) := by have := he 1 _ rfl; simpa [Nat.add_assoc] using this
  clear he
  obtain ⟨b2, o2, e2, hb2, he2⟩ := Sl.elem RPoint.len (by decide) (hP'.out.below (hB1.mono hB)) (show m < P.length by omega)
  cases e2
  have hp := Lib.hid (getD_at (show m < P.length by omega))
  obtain ⟨p, hp'⟩ : ∃ p, P[m] = p := ⟨_, rfl⟩
  rw [hp'] at hp he2
  clear hp'
  have n0 : wr.cell? ⟨b, o + m * 2, none⟩ = some (.int .i64 p.f0) := by have := he2 0 _ rfl; simpa [Nat.add_assoc] using this
  have n1 : wr.cell? ⟨b, o + m * 2 + 1, none⟩ = some (.int .i64 p.f1) := by have := he2 1 _ rfl; simpa [Nat.add_assoc] using this
  clear he2
  have hva := vPoint_yes (line_pt hvl'.out hg.out hlt)
  have hvp := vPoint_yes (line_pt hvl'.out hp.out (by omega))
  have hbw : b < wr.heap.size := by omega
  have hR := Lib.hid (chanS_is (x := x) (y := y) hk'.out hp.out hg.out)
  have hq := fun w => spec_Side p.f0 p.f1 a.f0 a.f1 x y w hvp.1 hvp.2 hva.1 hva.2 hv'.1 hv'.2
  clear hb9 hc9 hf9 hz2 hZ hwr
  go_wp2_with fail
  refine wp_region_grew (by kernel_rfl) (by kernel_rfl) ?_
  repeat (first | (go_big_quiet_step ((go_at_call 146; exact grew_of (hq _)))) | (quiet_step ((go_at_call 146; exact grew_of (hq _)))))
  refine wpQuiet_nil ?_
  rintro w9 ⟨⟨w8, hb9⟩, rfl⟩
  try dsimp only
  obtain ⟨hc9, hf9⟩ := bcell hb9
  go_wp2
  go_ret
  exact ⟨ret_int hR.out.symm, bnext hB1 hb9⟩
structure RBuoy where
  f0 : Int
  f1 : Int
  f2 : Int
instance : Inhabited RBuoy := ⟨⟨0, 0, 0⟩⟩
def RBuoy.cells (a : RBuoy) : List Value := [.int .i64 a.f0, .int .i64 a.f1, .int .i64 a.f2]
theorem RBuoy.len (a : RBuoy) : a.cells.length = 3 := rfl
def RBuoy.ok (a : RBuoy) : Prop := IntKind.i64.has a.f0 ∧ IntKind.i64.has a.f1 ∧ IntKind.i64.has a.f2
def RBuoy.same (a b : RBuoy) : Bool := decide (a.f0 = b.f0) && (decide (a.f1 = b.f1) && (decide (a.f2 = b.f2)))
section
open Go.ChangeShapes Go.WideShapes Go.ChangeAt Go.Deep
theorem trod_Buoy {H : Type} {enc : TypeId × Value → H} {w : World} {b : Nat} {spare : Nat → Bool} {held : Bool} {m : Nat} {c : List Value} {y : DataW H × List MemPlace} (h : DataW.trod enc Try.prog w b spare held m 143 c = some y) : ∃ a : RBuoy, c = a.cells ∧ a.ok := by
  have hc : c.length = 3 := by
    obtain ⟨_, _, _, _, hl, _⟩ := DataW.trod_struct Try.underlying143 h
    exact hl.trans (by kernel_rfl)
  obtain ⟨c0, c1, c2, rfl⟩ : ∃ c0 c1 c2, c = [c0, c1, c2] := by
    match c, hc with
    | [c0, c1, c2], _ => exact ⟨c0, c1, c2, rfl⟩
  obtain ⟨xsc0_c1_c2, nc0_c1_c2, _, _, _, hlc0_c1_c2, hfc0_c1_c2⟩ := DataW.trod_struct Try.underlying143 h
  have gc0_c1_c2_0 := (hfc0_c1_c2 0 _ rfl).trans (List.getElem?_eq_getElem (by rw [hlc0_c1_c2]; decide))
  replace gc0_c1_c2_0 := (show DataW.trod enc Try.prog w b spare held nc0_c1_c2 84 [c0, c1] = _ from gc0_c1_c2_0)
  obtain ⟨xsc0_c1, nc0_c1, _, _, _, hlc0_c1, hfc0_c1⟩ := DataW.trod_struct Try.underlying84 gc0_c1_c2_0
  have gc0_c1_0 := (hfc0_c1 0 _ rfl).trans (List.getElem?_eq_getElem (by rw [hlc0_c1]; decide))
  obtain ⟨zc0, ec0, _, qc0⟩ := DataW.trod_int Try.underlying2 (show DataW.trod enc Try.prog w b spare held nc0_c1 2 [c0] = _ from gc0_c1_0)
  have gc0_c1_1 := (hfc0_c1 1 _ rfl).trans (List.getElem?_eq_getElem (by rw [hlc0_c1]; decide))
  obtain ⟨zc1, ec1, _, qc1⟩ := DataW.trod_int Try.underlying2 (show DataW.trod enc Try.prog w b spare held nc0_c1 2 [c1] = _ from gc0_c1_1)
  have gc0_c1_c2_1 := (hfc0_c1_c2 1 _ rfl).trans (List.getElem?_eq_getElem (by rw [hlc0_c1_c2]; decide))
  obtain ⟨zc2, ec2, _, qc2⟩ := DataW.trod_int Try.underlying2 (show DataW.trod enc Try.prog w b spare held nc0_c1_c2 2 [c2] = _ from gc0_c1_c2_1)
  obtain rfl : c0 = _ := by simpa using ec0
  obtain rfl : c1 = _ := by simpa using ec1
  obtain rfl : c2 = _ := by simpa using ec2
  exact ⟨⟨zc0, zc1, zc2⟩, rfl, (by simpa [Lit.wf, IntKind.has] using qc0), (by simpa [Lit.wf, IntKind.has] using qc1), (by simpa [Lit.wf, IntKind.has] using qc2)⟩
end
set_option maxHeartbeats 1600000 in
theorem toBuoy_any (f0 : Int) (f1 : Int) (f2 : Int) (w : World) : Calls Try.prog 100 #[.agg #[.int .i64 f0, .int .i64 f1, .int .i64 f2]] w fun e w' => e = .returned (.agg #[.int .i64 f0, .int .i64 f1, .int .i64 f2]) ∧ Below w.heap.size w w' := by
  go_enter Try.func100, Try.ntmps100
  go_wp2
  go_returns
  exact ⟨rfl, by go_grown⟩
set_option maxHeartbeats 1600000 in
theorem eqBuoy_same (f0 : Int) (f1 : Int) (f2 : Int) (w : World) : Calls Try.prog 102 #[.agg #[.int .i64 f0, .int .i64 f1, .int .i64 f2], .agg #[.int .i64 f0, .int .i64 f1, .int .i64 f2]] w fun e w' => e = .returned (.bool true) ∧ Below w.heap.size w w' := by
  go_enter Try.func102, Try.ntmps102
  go_wp2
  all_goals (go_ret; exact ⟨rfl, by go_grown⟩)
theorem szBuoyS_any (n : Nat) (A : Option Addr) (c : Nat) (l : Int) (h1 : -1 ≤ l) (h2 : l ≤ 1048576) (hn : n ≤ maxLen) (w : World) : Calls Try.prog 40 #[.slice A n c, .int .i64 l] w fun e w' => e = .returned (.int .i64 (szN l n)) ∧ w = w' := by
  have hn2 : n ≤ 9223372036854775807 := by simpa [maxLen, IntKind.max, IntKind.bits, IntKind.signed] using hn
  by_cases h : l - (n : Int) < 0
  · have hm : Hid (szN l n = -1) := by apply Lib.hid; unfold szN; rw [if_pos h]
    go_enter Try.func40, Try.ntmps40
    go_wp2
    go_ret
    exact ⟨ret_int hm.out.symm, rfl⟩
  · have hm : Hid (szN l n = l - n) := by apply Lib.hid; unfold szN; rw [if_neg h]
    go_enter Try.func40, Try.ntmps40
    go_wp2
    go_ret
    exact ⟨ret_int hm.out.symm, rfl⟩
set_option maxHeartbeats 1600000 in
theorem toBuoyS_any (L : List RBuoy) (A : Option Addr) (c B : Nat) (w : World) (hs : Sl w B A (flat RBuoy.cells L)) (hB : B ≤ w.heap.size) (hl : L.length ≤ 1048576) : Calls Try.prog 43 #[.slice A L.length c] w (ToPost (flat RBuoy.cells L) L.length w) := by
  have hmk : ∀ w : World, (Instr.makeSlice 56 (.int .i64 L.length) (.int .i64 L.length)).run Try.prog w = .ok (.slice (some ⟨w.heap.size, 0, none⟩) L.length L.length) (w.alloc (.cells (madeCells #[.int .i64 0, .int .i64 0, .int .i64 0] (L.length * 3)) 66)) := fun w => made_row (by_ := 24) w Try.underlying56 (by kernel_rfl) (by kernel_rfl) L.length (by omega) (by omega)
  have hs' := Lib.hid hs
  clear hs
  go_enter Try.func43, Try.ntmps43
  go_wp2
  have hO : Own (w.alloc (.cells (madeCells #[.int .i64 0, .int .i64 0, .int .i64 0] (L.length * 3)) 66)) w.heap.size 66 (L.length * 3) (flat RBuoy.cells (L.take 0)) := own_made w _ _ _ _
  have hB0 : Below w.heap.size w (w.alloc (.cells (madeCells #[.int .i64 0, .int .i64 0, .int .i64 0] (L.length * 3)) 66)) := by go_grown
  clear hmk
  go_loopw [4] (fun i wr => ∃ k : Nat, i = .int .i64 k ∧ k ≤ L.length ∧ Below w.heap.size w wr ∧ Own wr w.heap.size 66 (L.length * 3) (flat RBuoy.cells (L.take k))) (fun i _ => L.length - (intOf i).toNat)
  case atStart => exact ⟨0, rfl, Nat.zero_le _, hB0, hO⟩
  case round =>
    clear hB0 hO
    obtain ⟨k, rfl, hk, hB1, hO⟩ := hrel
    by_cases hlt : k < L.length
    · obtain ⟨b, o, rfl, hb, he⟩ := Sl.elem RBuoy.len (by decide) (hs'.out.below (hB1.mono hB)) hlt
      have d0 : wr.cell? ⟨b, o + k * 3, none⟩ = some (.int .i64 L[k].f0) := by have := he 0 _ rfl; simpa [Nat.add_assoc] using this
      have d1 : wr.cell? ⟨b, o + k * 3 + 1, none⟩ = some (.int .i64 L[k].f1) := by have := he 1 _ rfl; simpa [Nat.add_assoc] using this
      have d2 : wr.cell? ⟨b, o + k * 3 + 2, none⟩ = some (.int .i64 L[k].f2) := by have := he 2 _ rfl; simpa [Nat.add_assoc] using this
      have hkn : k * 3 + 3 ≤ L.length * 3 := by have := Nat.mul_le_mul_right 3 (show k + 1 ≤ L.length by omega); omega
      have hlen : (flat RBuoy.cells (L.take k)).length = k * 3 := by rw [flat_len RBuoy.len, List.length_take, Nat.min_eq_left hk]
      have hstep : flat RBuoy.cells (L.take (k + 1)) = flat RBuoy.cells (L.take k) ++ [.int .i64 L[k].f0] ++ [.int .i64 L[k].f1] ++ [.int .i64 L[k].f2] := by rw [List.take_succ_eq_append_getElem hlt, flat_snoc]; simp [RBuoy.cells]
      have hstep := Lib.hid hstep
      clear he
      go_wp2_with (go_at_call 100; refine (toBuoy_any _ _ _ _).mono ?_; rintro e w1 ⟨rfl, hb1⟩; (have hO1 := hO.on hb1); obtain ⟨y0, x0⟩ := hO1.cell (i := k * 3) (by omega); have v0 := hO1.frozen (k * 3); obtain ⟨y1, x1⟩ := hO1.cell (i := k * 3 + 1) (by omega); have v1 := hO1.frozen (k * 3 + 1); obtain ⟨y2, x2⟩ := hO1.cell (i := k * 3 + 2) (by omega); have v2 := hO1.frozen (k * 3 + 2))
      go_roundw
      case rel => exact ⟨k + 1, by go_num, by omega, by have := bnext hB1 hb1; go_grown, by rw [hstep.out]; exact (Own.set (Own.set (Own.set hO1 (by simp [hlen]) (by omega) _) (by simp [hlen]) (by omega) _) (by simp [hlen]) (by omega) _)⟩
      case measure => simp [intOf]; omega
    · obtain rfl : k = L.length := by omega
      have hO2 : Own wr w.heap.size 66 (L.length * 3) (flat RBuoy.cells L) := by rw [List.take_length] at hO; exact hO
      go_wp2
      go_ret
      exact ⟨rfl, hB1, hO2.lt, hO2.sl⟩
set_option maxHeartbeats 1600000 in
theorem toBuoyS_own (L : List RBuoy) (A : Option Addr) (c B : Nat) (w : World) (hs : Sl w B A (flat RBuoy.cells L)) (hB : B ≤ w.heap.size) (hl : L.length ≤ 1048576) : Calls Try.prog 43 #[.slice A L.length c] w fun e w' => e = .returned (.slice (some ⟨w.heap.size, 0, none⟩) L.length L.length) ∧ Below w.heap.size w w' ∧ Own w' w.heap.size 66 (L.length * 3) (flat RBuoy.cells L) := by
  have hmk : ∀ w : World, (Instr.makeSlice 56 (.int .i64 L.length) (.int .i64 L.length)).run Try.prog w = .ok (.slice (some ⟨w.heap.size, 0, none⟩) L.length L.length) (w.alloc (.cells (madeCells #[.int .i64 0, .int .i64 0, .int .i64 0] (L.length * 3)) 66)) := fun w => made_row (by_ := 24) w Try.underlying56 (by kernel_rfl) (by kernel_rfl) L.length (by omega) (by omega)
  have hs' := Lib.hid hs
  clear hs
  go_enter Try.func43, Try.ntmps43
  go_wp2
  have hO : Own (w.alloc (.cells (madeCells #[.int .i64 0, .int .i64 0, .int .i64 0] (L.length * 3)) 66)) w.heap.size 66 (L.length * 3) (flat RBuoy.cells (L.take 0)) := own_made w _ _ _ _
  have hB0 : Below w.heap.size w (w.alloc (.cells (madeCells #[.int .i64 0, .int .i64 0, .int .i64 0] (L.length * 3)) 66)) := by go_grown
  clear hmk
  go_loopw [4] (fun i wr => ∃ k : Nat, i = .int .i64 k ∧ k ≤ L.length ∧ Below w.heap.size w wr ∧ Own wr w.heap.size 66 (L.length * 3) (flat RBuoy.cells (L.take k))) (fun i _ => L.length - (intOf i).toNat)
  case atStart => exact ⟨0, rfl, Nat.zero_le _, hB0, hO⟩
  case round =>
    clear hB0 hO
    obtain ⟨k, rfl, hk, hB1, hO⟩ := hrel
    by_cases hlt : k < L.length
    · obtain ⟨b, o, rfl, hb, he⟩ := Sl.elem RBuoy.len (by decide) (hs'.out.below (hB1.mono hB)) hlt
      have d0 : wr.cell? ⟨b, o + k * 3, none⟩ = some (.int .i64 L[k].f0) := by have := he 0 _ rfl; simpa [Nat.add_assoc] using this
      have d1 : wr.cell? ⟨b, o + k * 3 + 1, none⟩ = some (.int .i64 L[k].f1) := by have := he 1 _ rfl; simpa [Nat.add_assoc] using this
      have d2 : wr.cell? ⟨b, o + k * 3 + 2, none⟩ = some (.int .i64 L[k].f2) := by have := he 2 _ rfl; simpa [Nat.add_assoc] using this
      have hkn : k * 3 + 3 ≤ L.length * 3 := by have := Nat.mul_le_mul_right 3 (show k + 1 ≤ L.length by omega); omega
      have hlen : (flat RBuoy.cells (L.take k)).length = k * 3 := by rw [flat_len RBuoy.len, List.length_take, Nat.min_eq_left hk]
      have hstep : flat RBuoy.cells (L.take (k + 1)) = flat RBuoy.cells (L.take k) ++ [.int .i64 L[k].f0] ++ [.int .i64 L[k].f1] ++ [.int .i64 L[k].f2] := by rw [List.take_succ_eq_append_getElem hlt, flat_snoc]; simp [RBuoy.cells]
      have hstep := Lib.hid hstep
      clear he
      go_wp2_with (go_at_call 100; refine (toBuoy_any _ _ _ _).mono ?_; rintro e w1 ⟨rfl, hb1⟩; (have hO1 := hO.on hb1); obtain ⟨y0, x0⟩ := hO1.cell (i := k * 3) (by omega); have v0 := hO1.frozen (k * 3); obtain ⟨y1, x1⟩ := hO1.cell (i := k * 3 + 1) (by omega); have v1 := hO1.frozen (k * 3 + 1); obtain ⟨y2, x2⟩ := hO1.cell (i := k * 3 + 2) (by omega); have v2 := hO1.frozen (k * 3 + 2))
      go_roundw
      case rel => exact ⟨k + 1, by go_num, by omega, by have := bnext hB1 hb1; go_grown, by rw [hstep.out]; exact (Own.set (Own.set (Own.set hO1 (by simp [hlen]) (by omega) _) (by simp [hlen]) (by omega) _) (by simp [hlen]) (by omega) _)⟩
      case measure => simp [intOf]; omega
    · obtain rfl : k = L.length := by omega
      have hO2 : Own wr w.heap.size 66 (L.length * 3) (flat RBuoy.cells L) := by rw [List.take_length] at hO; exact hO
      go_wp2
      go_ret
      exact ⟨rfl, hB1, hO2⟩
def ssBuoy (j : Nat) : Bool := decide (j < 0)
set_option maxHeartbeats 1600000 in
theorem markBuoyS_any (B e : Nat) (v : Value) (n : Nat) (xs : List Value) (k0 : Nat) (w : World) (h : Rs w B e 3 v n xs) (hn : n ≤ 1048576) (h0 : 1 ≤ k0) (h1 : k0 ≤ 100000000) : Calls Try.prog 48 #[v, .int .i64 k0] w fun e' w' => e' = .returned (.int .i64 ((k0 : Int) + (n : Int) * 3)) ∧ w.grownBy w' v.ownBlock ∧ Rs w' B e 3 v n (marks ssBuoy k0 (n * 3)) := by
  obtain ⟨hl, ⟨rfl, rfl⟩ | ⟨g, c, N, rfl, hB, hO⟩⟩ := h
  · go_enter Try.func48, Try.ntmps48
    go_wp2
    go_loopw [1, 5] (fun s i wr => s = .int .i64 k0 ∧ i = .int .i64 0 ∧ w = wr) (fun _ _ _ => 0)
    case atStart => exact ⟨rfl, rfl, rfl⟩
    case round =>
      obtain ⟨rfl, rfl, rfl⟩ := hrel
      go_wp2
      go_ret
      exact ⟨by simp, World.grownBy.refl _ _, by simpa [marks] using Rs.nil _ _ _ _⟩
  · have hN : n * 3 ≤ N := by obtain ⟨_, _, _, hxN, _⟩ := id hO; omega
    have hM0 : Own w g e N (marks ssBuoy k0 (0 * 3)) := by simpa [marks] using hO.start
    clear hO
    go_enter Try.func48, Try.ntmps48
    go_wp2
    go_loopw [1, 5] (fun s i wr => ∃ k : Nat, s = .int .i64 ((k0 : Int) + (k : Int) * 3) ∧ i = .int .i64 k ∧ k ≤ n ∧ w.grownBy wr (some g) ∧ Own wr g e N (marks ssBuoy k0 (k * 3))) (fun _ i _ => n - (intOf i).toNat)
    case atStart => exact ⟨0, by simp, rfl, Nat.zero_le _, World.grownBy.refl _ _, by simpa using hM0⟩
    case round =>
      clear hM0
      obtain ⟨k, rfl, rfl, hk, hg0, hM⟩ := hrel
      by_cases hlt : k < n
      · have hkN : k * 3 + 3 ≤ N := by omega
        obtain ⟨u0, x0⟩ := hM.cell (i := k * 3) (by omega)
        have y0 := hM.frozen (k * 3)
        replace hM := Own.mark hM (by omega) (i := k * 3) rfl (u := .int .i64 ((k0 : Int) + (k : Int) * 3)) (mv_int (by unfold ssBuoy; exact decide_eq_false (by omega)) (by omega))
        obtain ⟨u1, x1⟩ := hM.cell (i := k * 3 + 1) (by omega)
        have y1 := hM.frozen (k * 3 + 1)
        replace hM := Own.mark hM (by omega) (i := k * 3 + 1) rfl (u := .int .i64 ((k0 : Int) + (k : Int) * 3 + 1)) (mv_int (by unfold ssBuoy; exact decide_eq_false (by omega)) (by omega))
        obtain ⟨u2, x2⟩ := hM.cell (i := k * 3 + 2) (by omega)
        have y2 := hM.frozen (k * 3 + 2)
        replace hM := Own.mark hM (by omega) (i := k * 3 + 2) rfl (u := .int .i64 ((k0 : Int) + (k : Int) * 3 + 1 + 1)) (mv_int (by unfold ssBuoy; exact decide_eq_false (by omega)) (by omega))
        have hM3 := Lib.hid hM
        clear hM
        go_wp2
        go_roundw
        case rel => exact ⟨k + 1, congrArg (Value.int .i64) (by omega), by go_num, by omega, (Go.Lib.grownBy_setB (Go.Lib.grownBy_setB (Go.Lib.grownBy_setB hg0 _ _) _ _) _ _), by rw [show (k + 1) * 3 = k * 3 + 1 + 1 + 1 by omega]; exact hM3.out⟩
        case measure => simp [intOf]; omega
      · obtain rfl : k = n := by omega
        go_wp2
        go_ret
        exact ⟨rfl, hg0, by rw [marks_len], .inr ⟨g, c, N, rfl, hB, hM⟩⟩
set_option maxHeartbeats 1600000 in
theorem heldBuoyS_any (B e : Nat) (v : Value) (n : Nat) (k0 : Nat) (w : World) (h : Rs w B e 3 v n (marks ssBuoy k0 (n * 3))) (hn : n ≤ 1048576) (h0 : 1 ≤ k0) (h1 : k0 ≤ 100000000) : Calls Try.prog 52 #[v, .int .i64 k0] w fun e' w' => e' = .returned (.int .i64 ((k0 : Int) + (n : Int) * 3)) ∧ Below w.heap.size w w' := by
  obtain ⟨hl, ⟨rfl, rfl⟩ | ⟨g, c, N, rfl, hB, hO⟩⟩ := h
  · go_enter Try.func52, Try.ntmps52
    go_wp2
    go_loopw [1, 5] (fun s i wr => s = .int .i64 k0 ∧ i = .int .i64 0 ∧ w = wr) (fun _ _ _ => 0)
    case atStart => exact ⟨rfl, rfl, rfl⟩
    case round =>
      obtain ⟨rfl, rfl, rfl⟩ := hrel
      go_wp2
      go_ret
      exact ⟨by simp, Below.refl _ _⟩
  · go_enter Try.func52, Try.ntmps52
    go_wp2
    go_loopw [1, 5] (fun s i wr => ∃ k : Nat, s = .int .i64 ((k0 : Int) + (k : Int) * 3) ∧ i = .int .i64 k ∧ k ≤ n ∧ Below w.heap.size w wr) (fun _ i _ => n - (intOf i).toNat)
    case atStart => exact ⟨0, by simp, rfl, Nat.zero_le _, Below.refl _ _⟩
    case round =>
      obtain ⟨k, rfl, rfl, hk, hB1⟩ := hrel
      have hM := hO.on hB1
      have hgl := hM.lt
      by_cases hlt : k < n
      · have hkN : k * 3 + 3 ≤ n * 3 := by omega
        have d0 : wr.cell? ⟨g, k * 3, none⟩ = some (.int .i64 ((k0 : Int) + (k : Int) * 3)) := by rw [hM.get (marks_get (by omega))]; exact congrArg some (mv_int (by unfold ssBuoy; exact decide_eq_false (by omega)) (by omega))
        have d1 : wr.cell? ⟨g, k * 3 + 1, none⟩ = some (.int .i64 ((k0 : Int) + (k : Int) * 3 + 1)) := by rw [hM.get (marks_get (by omega))]; exact congrArg some (mv_int (by unfold ssBuoy; exact decide_eq_false (by omega)) (by omega))
        have d2 : wr.cell? ⟨g, k * 3 + 2, none⟩ = some (.int .i64 ((k0 : Int) + (k : Int) * 3 + 1 + 1)) := by rw [hM.get (marks_get (by omega))]; exact congrArg some (mv_int (by unfold ssBuoy; exact decide_eq_false (by omega)) (by omega))
        go_wp2
        go_roundw
        case rel => exact ⟨k + 1, congrArg (Value.int .i64) (by omega), by go_num, by omega, hB1⟩
        case measure => simp [intOf]; omega
      · obtain rfl : k = n := by omega
        go_wp2
        go_ret
        exact ⟨rfl, hB1⟩
set_option maxHeartbeats 1600000 in
theorem eqBuoyS_same (L : List RBuoy) (A A2 : Option Addr) (c c2 B : Nat) (w : World) (hs : Sl w B A (flat RBuoy.cells L)) (hs2 : Sl w B A2 (flat RBuoy.cells L)) (hB : B ≤ w.heap.size) (hl : L.length ≤ 1048576) : Calls Try.prog 46 #[.slice A L.length c, .slice A2 L.length c2] w fun e w' => e = .returned (.bool true) ∧ Below w.heap.size w w' := by
  have hs' := Lib.hid hs
  have hs2' := Lib.hid hs2
  clear hs hs2
  go_enter Try.func46, Try.ntmps46
  go_wp2
  go_loopw [5] (fun i wr => ∃ k : Nat, i = .int .i64 k ∧ k ≤ L.length ∧ Below w.heap.size w wr) (fun i _ => L.length - (intOf i).toNat)
  case atStart => exact ⟨0, rfl, Nat.zero_le _, Below.refl _ _⟩
  case round =>
    obtain ⟨k, rfl, hk, hB1⟩ := hrel
    have hS1 := hB1.size
    by_cases hlt : k < L.length
    · obtain ⟨bp, op, rfl, hbp, hep⟩ := Sl.elem RBuoy.len (by decide) (hs'.out.below (hB1.mono hB)) hlt
      have dp0 : wr.cell? ⟨bp, op + k * 3, none⟩ = some (.int .i64 L[k].f0) := by have := hep 0 _ rfl; simpa [Nat.add_assoc] using this
      have dp1 : wr.cell? ⟨bp, op + k * 3 + 1, none⟩ = some (.int .i64 L[k].f1) := by have := hep 1 _ rfl; simpa [Nat.add_assoc] using this
      have dp2 : wr.cell? ⟨bp, op + k * 3 + 2, none⟩ = some (.int .i64 L[k].f2) := by have := hep 2 _ rfl; simpa [Nat.add_assoc] using this
      have hwp : bp < wr.heap.size := by omega
      obtain ⟨bq, oq, rfl, hbq, heq⟩ := Sl.elem RBuoy.len (by decide) (hs2'.out.below (hB1.mono hB)) hlt
      have dq0 : wr.cell? ⟨bq, oq + k * 3, none⟩ = some (.int .i64 L[k].f0) := by have := heq 0 _ rfl; simpa [Nat.add_assoc] using this
      have dq1 : wr.cell? ⟨bq, oq + k * 3 + 1, none⟩ = some (.int .i64 L[k].f1) := by have := heq 1 _ rfl; simpa [Nat.add_assoc] using this
      have dq2 : wr.cell? ⟨bq, oq + k * 3 + 2, none⟩ = some (.int .i64 L[k].f2) := by have := heq 2 _ rfl; simpa [Nat.add_assoc] using this
      have hwq : bq < wr.heap.size := by omega
      clear hep heq
      go_wp2_with fail
      refine wp_region_grew (by kernel_rfl) (by kernel_rfl) ?_
      repeat (first | (go_big_quiet_step ((go_at_call 102; exact grew_of (eqBuoy_same _ _ _ _)))) | (quiet_step ((go_at_call 102; exact grew_of (eqBuoy_same _ _ _ _)))))
      refine wpQuiet_nil ?_
      rintro _ ⟨⟨w9, hb9⟩, rfl⟩
      try dsimp only
      go_wp2
      go_roundw
      case rel => exact ⟨k + 1, by go_num, by omega, bnext hB1 hb9⟩
      case measure => simp [intOf]; omega
    · obtain rfl : k = L.length := by omega
      go_wp2
      go_ret
      exact ⟨rfl, hB1⟩
def okBuoy (L : List RBuoy) (k : Nat) : Bool := vPoint (L.getD k default).f0 (L.getD k default).f1 && inB (L.getD k default).f2 1 9
def vBuoys (L : List RBuoy) : Bool := allTo (okBuoy L) L.length && decide ((L.length : Int) ≤ 64)
theorem okBuoy_is {L : List RBuoy} {k : Nat} {a : RBuoy} (hg : L.getD k default = a) : okBuoy L k = (vPoint a.f0 a.f1 && inB a.f2 1 9) := by unfold okBuoy; rw [hg]
theorem vBuoys_hit {L : List RBuoy} {k : Nat} (hk : k < L.length) (h : okBuoy L k = false) : vBuoys L = false := by
  unfold vBuoys; rw [allTo_hit hk h]; rfl
theorem impl_isMark (n : Int) (w : World) : Calls Try.prog 135 #[.int .i64 n] w fun e w' => e = .returned (.bool (inB n 1 9)) ∧ w = w' := by
  go_enter Try.func135, Try.ntmps135
  go_wp2_with (go_at_call 82; refine (within_any _ _ _ _).mono ?_; rintro e w' ⟨rfl, rfl⟩)
  go_ret
  exact ⟨rfl, rfl⟩
theorem spec_Kind (n : Int) (w : World) : Calls Try.prog 144 #[.int .i64 n] w fun e w' => e = .returned (.bool (inB n 1 9)) ∧ w = w' := by
  go_enter Try.func144, Try.ntmps144
  go_wp2_with (go_at_call 119; refine (in_any _ _ _ _).mono ?_; rintro e w' ⟨rfl, rfl⟩)
  go_ret
  exact ⟨rfl, rfl⟩
set_option maxHeartbeats 1600000 in
theorem impl_ValidBuoys (L : List RBuoy) (A : Option Addr) (c B : Nat) (w : World) (hs : Sl w B A (flat RBuoy.cells L)) (hB : B ≤ w.heap.size) (hl : L.length ≤ 1048576) :
    Calls Try.prog 88 #[.slice A L.length c] w fun e w' => e = .returned (.bool (vBuoys L)) ∧ Below w.heap.size w w' := by
  have hs' := Lib.hid hs
  clear hs
  go_enter Try.func88, Try.ntmps88
  go_wp2
  go_loopw [7] (fun i wr => ∃ k : Nat, i = .int .i64 k ∧ k ≤ L.length ∧ allTo (okBuoy L) k = true ∧ Below w.heap.size w wr) (fun i _ => L.length - (intOf i).toNat)
  case atStart => exact ⟨0, rfl, Nat.zero_le _, rfl, Below.refl _ _⟩
  case round =>
    obtain ⟨k, rfl, hk, hv, hB1⟩ := hrel
    have hS1 := hB1.size
    have hv' := Lib.hid hv
    clear hv
    by_cases hlt : k < L.length
    · obtain ⟨b, o, rfl, hb, he⟩ := Sl.elem RBuoy.len (by decide) (hs'.out.below (hB1.mono hB)) hlt
      have hg := Lib.hid (getD_at hlt)
      obtain ⟨a, ha⟩ : ∃ a, L[k] = a := ⟨_, rfl⟩
      rw [ha] at hg he
      clear ha
      have d0 : wr.cell? ⟨b, o + k * 3, none⟩ = some (.int .i64 a.f0) := by have := he 0 _ rfl; simpa [Nat.add_assoc] using this
      have d1 : wr.cell? ⟨b, o + k * 3 + 1, none⟩ = some (.int .i64 a.f1) := by have := he 1 _ rfl; simpa [Nat.add_assoc] using this
      have d2 : wr.cell? ⟨b, o + k * 3 + 2, none⟩ = some (.int .i64 a.f2) := by have := he 2 _ rfl; simpa [Nat.add_assoc] using this
      clear he
      have hbw : b < wr.heap.size := by omega
      have hki : (k : Int) < (L.length : Int) := by omega
      have hok := Lib.hid (okBuoy_is hg.out)
      cases hva : vPoint a.f0 a.f1
      · have hm := Lib.hid (vBuoys_hit hlt (hok.out.trans (by rw [hva]; rfl)))
        go_wp2_with fail
        refine (impl_ValidPoint a.f0 a.f1 _).mono ?_
        rintro e w9 ⟨rfl, hb9⟩
        rw [hva]
        have hB9 := bnext hB1 (bnext (w := wr) (by go_grown) hb9)
        have x2 := cell_onN hb9 (show (wr.alloc (.cells #[.int .i64 a.f0, .int .i64 a.f1, .int .i64 a.f2] 66)).cell? ⟨wr.heap.size, 2, none⟩ = some (.int .i64 a.f2) by simp) (by simp)
        clear hb9
        go_wp2_with (go_at_call 135; refine (impl_isMark _ _).mono ?_; rintro e w' ⟨rfl, rfl⟩)
        go_ret
        exact ⟨ret_bool hm.out.symm, hB9⟩
      cases hvk : inB a.f2 1 9
      · have hm := Lib.hid (vBuoys_hit hlt (hok.out.trans (by rw [hva, hvk]; rfl)))
        go_wp2_with fail
        refine (impl_ValidPoint a.f0 a.f1 _).mono ?_
        rintro e w9 ⟨rfl, hb9⟩
        rw [hva]
        have hB9 := bnext hB1 (bnext (w := wr) (by go_grown) hb9)
        have x2 := cell_onN hb9 (show (wr.alloc (.cells #[.int .i64 a.f0, .int .i64 a.f1, .int .i64 a.f2] 66)).cell? ⟨wr.heap.size, 2, none⟩ = some (.int .i64 a.f2) by simp) (by simp)
        clear hb9
        go_wp2_with (go_at_call 135; refine (impl_isMark _ _).mono ?_; rintro e w' ⟨rfl, rfl⟩)
        go_ret
        exact ⟨ret_bool hm.out.symm, hB9⟩
      · have hf2 := Lib.hid (allTo_step hv'.out (hok.out.trans (by rw [hva, hvk]; rfl)))
        go_wp2_with fail
        refine (impl_ValidPoint a.f0 a.f1 _).mono ?_
        rintro e w9 ⟨rfl, hb9⟩
        rw [hva]
        have hB9 := bnext hB1 (bnext (w := wr) (by go_grown) hb9)
        have x2 := cell_onN hb9 (show (wr.alloc (.cells #[.int .i64 a.f0, .int .i64 a.f1, .int .i64 a.f2] 66)).cell? ⟨wr.heap.size, 2, none⟩ = some (.int .i64 a.f2) by simp) (by simp)
        clear hb9
        go_wp2_with (go_at_call 135; refine (impl_isMark _ _).mono ?_; rintro e w' ⟨rfl, rfl⟩)
        go_roundw
        case rel => exact ⟨k + 1, by go_num, by omega, hf2.out, hB9⟩
        case measure => simp [intOf]; omega
    · obtain rfl : k = L.length := by omega
      have hm : Hid (vBuoys L = decide ((L.length : Int) ≤ 64)) := by apply Lib.hid; unfold vBuoys; rw [hv'.out]; rfl
      go_wp2_with (go_at_call 136; refine (impl_few _ _ _).mono ?_; rintro e w' ⟨rfl, rfl⟩)
      go_ret
      exact ⟨ret_bool hm.out.symm, hB1⟩
set_option maxHeartbeats 1600000 in
theorem spec_l13List (L : List RBuoy) (A : Option Addr) (c B : Nat) (w : World) (hs : Sl w B A (flat RBuoy.cells L)) (hB : B ≤ w.heap.size) (hl : L.length ≤ 1048576) :
    Calls Try.prog 97 #[.slice A L.length c] w fun e w' => e = .returned (.bool (vBuoys L)) ∧ Below w.heap.size w w' := by
  have hs' := Lib.hid hs
  clear hs
  go_enter Try.func97, Try.ntmps97
  go_wp2
  go_loopw [3] (fun i wr => ∃ k : Nat, i = .int .i64 k ∧ k ≤ L.length ∧ allTo (okBuoy L) k = true ∧ Below w.heap.size w wr) (fun i _ => L.length - (intOf i).toNat)
  case atStart => exact ⟨0, rfl, Nat.zero_le _, rfl, Below.refl _ _⟩
  case round =>
    obtain ⟨k, rfl, hk, hv, hB1⟩ := hrel
    have hS1 := hB1.size
    have hv' := Lib.hid hv
    clear hv
    by_cases hlt : k < L.length
    · obtain ⟨b, o, rfl, hb, he⟩ := Sl.elem RBuoy.len (by decide) (hs'.out.below (hB1.mono hB)) hlt
      have hg := Lib.hid (getD_at hlt)
      obtain ⟨a, ha⟩ : ∃ a, L[k] = a := ⟨_, rfl⟩
      rw [ha] at hg he
      clear ha
      have d0 : wr.cell? ⟨b, o + k * 3, none⟩ = some (.int .i64 a.f0) := by have := he 0 _ rfl; simpa [Nat.add_assoc] using this
      have d1 : wr.cell? ⟨b, o + k * 3 + 1, none⟩ = some (.int .i64 a.f1) := by have := he 1 _ rfl; simpa [Nat.add_assoc] using this
      have d2 : wr.cell? ⟨b, o + k * 3 + 2, none⟩ = some (.int .i64 a.f2) := by have := he 2 _ rfl; simpa [Nat.add_assoc] using this
      clear he
      have hbw : b < wr.heap.size := by omega
      have hki : (k : Int) < (L.length : Int) := by omega
      have hok := Lib.hid (okBuoy_is hg.out)
      cases hva : vPoint a.f0 a.f1
      · have hm := Lib.hid (vBuoys_hit hlt (hok.out.trans (by rw [hva]; rfl)))
        go_wp2_with fail
        refine (spec_l02Ok a.f0 a.f1 _).mono ?_
        rintro e w9 ⟨rfl, hb9⟩
        rw [hva]
        have x2 := ((bcell hb9).1 _ _ hbw).trans d2
        have hB9 := bnext hB1 hb9
        clear hb9 d0 d1 d2
        go_wp2_with (go_at_call 144; refine (spec_Kind _ _).mono ?_; rintro e w' ⟨rfl, rfl⟩)
        go_ret
        exact ⟨ret_bool hm.out.symm, hB9⟩
      cases hvk : inB a.f2 1 9
      · have hm := Lib.hid (vBuoys_hit hlt (hok.out.trans (by rw [hva, hvk]; rfl)))
        go_wp2_with fail
        refine (spec_l02Ok a.f0 a.f1 _).mono ?_
        rintro e w9 ⟨rfl, hb9⟩
        rw [hva]
        have x2 := ((bcell hb9).1 _ _ hbw).trans d2
        have hB9 := bnext hB1 hb9
        clear hb9 d0 d1 d2
        go_wp2_with (go_at_call 144; refine (spec_Kind _ _).mono ?_; rintro e w' ⟨rfl, rfl⟩)
        go_ret
        exact ⟨ret_bool hm.out.symm, hB9⟩
      · have hf2 := Lib.hid (allTo_step hv'.out (hok.out.trans (by rw [hva, hvk]; rfl)))
        go_wp2_with fail
        refine (spec_l02Ok a.f0 a.f1 _).mono ?_
        rintro e w9 ⟨rfl, hb9⟩
        rw [hva]
        have x2 := ((bcell hb9).1 _ _ hbw).trans d2
        have hB9 := bnext hB1 hb9
        clear hb9 d0 d1 d2
        go_wp2_with (go_at_call 144; refine (spec_Kind _ _).mono ?_; rintro e w' ⟨rfl, rfl⟩)
        go_roundw
        case rel => exact ⟨k + 1, by go_num, by omega, hf2.out, hB9⟩
        case measure => simp [intOf]; omega
    · obtain rfl : k = L.length := by omega
      have hm : Hid (vBuoys L = decide ((L.length : Int) ≤ 64)) := by apply Lib.hid; unfold vBuoys; rw [hv'.out]; rfl
      go_wp2
      go_ret
      exact ⟨ret_bool hm.out.symm, hB1⟩
end Go.Proofs.Ytlflefnjoeappaa
