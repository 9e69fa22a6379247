/-
  DangersAt: the program's function returns what the reference's returns, for all arguments, in a row of its own. Under no condition.
-/
import Derived.Test.YtnikdafbnkedkaaDAt
import Derived.Test.YtnikdafbnkedkaaDMark
import Derived.Deep.RegionHeld3
set_option linter.unusedVariables false
set_option linter.unnecessarySimpa false
set_option maxRecDepth 100000
set_option linter.unusedSimpArgs false
namespace Go.Proofs.Ytnikdafbnkedkaa
open Go.RowKit BigFrame
theorem own : ownKnob Try.prog.godebug = none := by kernel_rfl
theorem laidOut : laidOutB Try.prog = true := by kernel_rfl

theorem Sl.text {w : World} {B : Nat} {A : Option Addr} {L : List ByteArray} (hs : Sl w B A ((L).map Value.string)) {k : Nat} (hk : k < L.length) : ∃ b o, A = some ⟨b, o, none⟩ ∧ b < B ∧ w.cell? ⟨b, o + k, none⟩ = some (.string L[k]) := by
  obtain ⟨b, o, e, hb, hc⟩ := hs (by intro e; rw [List.map_eq_nil_iff] at e; subst e; simp at hk)
  exact ⟨b, o, e, hb, hc k _ (by rw [List.getElem?_map, List.getElem?_eq_getElem hk]; rfl)⟩
set_option maxHeartbeats 800000 in
theorem eqStringS_same (L : List ByteArray) (A A2 : Option Addr) (c c2 B : Nat) (w : World) (hs : Sl w B A ((L).map Value.string)) (hs2 : Sl w B A2 ((L).map Value.string)) (hB : B ≤ w.heap.size) (hl : L.length ≤ 1048576) : Calls Try.prog 46 #[.slice A L.length c, .slice A2 L.length c2] w fun e w' => e = .returned (.bool true) ∧ Below w.heap.size w w' := by
  have hs' := Lib.hid hs
  have hs2' := Lib.hid hs2
  clear hs hs2
  go_enter Try.func46, Try.ntmps46
  go_wp2
  go_loopw [5] (fun i wr => ∃ k : Nat, i = .int .i64 k ∧ k ≤ L.length ∧ Below w.heap.size w wr) (fun i _ => L.length - (intOf i).toNat)
  case atStart => exact ⟨0, rfl, Nat.zero_le _, Below.refl _ _⟩
  case round =>
    obtain ⟨k, rfl, hk, hB1⟩ := hrel
    have hS1 := hB1.size
    by_cases hlt : k < L.length
    · obtain ⟨bp, op, rfl, hbp, dp⟩ := Sl.text (hs'.out.below (hB1.mono hB)) hlt
      obtain ⟨bq, oq, rfl, hbq, dq⟩ := Sl.text (hs2'.out.below (hB1.mono hB)) hlt
      have hwp : bp < wr.heap.size := by omega
      have hwq : bq < wr.heap.size := by omega
      go_wp2_with fail
      refine wp_region_grew (by kernel_rfl) (by kernel_rfl) ?_
      repeat (first | (go_big_quiet_step (fail)) | (quiet_step (fail)))
      refine wpQuiet_nil ?_
      rintro _ ⟨⟨w9, hb9⟩, rfl⟩
      try dsimp only
      obtain ⟨hc9, hf9⟩ := bcell hb9
      go_wp2
      go_roundw
      case rel => exact ⟨k + 1, by go_num, by omega, bnext hB1 hb9⟩
      case measure => simp [intOf]; omega
    · obtain rfl : k = L.length := by omega
      go_wp2
      go_ret
      exact ⟨rfl, hB1⟩
/-- Two rows of texts that calls have made. -/
theorem eqStringS_rs (L : List ByteArray) (v v2 : Value) (B B2 e e2 : Nat) (w : World) (h : Rs w B e 1 v L.length ((L).map Value.string)) (h2 : Rs w B2 e2 1 v2 L.length ((L).map Value.string)) (hl : L.length ≤ 1048576) : Calls Try.prog 46 #[v, v2] w fun e w' => e = .returned (.bool true) ∧ Below w.heap.size w w' := by
  obtain ⟨A, c, rfl, hs⟩ := h.sl
  obtain ⟨A2, c2, rfl, hs2⟩ := h2.sl
  exact eqStringS_same L A A2 c c2 w.heap.size w hs hs2 (Nat.le_refl _) hl

def dAtOk (L : List RDanger) (px py : Int) : Bool := vDangsM L && vPoint px py
def dAtC (L : List RDanger) (px py : Int) : Int := if dAtOk L px py then 0 else 1
def dAtN (L : List RDanger) (px py : Int) : List ByteArray := if dAtOk L px py then namesTo (nearD px py) L L.length else []
theorem dAtN_le (L : List RDanger) (px py : Int) : (dAtN L px py).length ≤ L.length := by
  unfold dAtN
  split
  · exact namesTo_le _ _ _
  · simp
theorem spec_DAt (L : List RDanger) (A : Option Addr) (c B : Nat) (px py : Int) (w : World) (hs : Sl w B A (flat RDanger.cells L)) (hB : B ≤ w.heap.size) (hok : ∀ a ∈ L, a.ok) (hl : L.length ≤ 1048576) : Calls Try.prog 43 #[.slice A L.length c, .agg #[.int .i64 px, .int .i64 py]] w fun e w' => ∃ v, e = .returned (.tuple #[v, .int .i64 (dAtC L px py)]) ∧ Below w.heap.size w w' ∧ Rs w' w.heap.size 9 1 v (dAtN L px py).length ((dAtN L px py).map Value.string) := by
                                                                                                                                                                                                                                                                                                                                                                                                                                                                                by_cases hv : vDangsM L = true ∧ vPoint px py = true
                                                                                                                                                                                                                                                                                                                                                                                                                                                                                · have h : dAtOk L px py = true := by unfold dAtOk; rw [hv.1, hv.2]; rfl
                                                                                                                                                                                                                                                                                                                                                                                                                                                                                  refine (spec_DAt_ok L A c B px py w hs hB hok hl hv.1 hv.2).mono ?_
                                                                                                                                                                                                                                                                                                                                                                                                                                                                                  rintro e w' ⟨v, rfl, hb, hR⟩
                                                                                                                                                                                                                                                                                                                                                                                                                                                                                  exact ⟨v, by unfold dAtC; rw [if_pos h], hb, by unfold dAtN; rw [if_pos h]; exact hR⟩
                                                                                                                                                                                                                                                                                                                                                                                                                                                                                · have h : ¬ dAtOk L px py = true := by unfold dAtOk; rw [Bool.and_eq_true]; exact hv
                                                                                                                                                                                                                                                                                                                                                                                                                                                                                  refine (spec_DAt_no L A c B px py w hs hB hok hl hv).mono ?_
                                                                                                                                                                                                                                                                                                                                                                                                                                                                                  rintro e w' ⟨rfl, hb⟩
                                                                                                                                                                                                                                                                                                                                                                                                                                                                                  exact ⟨_, by unfold dAtC; rw [if_neg h], hb, by unfold dAtN; rw [if_neg h]; exact Rs.nil _ _ _ _⟩
theorem impl_DAt (L : List RDanger) (A : Option Addr) (c B : Nat) (px py : Int) (w : World) (hs : Sl w B A (flat RDanger.cells L)) (hB : B ≤ w.heap.size) (hok : ∀ a ∈ L, a.ok) (hl : L.length ≤ 1048576) : Calls Try.prog 45 #[.slice A L.length c, .agg #[.int .i64 px, .int .i64 py]] w fun e w' => ∃ v, e = .returned (.tuple #[v, .int .i64 (dAtC L px py)]) ∧ Below w.heap.size w w' ∧ Rs w' w.heap.size 9 1 v (dAtN L px py).length ((dAtN L px py).map Value.string) := by
                                                                                                                                                                                                                                                                                                                                                                                                                                                                                by_cases hv : vDangsM L = true ∧ vPoint px py = true
                                                                                                                                                                                                                                                                                                                                                                                                                                                                                · have h : dAtOk L px py = true := by unfold dAtOk; rw [hv.1, hv.2]; rfl
                                                                                                                                                                                                                                                                                                                                                                                                                                                                                  refine (impl_DAt_ok L A c B px py w hs hB hok hl hv.1 hv.2).mono ?_
                                                                                                                                                                                                                                                                                                                                                                                                                                                                                  rintro e w' ⟨v, rfl, hb, hR⟩
                                                                                                                                                                                                                                                                                                                                                                                                                                                                                  exact ⟨v, by unfold dAtC; rw [if_pos h], hb, by unfold dAtN; rw [if_pos h]; exact hR⟩
                                                                                                                                                                                                                                                                                                                                                                                                                                                                                · have h : ¬ dAtOk L px py = true := by unfold dAtOk; rw [Bool.and_eq_true]; exact hv
                                                                                                                                                                                                                                                                                                                                                                                                                                                                                  refine (impl_DAt_no L A c B px py w hs hB hok hl hv).mono ?_
                                                                                                                                                                                                                                                                                                                                                                                                                                                                                  rintro e w' ⟨rfl, hb⟩
                                                                                                                                                                                                                                                                                                                                                                                                                                                                                  exact ⟨_, by unfold dAtC; rw [if_neg h], hb, by unfold dAtN; rw [if_neg h]; exact Rs.nil _ _ _ _⟩

namespace fnExactDangersAt
open Go.ChangeShapes Go.WideShapes Go.ChangeAt Go.RowKit
set_option linter.unusedVariables false
set_option maxHeartbeats 3200000 in
theorem walk (W : World) (A0 : Option Addr) (c0 : Nat) (L0 : List RDanger) (s0 : Sl W W.heap.size A0 (flat RDanger.cells L0)) (b0 : ∀ z ∈ L0, z.ok) (m0 : L0.length ≤ maxLen) (a1_0 : Int) (wa1_0 : IntKind.i64.has a1_0) (a1_1 : Int) (wa1_1 : IntKind.i64.has a1_1) :
    Calls Try.prog 7 #[.slice A0 L0.length c0, .agg #[.int .i64 a1_0, .int .i64 a1_1]] W fun e w' => e = .returned (.bool true) ∧ Below W.heap.size W w' := by
  have s0' := Lib.hid s0
  have o0 := Lib.hid b0
  clear s0 b0
  have hB00 : Below W.heap.size W (W.alloc (.cells #[.int .i64 a1_0, .int .i64 a1_1] 38)) := by go_grown
  have hP : Pt (W.alloc (.cells #[.int .i64 a1_0, .int .i64 a1_1] 38)) W.heap.size a1_0 a1_1 := ⟨by simp, by simp [go_sem], by simp [go_sem]⟩
  obtain ⟨l1, e1⟩ : ∃ l, szS RDanger.szN 1048576 L0 = l := ⟨_, rfl⟩
  go_enter Try.func7, Try.ntmps7
  go_wp2_with fail
  refine (szDangerS_rec L0 _ _ W.heap.size 1048576 _ (s0'.out.below hB00) hB00.size o0.out m0 (by omega) (by omega)).mono ?_
  rintro e wa ⟨rfl, hba⟩
  have hBc := bnext hB00 hba
  replace hP := hP.on hba
  clear hB00 hba
  rw [e1]
  by_cases h1 : l1 < 0
  · clear e1
    go_wp2_with fail
    go_ret
    exact ⟨rfl, hBc⟩
  obtain ⟨g1, g2⟩ := szS_ge (by rw [e1]; exact h1)
  have n0 : L0.length ≤ 1048576 := by omega
  clear e1 g1 g2
  go_wp2_with fail
  clear h1
  have hsp := fun A c B w hs hB => spec_DAt L0 A c B a1_0 a1_1 w hs hB o0.out n0
  have him := fun A c B w hs hB => impl_DAt L0 A c B a1_0 a1_1 w hs hB o0.out n0
  have hnl : (dAtN L0 a1_0 a1_1).length ≤ 1048576 := Nat.le_trans (dAtN_le _ _ _) n0
  generalize dAtN L0 a1_0 a1_1 = NM at hsp him hnl
  generalize dAtC L0 a1_0 a1_1 = C at hsp him
  have hq : _ ∧ _ := ⟨hP.2.1, hP.2.2⟩
  go_region_held3 (fun w' => w'.cell? ⟨W.heap.size, 0, none⟩ = some (.int .i64 a1_0) ∧ w'.cell? ⟨W.heap.size, 1, none⟩ = some (.int .i64 a1_1)) (first | assumption | exact ⟨(Pt.on hP (by go_grown)).2.1, (Pt.on hP (by go_grown)).2.2⟩) (first | (go_at_call 25; refine (toDangerS_own L0 _ _ W.heap.size _ (s0'.out.below (bnext hBc (by go_grown))) (bnext hBc (by go_grown)).size n0).mono ?_; rintro e w1 ⟨rfl, hb1, r1⟩; have hl1 := r1.lt; have hs1 := hb1.size; have r1 := Lib.hid r1; have hBc := bnext (bnext hBc (by go_grown)) hb1; have hP := Pt.on (Pt.on hP (by go_grown)) hb1; have hq := (⟨hP.2.1, hP.2.2⟩ : _ ∧ _)) | (go_at_call 44; refine (toPoint_any _ _ _).mono ?_; rintro e w2 ⟨rfl, hb2⟩; have hs2 := hb2.size; have hBc := bnext (bnext hBc (by go_grown)) hb2; have hP := Pt.on (Pt.on hP (by go_grown)) hb2; have hq := (⟨hP.2.1, hP.2.2⟩ : _ ∧ _)) | (go_at_call 43; refine (hsp _ _ w2.heap.size _ (Own.sl' (r1.out.on hb2)) (Nat.le_refl _)).mono ?_; rintro e w3 ⟨vS, rfl, hb3, hS⟩; have hs3 := hb3.size; have hBc := bnext (bnext hBc (by go_grown)) hb3; have hP := Pt.on (Pt.on hP (by go_grown)) hb3; have hq := (⟨hP.2.1, hP.2.2⟩ : _ ∧ _)))
  have hz3 := hP.1
  go_wp2_with fail
  have hbS := hS.block
  refine (toDangerS_own L0 _ _ W.heap.size _ (s0'.out.below hBc) hBc.size n0).mono ?_
  rintro e w4 ⟨rfl, hb4, r4⟩
  have hs4 := hb4.size
  have hl4 := r4.lt
  have hz4 := hP.1
  replace hBc := bnext hBc hb4
  replace hP := hP.on hb4
  have r4 := Lib.hid r4
  have p0 := hP.2.1
  have p1 := hP.2.2
  go_wp2_with fail
  clear p0 p1
  replace hS := hS.on hb4
  refine (toPoint_any _ _ _).mono ?_
  rintro e w5 ⟨rfl, hb5⟩
  have hs5 := hb5.size
  replace hBc := bnext hBc hb5
  replace hP := hP.on hb5
  go_wp2_with fail
  replace hS := hS.on hb5
  have r5 := Lib.hid (r4.out.on hb5)
  refine (him _ _ w5.heap.size _ r5.out.sl' (Nat.le_refl _)).mono ?_
  rintro e w6 ⟨vG, rfl, hb6, hG⟩
  have hs6 := hb6.size
  replace hBc := bnext hBc hb6
  replace hP := hP.on hb6
  have hbG := hG.block
  replace hS := hS.on hb6
  have r6 := Lib.hid (r5.out.on hb6)
  go_wp2_with fail
  refine (eqStringS_rs NM _ _ _ _ _ _ _ hG hS hnl).mono ?_
  rintro e w7 ⟨rfl, hb7⟩
  have hs7 := hb7.size
  replace hBc := bnext hBc hb7
  replace hP := hP.on hb7
  go_wp2_with fail
  replace hS := hS.on hb7
  replace hG := hG.on hb7
  have r7 := Lib.hid (r6.out.on hb7)
  refine (toDangerS_own L0 _ _ W.heap.size _ (s0'.out.below hBc) hBc.size n0).mono ?_
  rintro e w8 ⟨rfl, hb8, r8⟩
  have hs8 := hb8.size
  have hl8 := r8.lt
  have hz8 := hP.1
  replace hBc := bnext hBc hb8
  replace hP := hP.on hb8
  have r8 := Lib.hid r8
  have p0 := hP.2.1
  have p1 := hP.2.2
  go_wp2_with fail
  clear p0 p1
  replace hS := hS.on hb8
  replace hG := hG.on hb8
  have rx8 := Lib.hid (r7.out.on hb8)
  refine (eqDangerS_same L0 _ _ _ _ w8.heap.size _ rx8.out.sl' r8.out.sl' (Nat.le_refl _) n0).mono ?_
  rintro e w9 ⟨rfl, hb9⟩
  have hs9 := hb9.size
  replace hBc := bnext hBc hb9
  replace hP := hP.on hb9
  go_wp2_with fail
  replace hS := hS.on hb9
  replace hG := hG.on hb9
  have r9 := Lib.hid (rx8.out.on hb9)
  refine (markDangerS_any W.heap.size 48 _ L0.length (flat RDanger.cells L0) 1 _ ⟨by rw [flat_len RDanger.len], .inr ⟨_, _, _, rfl, by omega, r9.out⟩⟩ n0 (by omega) (by omega)).mono ?_
  rintro e w10 ⟨rfl, hg10, hR10⟩
  have hs10 := hg10.size
  replace hP := hP.farO hg10 (fun k e => by have e' : w3.heap.size = k := Option.some.inj e; omega)
  replace hBc := hBc.grown hg10 hBc.size (fun k e => by have e' : w3.heap.size = k := Option.some.inj e; omega)
  replace hS := hS.far hg10 (fun k e q => by have e' : w3.heap.size = k := Option.some.inj e; have := (hbS _ q).2; omega)
  replace hG := hG.far hg10 (fun k e q => by have e' : w3.heap.size = k := Option.some.inj e; have := (hbG _ q).1; omega)
  clear hR10 r9
  go_wp2_with fail
  refine (eqStringS_rs NM _ _ _ _ _ _ _ hG hS hnl).mono ?_
  rintro e w11 ⟨rfl, hb11⟩
  have hs11 := hb11.size
  replace hBc := bnext hBc hb11
  replace hP := hP.on hb11
  go_wp2_with fail
  replace hS := hS.on hb11
  replace hG := hG.on hb11
  refine (markStringS_any _ _ _ _ _ 1 _ hG hnl (by omega) (by omega)).mono ?_
  rintro e w12 ⟨rfl, hg12, hR⟩
  have hs12 := hg12.size
  replace hP := hP.farO hg12 (fun k e => by have := (hbG _ e).1; omega)
  replace hBc := hBc.grown hg12 hBc.size (fun k e => by have := (hbG _ e).1; omega)
  replace hS := hS.far hg12 (fun k e q => by have := (hbG _ e).1; have := (hbS _ q).2; omega)
  clear hG
  go_wp2_with fail
  refine (heldStringS_any _ _ _ _ 1 _ hR hnl (by omega) (by omega)).mono ?_
  rintro e w13 ⟨rfl, hb13⟩
  have hs13 := hb13.size
  replace hBc := bnext hBc hb13
  replace hP := hP.on hb13
  go_wp2_with fail
  replace hS := hS.on hb13
  replace hR := hR.on hb13
  have hq : _ ∧ _ := ⟨hP.2.1, hP.2.2⟩
  go_region_held3 (fun w' => w'.cell? ⟨W.heap.size, 0, none⟩ = some (.int .i64 a1_0) ∧ w'.cell? ⟨W.heap.size, 1, none⟩ = some (.int .i64 a1_1)) (first | assumption | exact ⟨(Pt.on hP (by go_grown)).2.1, (Pt.on hP (by go_grown)).2.2⟩) (first | (go_at_call 25; refine (toDangerS_own L0 _ _ W.heap.size _ (s0'.out.below (bnext hBc (by go_grown))) (bnext hBc (by go_grown)).size n0).mono ?_; rintro e w14 ⟨rfl, hb14, r14⟩; have hl14 := r14.lt; have hs14 := hb14.size; have r14 := Lib.hid r14; have hBc := bnext (bnext hBc (by go_grown)) hb14; have hP := Pt.on (Pt.on hP (by go_grown)) hb14; have hq := (⟨hP.2.1, hP.2.2⟩ : _ ∧ _)) | (go_at_call 44; refine (toPoint_any _ _ _).mono ?_; rintro e w15 ⟨rfl, hb15⟩; have hs15 := hb15.size; have hBc := bnext (bnext hBc (by go_grown)) hb15; have hP := Pt.on (Pt.on hP (by go_grown)) hb15; have hq := (⟨hP.2.1, hP.2.2⟩ : _ ∧ _)) | (go_at_call 45; refine (him _ _ w15.heap.size _ (Own.sl' (r14.out.on hb15)) (Nat.le_refl _)).mono ?_; rintro e w16 ⟨vH, rfl, hb16, hH⟩; have hs16 := hb16.size; have hBc := bnext (bnext hBc (by go_grown)) hb16; have hP := Pt.on (Pt.on hP (by go_grown)) hb16; have hq := (⟨hP.2.1, hP.2.2⟩ : _ ∧ _)))
  have hz16 := hP.1
  go_wp2_with fail
  have hS16 := ((hS.on (w' := w14) (by first | exact hb14 | exact (show Below _ _ _ by go_grown).trans (hb14.mono (Nat.le_refl _)))).on hb15).on hb16
  have hR16 := ((hR.on (w' := w14) (by first | exact hb14 | exact (show Below _ _ _ by go_grown).trans (hb14.mono (Nat.le_refl _)))).on hb15).on hb16
  refine (eqStringS_rs NM _ _ _ _ _ _ _ hH hS16 hnl).mono ?_
  rintro e w17 ⟨rfl, hb17⟩
  have hs17 := hb17.size
  replace hBc := bnext hBc hb17
  replace hP := hP.on hb17
  go_wp2_with fail
  refine (heldStringS_any _ _ _ _ 1 _ (hR16.on hb17) hnl (by omega) (by omega)).mono ?_
  rintro e w18 ⟨rfl, hb18⟩
  have hs18 := hb18.size
  replace hBc := bnext hBc hb18
  replace hP := hP.on hb18
  go_wp2_with fail
  go_ret
  exact ⟨rfl, hBc⟩

theorem lifted (os : Os) (started : os.Started) (H : Type) (enc : TypeId × Value → H) :
    ReturnsInHanded {} Try.checked os 7 .any (Rows.fnExactDangersAtSpec.pre6 enc Try.prog Try.f7 Rows.fnExactDangersAtRow.domain false) (Rows.fnExactDangersAtSpec.post enc Try.prog Try.f7 false true false false) := by
  refine returnsInHanded_of_change (C := Try.checked) own started (by kernel_rfl) Try.func7
    (ChangeSpec.witness6 (enc := enc) (C := Try.checked) false ⟨#[], #[.slice none 0 0, .agg #[.int .i64 0, .int .i64 0]], []⟩ 8 (by kernel_rfl) (by kernel_rfl) (by kernel_rfl) (by kernel_rfl)) ?_
  intro W base args ds gs before hval0 hW hcnd _
  have hval : ∀ (j : Nat) t v, Try.f7.params[j]? = some t → args[j]? = some v → Value.okWide Try.prog W .any base t v := hval0
  have hW' := hW
  obtain ⟨p, q, hA0, hV, rfl, hfz, hnd⟩ := hW
  have hA : DataW.TrodAll enc Try.prog W 0 (fun _ => true) true Try.f7.params.toList args.toList ds p := hA0
  rw [Try.params7] at hA hval
  obtain ⟨v0, vs0, d0, ds0, p0, q0, hargs, rfl, rfl, h0, r0⟩ := trodAll_cons hA
  obtain ⟨v1, vs1, d1, ds1, p1, q1, rfl, rfl, rfl, h1, r1⟩ := trodAll_cons r0
  obtain ⟨rfl, rfl, rfl⟩ := trodAll_nil r1
  obtain rfl : args = #[v0, v1] := by cases args; simp_all
  have g0 := h0
  have g1 := h1
  obtain ⟨rfl, rfl⟩ := trodVars_none hV
  clear hA0 hval0
  simp only [List.append_nil] at hW'
  have hlt : ∀ x ∈ p0 ++ (p1), x.block < W.heap.size := fun x hx => by simpa using hW'.lt x (by simpa using hx)
  obtain ⟨fu0, hf0⟩ := h0
  obtain ⟨A0, c0, L0, hv0, s0, b0, m0⟩ := open_flat RDanger.cells RDanger.ok RDanger.len (by decide) Try.underlying37 (by kernel_rfl) (fun _ _ _ h => trod_Danger h) hf0
  obtain ⟨va0, vl0, vc0, rfl⟩ := Go.WideShapes.okWide_slice Try.underlying37 (hval 0 37 _ rfl rfl)
  obtain ⟨rfl, rfl, rfl⟩ : A0 = va0 ∧ L0.length = vl0 ∧ c0 = vc0 := by have := hv0; simp [Value.cells] at this; exact ⟨this.1.symm, this.2.1.symm, this.2.2.symm⟩
  obtain ⟨cs1, rfl, k1_0⟩ := open_struct Try.underlying38 (ts := [2, 2]) (by kernel_rfl) (hval 1 38 _ rfl rfl)
  obtain ⟨c1_0, cs1_0, rfl, q1_0, k1_1⟩ := okCells_cons k1_0
  obtain ⟨c1_1, cs1_1, rfl, q1_1, k1_2⟩ := okCells_cons k1_1
  obtain rfl := okCells_nil k1_2
  obtain ⟨a1_0, rfl, wa1_0⟩ := cell_int Try.underlying2 q1_0
  obtain ⟨a1_1, rfl, wa1_1⟩ := cell_int Try.underlying2 q1_1
  refine (walk W A0 c0 L0 s0 b0 m0 a1_0 wa1_0 a1_1 wa1_1).mono fun e W' ⟨he, hg⟩ => ?_
  subst he
  exact ⟨_, rfl, post_below (pa := _) hW' (trodAll_cons_mk (shut_bool Try.underlying4 _) trodAll_mk0) (trodAll_cons_mk (Below.trod laidOut (by kernel_rfl) (of_decide_eq_true (by kernel_rfl)) g0 hg (fun x hx => hlt x (by simp [hx]))) (trodAll_cons_mk (Below.trod laidOut (by kernel_rfl) (of_decide_eq_true (by kernel_rfl)) g1 hg (fun x hx => hlt x (by simp [hx]))) trodAll_mk0)) rfl (by simp) hg⟩

theorem over : Rows.fnExactDangersAtRow.holds Try.pinned (OpenSpec.ofChange Rows.fnExactDangersAtSpec) :=
  OpenClaim.holds_of_wide 7 Try.f7 rfl rfl rfl rfl rfl rfl rfl ⟨rfl, rfl, rfl, rfl, rfl⟩ rfl rfl rfl rfl rfl (by kernel_rfl) Try.func7 (by kernel_rfl)
    (of_decide_eq_true (by kernel_rfl)) (by unfold Func.isWrapper; first | (rw [if_pos (by decide +kernel)]; kernel_rfl) | (rw [if_neg (by decide +kernel)]; exact ⟨rfl, rfl⟩))
    (fun os started H enc _ => lifted os started H enc)

theorem proved : Rows.FnExactDangersAtSaid := over
#print axioms proved
end fnExactDangersAt

end Go.Proofs.Ytnikdafbnkedkaa
