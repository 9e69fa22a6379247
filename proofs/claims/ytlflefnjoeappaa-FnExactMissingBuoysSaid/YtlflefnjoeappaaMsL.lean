/-
  MissingBuoys: the program's function returns what the reference's returns, for all arguments, in a row of its own. Under no condition.
-/
import Derived.Test.YtlflefnjoeappaaWrS
import Derived.Test.YtlflefnjoeappaaWrT
import Derived.Test.YtlflefnjoeappaaMissI
import Derived.Deep.RegionHeld3
set_option linter.unusedVariables false
set_option linter.unnecessarySimpa false
set_option maxRecDepth 100000
set_option linter.unusedSimpArgs false
namespace Go.Proofs.Ytlflefnjoeappaa
open Go.RowKit BigFrame
theorem own : ownKnob Try.prog.godebug = none := by kernel_rfl
theorem laidOut : laidOutB Try.prog = true := by kernel_rfl
section
open Go.ChangeShapes Go.WideShapes Go.ChangeAt Go.Deep
theorem open_Channel {H : Type} {enc : TypeId × Value → H} {w : World} {spare : Nat → Bool} {held : Bool} {m : Nat} {c : List Value} {y : DataW H × List MemPlace} (h : DataW.trod enc Try.prog w 0 spare held m 70 c = some y) : ∃ (s : ByteArray) (A : Option Addr) (cc : Nat) (L : List RPoint) (wd : Int), c = [.string s, .slice A L.length cc, .int .i64 wd] ∧ s.size ≤ maxLen ∧ Sl w w.heap.size A (flat RPoint.cells L) ∧ (∀ z ∈ L, z.ok) ∧ L.length ≤ maxLen ∧ IntKind.i64.has wd := by
  have hc : c.length = 3 := by
    obtain ⟨_, _, _, _, hl, _⟩ := DataW.trod_struct Try.underlying70 h
    exact hl.trans (by kernel_rfl)
  obtain ⟨c0, c1, c2, rfl⟩ : ∃ c0 c1 c2, c = [c0, c1, c2] := by
    match c, hc with
    | [c0, c1, c2], _ => exact ⟨c0, c1, c2, rfl⟩
  obtain ⟨xs, n, _, _, _, hl, hf⟩ := DataW.trod_struct Try.underlying70 h
  have g0 := (hf 0 _ rfl).trans (List.getElem?_eq_getElem (by rw [hl]; decide))
  have g1 := (hf 1 _ rfl).trans (List.getElem?_eq_getElem (by rw [hl]; decide))
  have g2 := (hf 2 _ rfl).trans (List.getElem?_eq_getElem (by rw [hl]; decide))
  obtain ⟨z0, e0, _, q0⟩ := DataW.trod_string Try.underlying9 (show DataW.trod enc Try.prog w 0 spare held n 9 [c0] = _ from g0)
  obtain ⟨A, cc, L, hv, s1, b1, m1⟩ := open_flat RPoint.cells RPoint.ok RPoint.len (by decide) Try.underlying68 (by kernel_rfl) (fun _ _ _ h => trod_Point h) (show DataW.trod enc Try.prog w 0 spare held n 68 [c1] = _ from g1)
  obtain ⟨z2, e2, _, q2⟩ := DataW.trod_int Try.underlying2 (show DataW.trod enc Try.prog w 0 spare held n 2 [c2] = _ from g2)
  obtain rfl : c0 = _ := by simpa using e0
  obtain rfl : c1 = _ := by simpa using hv
  obtain rfl : c2 = _ := by simpa using e2
  exact ⟨z0, A, cc, L, z2, rfl, q0, s1, b1, m1, by simpa [Lit.wf, IntKind.has] using q2⟩
end
/-- Two rows of buoys that calls have made. -/
theorem eqBuoyW (K : List RBuoy) (v v2 : Value) (B B2 e e2 : Nat) (w : World) (h : Rs w B e 3 v K.length (flat RBuoy.cells K)) (h2 : Rs w B2 e2 3 v2 K.length (flat RBuoy.cells K)) (hl : K.length ≤ 1048576) : Calls Try.prog 46 #[v, v2] w fun e w' => e = .returned (.bool true) ∧ Below w.heap.size w w' := by
  obtain ⟨A, c, rfl, hs⟩ := h.sl
  obtain ⟨A2, c2, rfl, hs2⟩ := h2.sl
  exact eqBuoyS_same K A A2 c c2 w.heap.size w hs hs2 (Nat.le_refl _) hl
namespace fnExactMissingBuoys
open Go.ChangeShapes Go.WideShapes Go.ChangeAt Go.RowKit
set_option linter.unusedVariables false
set_option maxHeartbeats 6400000 in
theorem walk (W : World) (n0 : ByteArray) (wn0 : n0.size ≤ maxLen) (A0 : Option Addr) (c0 : Nat) (L0 : List RPoint) (s0 : Sl W W.heap.size A0 (flat RPoint.cells L0)) (b0 : ∀ z ∈ L0, z.ok) (m0 : L0.length ≤ maxLen) (x0 : Int) (wx0 : IntKind.i64.has x0) (a1 : Int) (wa1 : IntKind.i64.has a1) (A2 : Option Addr) (c2 : Nat) (L2 : List RBuoy) (s2 : Sl W W.heap.size A2 (flat RBuoy.cells L2)) (b2 : ∀ z ∈ L2, z.ok) (m2 : L2.length ≤ maxLen) (a3 : Int) (wa3 : IntKind.i64.has a3) :
    Calls Try.prog 8 #[.agg #[.string n0, .slice A0 L0.length c0, .int .i64 x0], .int .i64 a1, .slice A2 L2.length c2, .int .i64 a3] W fun e w' => e = .returned (.bool true) ∧ Below W.heap.size W w' := by
  have s0' := Lib.hid s0
  have s2' := Lib.hid s2
  clear s0 s2 b0 b2
  have hZ := Cz.new W n0 A0 L0.length c0 x0 70
  obtain ⟨l1, e1⟩ : ∃ l, szC 1048576 n0.size L0.length = l := ⟨_, rfl⟩
  go_enter Try.func8, Try.ntmps8
  go_wp2_with fail
  refine (szChan_any n0 wn0 L0.length A0 c0 x0 1048576 (by omega) (by omega) m0 _).mono ?_
  rintro e wa ⟨rfl, hba⟩
  have hBc := bnext (show Below W.heap.size W _ by go_grown) hba
  replace hZ := hZ.on hba
  clear hba
  rw [e1]
  by_cases h1 : l1 < 0
  · clear e1
    go_wp2_with fail
    go_ret
    exact ⟨rfl, hBc⟩
  obtain ⟨g1, g2⟩ := szC_ge (by rw [e1]; exact h1)
  rw [e1] at g2
  have q0 : L0.length ≤ 1048576 := by omega
  have q2 : n0.size ≤ 1048576 := by omega
  obtain ⟨l2, e2⟩ : ∃ l, szN l1 L2.length = l := ⟨_, rfl⟩
  have hsz := fun w => szBuoyS_any L2.length A2 c2 l1 (by omega) (by omega) m2 w
  rw [e2] at hsz
  have q1 : l2 < 0 ∨ L2.length ≤ 1048576 := by
    unfold szN at e2
    split at e2 <;> omega
  have h1' := Lib.hid h1
  clear e1 g1 g2 e2 h1
  go_wp2_with fail
  · have := h1'.out; omega
  refine (hsz _).mono ?_
  rintro e w' ⟨rfl, rfl⟩
  clear hsz
  by_cases h2 : l2 < 0
  · go_wp2_with fail
    go_ret
    exact ⟨rfl, hBc⟩
  replace q1 : L2.length ≤ 1048576 := by omega
  have hsp : ∀ (A : Option Addr) (c : Nat) (A2 : Option Addr) (c2 B : Nat) (w : World), Sl w B A (flat RPoint.cells L0) → Sl w B A2 (flat RBuoy.cells L2) → B ≤ w.heap.size → Calls Try.prog 51 #[.agg #[.string n0, .slice A L0.length c, .int .i64 x0], .int .i64 a1, .slice A2 L2.length c2, .int .i64 a3] w (BuPost (msC n0 L0 x0 a1 L2 a3) (msL n0 L0 x0 a1 L2 a3) w) := fun A c A2 c2 B w h h2 hB => spec_Missing n0 wn0 L0 A c B x0 a1 L2 A2 c2 a3 w h h2 hB q0 q1
  have him : ∀ (A : Option Addr) (c : Nat) (A2 : Option Addr) (c2 B : Nat) (w : World), Sl w B A (flat RPoint.cells L0) → Sl w B A2 (flat RBuoy.cells L2) → B ≤ w.heap.size → Calls Try.prog 35 #[.agg #[.string n0, .slice A L0.length c, .int .i64 x0], .int .i64 a1, .slice A2 L2.length c2, .int .i64 a3] w (BuPost (msC n0 L0 x0 a1 L2 a3) (msL n0 L0 x0 a1 L2 a3) w) := fun A c A2 c2 B w h h2 hB => impl_Missing n0 wn0 L0 A c B x0 a1 L2 A2 c2 a3 w h h2 hB q0 q1
  have hK : (msL n0 L0 x0 a1 L2 a3).length ≤ 1048576 := Nat.le_trans (msL_le _ _ _ _ _ _) (by omega)
  generalize msC n0 L0 x0 a1 L2 a3 = C at hsp him
  generalize msL n0 L0 x0 a1 L2 a3 = K at hsp him hK
  have hsp' := Lib.hid hsp
  have him' := Lib.hid him
  have hcc : (C != C) = false := by simp
  clear hsp him m2 wx0
  obtain ⟨hzl, z0, z1, z2⟩ := id hZ
  go_wp2_with fail
  clear hzl z0 z1 z2
  all_goals try (exfalso; omega)
  clear h2 h1'
  have hwa := hZ.1
  refine (to_Chan n0 L0 A0 c0 W.heap.size x0 _ (s0'.out.below hBc) hBc.size q0).mono ?_
  rintro e w1 ⟨v1, rfl, hb1, R1⟩
  have hs1 := hb1.size
  replace hBc := bnext hBc hb1
  replace hZ := hZ.on hb1
  obtain ⟨P1, d1, rfl, _⟩ := R1.sl
  obtain ⟨hzl, z0, z1, z2⟩ := id hZ
  go_wp2_with fail
  clear hzl z0 z1 z2
  refine (toBuoyS_own L2 A2 c2 W.heap.size _ (s2'.out.below hBc) hBc.size q1).mono ?_
  rintro e w2 ⟨rfl, hb2, r2⟩
  have hl2 := r2.lt
  have hs2 := hb2.size
  replace hBc := bnext hBc hb2
  replace hZ := hZ.on hb2
  replace R1 := R1.on hb2
  obtain ⟨hzl, z0, z1, z2⟩ := id hZ
  go_wp2_with fail
  clear hzl z0 z1 z2
  refine (hsp'.out P1 d1 (some ⟨w1.heap.size, 0, none⟩) L2.length w2.heap.size w2 (rs_row R1) r2.sl' (Nat.le_refl _)).mono ?_
  rintro e w3 ⟨vS, rfl, hb3, hS⟩
  have hbS := hS.block
  have hs3 := hb3.size
  replace hBc := bnext hBc hb3
  replace hZ := hZ.on hb3
  clear R1 r2
  obtain ⟨hzl, z0, z1, z2⟩ := id hZ
  go_wp2_with fail
  clear hzl z0 z1 z2
  refine (to_Chan n0 L0 A0 c0 W.heap.size x0 _ (s0'.out.below hBc) hBc.size q0).mono ?_
  rintro e w4 ⟨v4, rfl, hb4, R4⟩
  have hs4 := hb4.size
  replace hBc := bnext hBc hb4
  replace hZ := hZ.on hb4
  obtain ⟨P4, d4, rfl, _⟩ := R4.sl
  have hbR := R4.block
  replace hS := hS.on hb4
  obtain ⟨hzl, z0, z1, z2⟩ := id hZ
  go_wp2_with fail
  clear hzl z0 z1 z2
  have hZ4 := Cz.new w4 n0 P4 L0.length d4 x0 49
  have hal : Below w4.heap.size w4 (w4.alloc (.cells #[.string n0, .slice P4 L0.length d4, .int .i64 x0] 49)) := by go_grown
  replace hBc := bnext hBc hal
  replace hZ := hZ.on hal
  replace hS := hS.on hal
  replace R4 := R4.on hal
  refine (toBuoyS_own L2 A2 c2 W.heap.size _ (s2'.out.below hBc) hBc.size q1).mono ?_
  rintro e w5 ⟨rfl, hb5, r5⟩
  have hl5 := r5.lt
  have hs5 := hb5.size
  replace hBc := bnext hBc hb5
  replace hZ := hZ.on hb5
  simp only [World.size_alloc] at r5 hl5 hs5
  replace hS := hS.on hb5
  replace R4 := R4.on hb5
  replace hZ4 := hZ4.on hb5
  clear hal
  obtain ⟨hyl, y0, y1, y2⟩ := id hZ4
  go_wp2_with fail
  clear hyl y0 y1 y2
  refine (him'.out P4 d4 (some ⟨w4.heap.size + 1, 0, none⟩) L2.length w5.heap.size w5 (rs_row R4) r5.sl' (Nat.le_refl _)).mono ?_
  rintro e w6 ⟨vG, rfl, hb6, hG⟩
  have hbG := hG.block
  have hs6 := hb6.size
  replace hBc := bnext hBc hb6
  replace hZ := hZ.on hb6
  replace hS := hS.on hb6
  replace R4 := R4.on hb6
  replace hZ4 := hZ4.on hb6
  replace r5 := r5.on hb6
  go_wp2_with fail
  refine (eqBuoyW K _ _ _ _ _ _ _ hG hS hK).mono ?_
  rintro e w7 ⟨rfl, hb7⟩
  have hs7 := hb7.size
  replace hBc := bnext hBc hb7
  replace hZ := hZ.on hb7
  replace hS := hS.on hb7
  replace hG := hG.on hb7
  replace R4 := R4.on hb7
  replace hZ4 := hZ4.on hb7
  replace r5 := r5.on hb7
  go_wp2_with fail
  have ck : ∀ w', Below w7.heap.size w7 w' → (w'.cell? ⟨W.heap.size, 0, none⟩ = some (.string n0) ∧ w'.cell? ⟨W.heap.size, 1, none⟩ = some (.slice A0 L0.length c0) ∧ w'.cell? ⟨W.heap.size, 2, none⟩ = some (.int .i64 x0)) ∧ w'.cell? ⟨w4.heap.size, 0, none⟩ = some (.string n0) ∧ w'.cell? ⟨w4.heap.size, 1, none⟩ = some (.slice P4 L0.length d4) ∧ w'.cell? ⟨w4.heap.size, 2, none⟩ = some (.int .i64 x0) := fun w' h => ⟨(hZ.on h).2, (hZ4.on h).2⟩
  clear hcc
  go_upto_region 14 with fail
  go_cut [66] (fun v wx => v = .bool false ∧ ∃ wz, wz = wx ∧ Below w7.heap.size w7 wz)
  case first =>
    go_region_held3 (fun w' => (w'.cell? ⟨W.heap.size, 0, none⟩ = some (.string n0) ∧ w'.cell? ⟨W.heap.size, 1, none⟩ = some (.slice A0 L0.length c0) ∧ w'.cell? ⟨W.heap.size, 2, none⟩ = some (.int .i64 x0)) ∧ w'.cell? ⟨w4.heap.size, 0, none⟩ = some (.string n0) ∧ w'.cell? ⟨w4.heap.size, 1, none⟩ = some (.slice P4 L0.length d4) ∧ w'.cell? ⟨w4.heap.size, 2, none⟩ = some (.int .i64 x0)) (first | (with_reducible assumption) | (with_reducible refine ck _ ?_; go_grown; done)) (first | (go_at_call 42; refine (to_Chan n0 L0 A0 c0 W.heap.size x0 _ (s0'.out.below (bnext hBc (by go_grown))) (bnext hBc (by go_grown)).size q0).mono ?_; rintro e w8 ⟨v8, rfl, hb8, R8⟩; (obtain ⟨P8, d8, rfl, _⟩ := R8.sl); have hb80 := bnext (show Below w7.heap.size w7 _ by go_grown) hb8; have hk8 := ck _ hb80) | (go_at_call 45; refine (eqChanW n0 L0 P4 P8 d4 d8 _ _ _ _ x0 _ (R4.on (by go_grown)) (R8.on (by go_grown)) q0).mono ?_; rintro e w9 ⟨rfl, hb9⟩; have hb90 := bnext hb80 (bnext (show Below w8.heap.size w8 _ by go_grown) hb9); have hk9 := ck _ hb90))
    all_goals go_wp2_with fail
    all_goals go_meet
    all_goals exact ⟨rfl, _, rfl, by go_grown⟩
  case rest =>
    obtain ⟨rfl, wz, rfl, hbz⟩ := hcut
    clear ck
    have hcc : (C != C) = false := by simp
    replace hBc := bnext hBc hbz
    have hsz := hbz.size
    replace hZ := hZ.on hbz
    replace hS := hS.on hbz
    replace hG := hG.on hbz
    replace R4 := R4.on hbz
    replace hZ4 := hZ4.on hbz
    replace r5 := r5.on hbz
    go_wp2_with fail
    refine (toBuoyS_own L2 A2 c2 W.heap.size _ (s2'.out.below hBc) hBc.size q1).mono ?_
    rintro e w10 ⟨rfl, hb10, r10⟩
    have hl10 := r10.lt
    have hs10 := hb10.size
    replace hBc := bnext hBc hb10
    replace hZ := hZ.on hb10
    replace hS := hS.on hb10
    replace hG := hG.on hb10
    replace R4 := R4.on hb10
    replace hZ4 := hZ4.on hb10
    replace r5 := r5.on hb10
    go_wp2_with fail
    refine (eqBuoyS_same L2 _ _ _ _ w10.heap.size _ r5.sl' r10.sl' (Nat.le_refl _) q1).mono ?_
    rintro e w11 ⟨rfl, hb11⟩
    have hs11 := hb11.size
    replace hBc := bnext hBc hb11
    replace hZ := hZ.on hb11
    replace hS := hS.on hb11
    replace hG := hG.on hb11
    replace R4 := R4.on hb11
    replace hZ4 := hZ4.on hb11
    replace r5 := r5.on hb11
    clear r10
    obtain ⟨hyl, y0, y1, y2⟩ := id hZ4
    go_wp2_with fail
    clear hyl y0 y1 y2
    refine (markChanW n0 _ _ P4 d4 L0.length x0 _ 1 _ R4 q0 (by omega) (by omega)).mono ?_
    rintro e w12 ⟨rfl, hg12, hR12⟩
    have hs12 := hg12.size
    replace hBc := hBc.grown hg12 hBc.size (fun k e => by have := (hbR _ e).1; omega)
    replace hZ := cz_far hZ hg12 (fun e => by have := (hbR _ e).1; omega)
    replace hZ4 := cz_far hZ4 hg12 (fun e => by have := (hbR _ e).2; omega)
    replace hS := hS.far hg12 (fun k e q => by have := (hbR _ e).1; have := (hbS _ q).2; omega)
    replace hG := hG.far hg12 (fun k e q => by have := (hbR _ e).2; have := (hbG _ q).1; omega)
    have r5' : Rs w12 (w4.heap.size + 1) 66 3 (.slice (some ⟨w4.heap.size + 1, 0, none⟩) L2.length L2.length) L2.length (flat RBuoy.cells L2) := by
      refine Rs.far ⟨by rw [flat_len RBuoy.len], .inr ⟨_, _, _, rfl, Nat.le_refl _, r5⟩⟩ hg12 (fun k e q => ?_)
      have e' : w4.heap.size + 1 = k := Option.some.inj q
      have := (hbR _ e).2
      omega
    clear hR12 r5 hbR hg12 R4
    go_wp2_with fail
    refine (markBuoyS_any (w4.heap.size + 1) 66 _ L2.length (flat RBuoy.cells L2) (1 + L0.length * 2) _ r5' q1 (by omega) (by omega)).mono ?_
    rintro e w13 ⟨rfl, hg13, hR13⟩
    have hs13 := hg13.size
    replace hBc := hBc.grown hg13 hBc.size (fun k e => by have e' : w4.heap.size + 1 = k := Option.some.inj e; omega)
    replace hZ := cz_far hZ hg13 (fun e => by have e' : w4.heap.size + 1 = W.heap.size := Option.some.inj e; omega)
    replace hS := hS.far hg13 (fun k e q => by have e' : w4.heap.size + 1 = k := Option.some.inj e; have := (hbS _ q).2; omega)
    replace hG := hG.far hg13 (fun k e q => by have e' : w4.heap.size + 1 = k := Option.some.inj e; have := (hbG _ q).1; omega)
    clear hR13 r5' hZ4 hg13
    have hk0 : ¬ ((1 + L0.length * 2 : Nat) : Int) + (L2.length : Int) * 3 < 0 := by omega
    go_wp2_with fail
    refine (eqBuoyW K _ _ _ _ _ _ _ hG hS hK).mono ?_
    rintro e w14 ⟨rfl, hb14⟩
    have hs14 := hb14.size
    replace hBc := bnext hBc hb14
    replace hZ := hZ.on hb14
    replace hS := hS.on hb14
    replace hG := hG.on hb14
    go_wp2_with fail
    refine (markBuoyS_any _ _ _ _ _ 1 _ hG hK (by omega) (by omega)).mono ?_
    rintro e w15 ⟨rfl, hg15, hR⟩
    have hs15 := hg15.size
    replace hBc := hBc.grown hg15 hBc.size (fun k e => by have := (hbG _ e).1; omega)
    replace hZ := cz_far hZ hg15 (fun e => by have := (hbG _ e).1; omega)
    replace hS := hS.far hg15 (fun k e q => by have := (hbG _ e).1; have := (hbS _ q).2; omega)
    clear hG hg15
    go_wp2_with fail
    refine (heldBuoyS_any _ _ _ _ 1 _ hR hK (by omega) (by omega)).mono ?_
    rintro e w16 ⟨rfl, hb16⟩
    have hs16 := hb16.size
    replace hBc := bnext hBc hb16
    replace hZ := hZ.on hb16
    replace hS := hS.on hb16
    replace hR := hR.on hb16
    have hq0 : ¬ ((1 : Nat) : Int) + (K.length : Int) * 3 < 0 := by omega
    obtain ⟨hzl, z0, z1, z2⟩ := id hZ
    go_wp2_with fail
    clear hzl z0 z1 z2
    refine (to_Chan n0 L0 A0 c0 W.heap.size x0 _ (s0'.out.below hBc) hBc.size q0).mono ?_
    rintro e w17 ⟨v17, rfl, hb17, R17⟩
    have hs17 := hb17.size
    replace hBc := bnext hBc hb17
    replace hZ := hZ.on hb17
    obtain ⟨P17, d17, rfl, _⟩ := R17.sl
    replace hS := hS.on hb17
    replace hR := hR.on hb17
    go_wp2_with fail
    refine (toBuoyS_own L2 A2 c2 W.heap.size _ (s2'.out.below hBc) hBc.size q1).mono ?_
    rintro e w18 ⟨rfl, hb18, r18⟩
    have hl18 := r18.lt
    have hs18 := hb18.size
    replace hBc := bnext hBc hb18
    replace hZ := hZ.on hb18
    replace hS := hS.on hb18
    replace hR := hR.on hb18
    replace R17 := R17.on hb18
    go_wp2_with fail
    refine (him'.out P17 d17 (some ⟨w17.heap.size, 0, none⟩) L2.length w18.heap.size w18 (rs_row R17) r18.sl' (Nat.le_refl _)).mono ?_
    rintro e w19 ⟨vH, rfl, hb19, hH⟩
    have hs19 := hb19.size
    replace hBc := bnext hBc hb19
    replace hZ := hZ.on hb19
    replace hS := hS.on hb19
    replace hR := hR.on hb19
    clear R17 r18
    go_wp2_with fail
    refine (eqBuoyW K _ _ _ _ _ _ _ hH hS hK).mono ?_
    rintro e w20 ⟨rfl, hb20⟩
    have hs20 := hb20.size
    replace hBc := bnext hBc hb20
    replace hZ := hZ.on hb20
    replace hR := hR.on hb20
    clear hH hS
    go_wp2_with fail
    refine (heldBuoyS_any _ _ _ _ 1 _ hR hK (by omega) (by omega)).mono ?_
    rintro e w21 ⟨rfl, hb21⟩
    have hs21 := hb21.size
    replace hBc := bnext hBc hb21
    replace hZ := hZ.on hb21
    go_wp2
    go_ret
    exact ⟨rfl, hBc⟩

theorem lifted (os : Os) (started : os.Started) (H : Type) (enc : TypeId × Value → H) :
    ReturnsInHanded {} Try.checked os 8 .any (Rows.fnExactMissingBuoysSpec.pre6 enc Try.prog Try.f8 Rows.fnExactMissingBuoysRow.domain false) (Rows.fnExactMissingBuoysSpec.post enc Try.prog Try.f8 false true false false) := by
  refine returnsInHanded_of_change (C := Try.checked) own started (by kernel_rfl) Try.func8
    (ChangeSpec.witness6 (enc := enc) (C := Try.checked) false ⟨#[], #[.agg #[.string ⟨#[]⟩, .slice none 0 0, .int .i64 0], .int .i64 0, .slice none 0 0, .int .i64 0], []⟩ 8 (by kernel_rfl) (by kernel_rfl) (by kernel_rfl) (by kernel_rfl)) ?_
  intro W base args ds gs before hval0 hW hcnd _
  have hval : ∀ (j : Nat) t v, Try.f8.params[j]? = some t → args[j]? = some v → Value.okWide Try.prog W .any base t v := hval0
  have hW' := hW
  obtain ⟨p, q, hA0, hV, rfl, hfz, hnd⟩ := hW
  have hA : DataW.TrodAll enc Try.prog W 0 (fun _ => true) true Try.f8.params.toList args.toList ds p := hA0
  rw [Try.params8] at hA hval
  obtain ⟨v0, vs0, d0, ds0, p0, q0, hargs, rfl, rfl, h0, r0⟩ := trodAll_cons hA
  obtain ⟨v1, vs1, d1, ds1, p1, q1, rfl, rfl, rfl, h1, r1⟩ := trodAll_cons r0
  obtain ⟨v2, vs2, d2, ds2, p2, q2, rfl, rfl, rfl, h2, r2⟩ := trodAll_cons r1
  obtain ⟨v3, vs3, d3, ds3, p3, q3, rfl, rfl, rfl, h3, r3⟩ := trodAll_cons r2
  obtain ⟨rfl, rfl, rfl⟩ := trodAll_nil r3
  obtain rfl : args = #[v0, v1, v2, v3] := by cases args; simp_all
  have g0 := h0
  have g1 := h1
  have g2 := h2
  have g3 := h3
  obtain ⟨rfl, rfl⟩ := trodVars_none hV
  clear hA0 hval0
  simp only [List.append_nil] at hW'
  have hlt : ∀ x ∈ p0 ++ (p1 ++ (p2 ++ (p3))), x.block < W.heap.size := fun x hx => by simpa using hW'.lt x (by simpa using hx)
  obtain ⟨fu0, hf0⟩ := h0
  obtain ⟨cs0, rfl, k0_0⟩ := open_struct Try.underlying70 (ts := [9, 68, 2]) (by kernel_rfl) (hval 0 70 _ rfl rfl)
  obtain ⟨n0, A0, c0, L0, x0, hv0, wn0, s0, b0, m0, wx0⟩ := open_Channel hf0
  obtain rfl : cs0 = [.string n0, .slice A0 L0.length c0, .int .i64 x0] := by simpa [Value.cells] using hv0
  obtain ⟨a1, rfl, wa1⟩ := value_int Try.underlying2 (hval 1 2 _ rfl rfl)
  obtain ⟨fu2, hf2⟩ := h2
  obtain ⟨A2, c2, L2, hv2, s2, b2, m2⟩ := open_flat RBuoy.cells RBuoy.ok RBuoy.len (by decide) Try.underlying71 (by kernel_rfl) (fun _ _ _ h => trod_Buoy h) hf2
  obtain ⟨va2, vl2, vc2, rfl⟩ := Go.WideShapes.okWide_slice Try.underlying71 (hval 2 71 _ rfl rfl)
  obtain ⟨rfl, rfl, rfl⟩ : A2 = va2 ∧ L2.length = vl2 ∧ c2 = vc2 := by have := hv2; simp [Value.cells] at this; exact ⟨this.1.symm, this.2.1.symm, this.2.2.symm⟩
  obtain ⟨a3, rfl, wa3⟩ := value_int Try.underlying2 (hval 3 2 _ rfl rfl)
  refine (walk W n0 wn0 A0 c0 L0 s0 b0 m0 x0 wx0 a1 wa1 A2 c2 L2 s2 b2 m2 a3 wa3).mono fun e W' ⟨he, hg⟩ => ?_
  subst he
  exact ⟨_, rfl, post_below (pa := _) hW' (trodAll_cons_mk (shut_bool Try.underlying4 _) trodAll_mk0) (trodAll_cons_mk (Below.trod laidOut (by kernel_rfl) (of_decide_eq_true (by kernel_rfl)) g0 hg (fun x hx => hlt x (by simp [hx]))) (trodAll_cons_mk (Below.trod laidOut (by kernel_rfl) (of_decide_eq_true (by kernel_rfl)) g1 hg (fun x hx => hlt x (by simp [hx]))) (trodAll_cons_mk (Below.trod laidOut (by kernel_rfl) (of_decide_eq_true (by kernel_rfl)) g2 hg (fun x hx => hlt x (by simp [hx]))) (trodAll_cons_mk (Below.trod laidOut (by kernel_rfl) (of_decide_eq_true (by kernel_rfl)) g3 hg (fun x hx => hlt x (by simp [hx]))) trodAll_mk0)))) rfl (by simp) hg⟩

theorem over : Rows.fnExactMissingBuoysRow.holds Try.pinned (OpenSpec.ofChange Rows.fnExactMissingBuoysSpec) :=
  OpenClaim.holds_of_wide 8 Try.f8 rfl rfl rfl rfl rfl rfl rfl ⟨rfl, rfl, rfl, rfl, rfl⟩ rfl rfl rfl rfl rfl (by kernel_rfl) Try.func8 (by kernel_rfl)
    (of_decide_eq_true (by kernel_rfl)) (by unfold Func.isWrapper; first | (rw [if_pos (by decide +kernel)]; kernel_rfl) | (rw [if_neg (by decide +kernel)]; exact ⟨rfl, rfl⟩))
    (fun os started H enc _ => lifted os started H enc)

theorem proved : Rows.FnExactMissingBuoysSaid := over
#print axioms proved
end fnExactMissingBuoys

end Go.Proofs.Ytlflefnjoeappaa
