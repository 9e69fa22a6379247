/-
  AddDanger: the program's function returns what the reference's returns, for all arguments, in a row of its own. Under no condition.
-/
import Derived.Test.YtlolkngklfabfaaAdd
import Derived.Test.YtlolkngklfabfaaDMark
set_option linter.unusedVariables false
set_option linter.unnecessarySimpa false
set_option maxRecDepth 100000
set_option linter.unusedSimpArgs false
namespace Go.Proofs.Ytlolkngklfabfaa
open Go.RowKit BigFrame
theorem own : ownKnob Try.prog.godebug = none := by kernel_rfl
theorem laidOut : laidOutB Try.prog = true := by kernel_rfl

/-- Two rows of dangers that calls have made. -/
theorem eqDangerS_rs (L : List RDanger) (v v2 : Value) (B B2 e e2 : Nat) (w : World) (h : Rs w B e 4 v L.length (flat RDanger.cells L)) (h2 : Rs w B2 e2 4 v2 L.length (flat RDanger.cells L)) (hl : L.length ≤ 1048576) : Calls Try.prog 24 #[v, v2] w fun e w' => e = .returned (.bool true) ∧ Below w.heap.size w w' := by
  obtain ⟨A, c, rfl, hs⟩ := h.sl
  obtain ⟨A2, c2, rfl, hs2⟩ := h2.sl
  exact eqDangerS_same L A A2 c c2 w.heap.size w hs hs2 (Nat.le_refl _) hl
namespace fnExactAddDanger
open Go.ChangeShapes Go.WideShapes Go.ChangeAt Go.RowKit
set_option linter.unusedVariables false
set_option maxHeartbeats 3200000 in
theorem walk (W : World) (A0 : Option Addr) (c0 : Nat) (L0 : List RDanger) (s0 : Sl W W.heap.size A0 (flat RDanger.cells L0)) (b0 : ∀ z ∈ L0, z.ok) (m0 : L0.length ≤ maxLen) (a1_0 : ByteArray) (wa1_0 : a1_0.size ≤ maxLen) (a1_1 : Int) (wa1_1 : IntKind.i64.has a1_1) (a1_2 : Int) (wa1_2 : IntKind.i64.has a1_2) (a1_3 : Int) (wa1_3 : IntKind.i64.has a1_3) :
    Calls Try.prog 4 #[.slice A0 L0.length c0, .agg #[.string a1_0, .int .i64 a1_1, .int .i64 a1_2, .int .i64 a1_3]] W fun e w' => e = .returned (.bool true) ∧ Below W.heap.size W w' := by
  have s0' := Lib.hid s0
  have o0 := Lib.hid b0
  clear s0 b0
  have hB00 : Below W.heap.size W (W.alloc (.cells #[.string a1_0, .int .i64 a1_1, .int .i64 a1_2, .int .i64 a1_3] 35)) := by go_grown
  have hDz0 : Dz (W.alloc (.cells #[.string a1_0, .int .i64 a1_1, .int .i64 a1_2, .int .i64 a1_3] 35)) W.heap.size (⟨a1_0, a1_1, a1_2, a1_3⟩ : RDanger) := ⟨by simp, by simp, by simp, by simp, by simp⟩
  have hDh := Lib.hid hDz0
  clear hDz0
  obtain ⟨l1, e1⟩ : ∃ l, szS RDanger.szN 1048576 L0 = l := ⟨_, rfl⟩
  go_enter Try.func4, Try.ntmps4
  go_wp2_with fail
  refine (szDangerS_rec L0 _ _ W.heap.size 1048576 _ (s0'.out.below hB00) hB00.size o0.out m0 (by omega) (by omega)).mono ?_
  rintro e wa ⟨rfl, hba⟩
  have hBc := bnext hB00 hba
  have hD := hDh.out.on hba
  obtain ⟨hgd, z0, z1, z2, z3⟩ := id hD
  clear hB00 hba hDh
  rw [e1]
  by_cases h1 : l1 < 0
  · clear e1
    go_wp2_with fail
    go_ret
    exact ⟨rfl, hBc⟩
  obtain ⟨g1, g2⟩ := szS_ge (by rw [e1]; exact h1)
  rw [e1] at g2
  have n0 : L0.length ≤ 1048576 := by omega
  clear e1 g1
  go_wp2_with fail
  refine (szDanger_rec (⟨a1_0, a1_1, a1_2, a1_3⟩ : RDanger) ⟨wa1_0, wa1_1, wa1_2, wa1_3⟩ l1 (by omega) (by omega) _).mono ?_
  rintro e wb ⟨rfl, hbb⟩
  replace hBc := bnext hBc hbb
  replace hD := hD.on hbb
  obtain ⟨l2, e2⟩ : ∃ l, szR l1 (RDanger.szN (⟨a1_0, a1_1, a1_2, a1_3⟩ : RDanger)) = l := ⟨_, rfl⟩
  rw [e2]
  clear hbb z0 z1 z2 z3 hgd
  by_cases h2 : l2 < 0
  · clear e2
    go_wp2_with fail
    go_ret
    exact ⟨rfl, hBc⟩
  clear e2 g2
  have hnl : (addL L0 (⟨a1_0, a1_1, a1_2, a1_3⟩ : RDanger)).length ≤ 1048576 := Nat.le_trans (addL_max _ _) (by omega)
  have hsp : ∀ (g B : Nat) (w : World), Sl w B (some ⟨g, 0, none⟩) (flat RDanger.cells L0) → g < B → B ≤ w.heap.size → Calls Try.prog 20 #[.slice (some ⟨g, 0, none⟩) L0.length L0.length, .agg #[.string a1_0, .int .i64 a1_1, .int .i64 a1_2, .int .i64 a1_3]] w (AddPost L0 (⟨a1_0, a1_1, a1_2, a1_3⟩ : RDanger) w) := fun g B w h hg hB => spec_Add L0 g B (⟨a1_0, a1_1, a1_2, a1_3⟩ : RDanger) w h hg hB o0.out n0 wa1_0
  have him : ∀ (g B : Nat) (w : World), Sl w B (some ⟨g, 0, none⟩) (flat RDanger.cells L0) → g < B → B ≤ w.heap.size → Calls Try.prog 23 #[.slice (some ⟨g, 0, none⟩) L0.length L0.length, .agg #[.string a1_0, .int .i64 a1_1, .int .i64 a1_2, .int .i64 a1_3]] w (AddPost L0 (⟨a1_0, a1_1, a1_2, a1_3⟩ : RDanger) w) := fun g B w h hg hB => impl_Add L0 g B (⟨a1_0, a1_1, a1_2, a1_3⟩ : RDanger) w h hg hB o0.out n0 wa1_0
  unfold AddPost at hsp him
  generalize addL L0 (⟨a1_0, a1_1, a1_2, a1_3⟩ : RDanger) = NM at hsp him hnl
  generalize addC L0 (⟨a1_0, a1_1, a1_2, a1_3⟩ : RDanger) = C at hsp him
  go_upto_region 8 with fail
  go_cut [6, 7] (fun v q wx => ∃ wz, wz = wx ∧ q = .int .i64 C ∧ Below W.heap.size W wz ∧ Rs wz W.heap.size 44 4 v NM.length (flat RDanger.cells NM) ∧ Dz wz W.heap.size (⟨a1_0, a1_1, a1_2, a1_3⟩ : RDanger) ∧ True)
  case first =>
    have hBr := hBc
    have hDr := hD
    have hBd : Below W.heap.size W wb.drew := hBr.trans ⟨rfl, rfl, rfl, Nat.le_refl _, fun _ _ => rfl⟩
    have hDd : Dz wb.drew W.heap.size (⟨a1_0, a1_1, a1_2, a1_3⟩ : RDanger) := hDr.drew
    have hbd : Below wb.heap.size wb wb.drew := ⟨rfl, rfl, rfl, Nat.le_refl _, fun _ _ => rfl⟩
    refine wp_region_held_drew (S := fun w' => Dz w' W.heap.size (⟨a1_0, a1_1, a1_2, a1_3⟩ : RDanger)) (by kernel_rfl) hDd (fun hHeld => ?_)
    refine wpAnyH_take (i := 0) (v := ?_) rfl (by kernel_rfl) (by kernel_rfl) (by kernel_rfl) (fun _ _ _ h => h) (Or.inl ⟨by rfl, ?_⟩) (by assumption) ?_
    rotate_left
    · (intro w9 hS9; obtain ⟨hg9, y0, y1, y2, y3⟩ := hS9; go_simp; try (with_reducible rfl))
    try simp only [Act.put, List.setIfInBounds_toArray, List.set_cons_zero, List.set_cons_succ]
    refine wpAnyH_take (i := 2) (v := ?_) rfl (by kernel_rfl) (by kernel_rfl) (by kernel_rfl) (fun _ _ _ h => h) (Or.inl ⟨by rfl, ?_⟩) (by assumption) ?_
    rotate_left
    · (intro w9 hS9; obtain ⟨hg9, y0, y1, y2, y3⟩ := hS9; go_simp; try (with_reducible rfl))
    try simp only [Act.put, List.setIfInBounds_toArray, List.set_cons_zero, List.set_cons_succ]
    refine wpAnyH_ready (rs := [1]) (by kernel_rfl) (by simp) ?_
    refine AllReadyH.cons rfl (fun K hK => ?_) AllReadyH.nil
    go_simp
    refine (toDangerS_own L0 _ _ W.heap.size _ (s0'.out.below hBd) hBd.size n0).mono ?_
    rintro e wa ⟨rfl, hba, ra⟩
    have hB1 := bnext hBd hba
    have hD1 := hDd.on hba
    go_wp2_with fail
    refine hK.out _ _ hD1 (fun hHeld => ?_)
    clear hK K hHeld
    try simp only [Act.put, List.setIfInBounds_toArray, List.set_cons_zero, List.set_cons_succ]
    refine wpAnyH_ready (rs := [3]) (by kernel_rfl) (by simp) ?_
    refine AllReadyH.cons rfl (fun K hK => ?_) AllReadyH.nil
    go_simp
    refine (toDanger_any _ _ _ _ _).mono ?_
    rintro e wq ⟨rfl, hbb⟩
    have hB2 := bnext hB1 hbb
    have hD2 := hD1.on hbb
    have rb := ra.on hbb
    have hcx : Below wb.heap.size wb wq := bnext (bnext hbd hba) hbb
    go_wp2_with fail
    refine hK.out _ _ hD2 (fun hHeld => ?_)
    clear hK K hHeld
    try simp only [Act.put, List.setIfInBounds_toArray, List.set_cons_zero, List.set_cons_succ]
    refine wpAnyH_ready (rs := [4]) (by kernel_rfl) (by simp) ?_
    refine AllReadyH.cons rfl (fun K hK => ?_) AllReadyH.nil
    go_simp
    refine (hsp _ wq.heap.size _ rb.sl' rb.lt (Nat.le_refl _)).mono ?_
    rintro e wc ⟨v, rfl, hbc, hS⟩
    have hB3 := bnext hB2 hbc
    have hD3 := hD2.on hbc
    have hz3 := hB2.size
    go_wp2_with fail
    refine hK.out _ _ hD3 (fun hHeld => ?_)
    clear hK K hHeld
    try simp only [Act.put, List.setIfInBounds_toArray, List.set_cons_zero, List.set_cons_succ]
    refine wpAnyH_take (i := 5) (oi := ⟨some 26, _, _, _, _, _⟩) (v := ?_) rfl (by kernel_rfl) (by kernel_rfl) (by kernel_rfl) (fun _ _ _ h => h) (Or.inl ⟨by rfl, ?_⟩) (by assumption) ?_
    rotate_left
    · (intro w9 hS9; obtain ⟨hg9, y0, y1, y2, y3⟩ := hS9; go_simp; try (with_reducible rfl))
    try simp only [Act.put, List.setIfInBounds_toArray, List.set_cons_zero, List.set_cons_succ]
    refine wpAnyH_take (i := 6) (oi := ⟨some 32, _, _, _, _, _⟩) (v := ?_) rfl (by kernel_rfl) (by kernel_rfl) (by kernel_rfl) (fun _ _ _ h => h) (Or.inl ⟨by rfl, ?_⟩) (by assumption) ?_
    rotate_left
    · (intro w9 hS9; obtain ⟨hg9, y0, y1, y2, y3⟩ := hS9; go_simp; try (with_reducible rfl))
    try simp only [Act.put, List.setIfInBounds_toArray, List.set_cons_zero, List.set_cons_succ]
    refine wpAnyH_take (i := 7) (oi := ⟨some 33, _, _, _, _, _⟩) (v := ?_) rfl (by kernel_rfl) (by kernel_rfl) (by kernel_rfl) (fun _ _ _ h => h) (Or.inl ⟨by rfl, ?_⟩) (by assumption) ?_
    rotate_left
    · (intro w9 hS9; obtain ⟨hg9, y0, y1, y2, y3⟩ := hS9; go_simp; try (with_reducible rfl))
    try simp only [Act.put, List.setIfInBounds_toArray, List.set_cons_zero, List.set_cons_succ]
    refine wpAnyH_take (i := 8) (oi := ⟨some 6, _, _, _, _, _⟩) (v := ?_) rfl (by kernel_rfl) (by kernel_rfl) (by kernel_rfl) (fun _ _ _ h => h) (Or.inl ⟨by rfl, ?_⟩) (by assumption) ?_
    rotate_left
    · (intro w9 hS9; obtain ⟨hg9, y0, y1, y2, y3⟩ := hS9; go_simp; try (with_reducible rfl))
    try simp only [Act.put, List.setIfInBounds_toArray, List.set_cons_zero, List.set_cons_succ]
    refine wpAnyH_take (i := 9) (oi := ⟨some 7, _, _, _, _, _⟩) (v := ?_) rfl (by kernel_rfl) (by kernel_rfl) (by kernel_rfl) (fun _ _ _ h => h) (Or.inl ⟨by rfl, ?_⟩) (by assumption) ?_
    rotate_left
    · (intro w9 hS9; obtain ⟨hg9, y0, y1, y2, y3⟩ := hS9; go_simp; try (with_reducible rfl))
    try simp only [Act.put, List.setIfInBounds_toArray, List.set_cons_zero, List.set_cons_succ]
    refine wpAnyH_done (by kernel_rfl) ?_ _
    go_wp2_with fail
    go_meet
    exact ⟨_, rfl, by first | rfl | simp [Act.put], hB3, by first | exact hS.more hz3 | simpa [Act.put] using hS.more hz3, hD3, trivial⟩
  case rest =>
    clear hBc hD
    obtain ⟨wx, rfl, rfl, hBc, hS, hD, _⟩ := hcut
    have hbS := hS.block
    have hs3 := hBc.size
    have hDx := hD.1
    go_wp2_with fail
    refine (toDangerS_own L0 _ _ W.heap.size _ (s0'.out.below hBc) hBc.size n0).mono ?_
    rintro e w4 ⟨rfl, hb4, r4⟩
    have hs4 := hb4.size
    have hl4 := r4.lt
    replace hBc := bnext hBc hb4
    have r4 := Lib.hid r4
    replace hS := hS.on hb4
    replace hD := hD.on hb4
    obtain ⟨hgd, z0, z1, z2, z3⟩ := id hD
    go_wp2_with fail
    refine (toDanger_any _ _ _ _ _).mono ?_
    rintro e w5 ⟨rfl, hb5⟩
    have hs5 := hb5.size
    replace hBc := bnext hBc hb5
    replace hS := hS.on hb5
    replace hD := hD.on hb5
    have r4 := Lib.hid (r4.out.on hb5)
    clear hgd z0 z1 z2 z3
    go_wp2_with fail
    refine (him _ w5.heap.size _ r4.out.sl' r4.out.lt (Nat.le_refl _)).mono ?_
    rintro e w6 ⟨vG, rfl, hb6, hG⟩
    have hs6 := hb6.size
    replace hBc := bnext hBc hb6
    have hbG := hG.block
    replace hS := hS.on hb6
    replace hD := hD.on hb6
    have r4 := Lib.hid (r4.out.on hb6)
    go_wp2_with fail
    refine (eqDangerS_rs NM _ _ _ _ _ _ _ hG hS hnl).mono ?_
    rintro e w7 ⟨rfl, hb7⟩
    have hs7 := hb7.size
    replace hBc := bnext hBc hb7
    go_wp2_with fail
    replace hS := hS.on hb7
    replace hG := hG.on hb7
    replace hD := hD.on hb7
    have r4 := Lib.hid (r4.out.on hb7)
    refine (toDangerS_own L0 _ _ W.heap.size _ (s0'.out.below hBc) hBc.size n0).mono ?_
    rintro e w8 ⟨rfl, hb8, r8⟩
    have hs8 := hb8.size
    have hl8 := r8.lt
    have hz8 := hBc.size
    replace hBc := bnext hBc hb8
    have r8 := Lib.hid r8
    go_wp2_with fail
    replace hS := hS.on hb8
    replace hG := hG.on hb8
    replace hD := hD.on hb8
    have r4 := Lib.hid (r4.out.on hb8)
    refine (eqDangerS_same L0 _ _ _ _ w8.heap.size _ r4.out.sl' r8.out.sl' (Nat.le_refl _) n0).mono ?_
    rintro e w9 ⟨rfl, hb9⟩
    have hs9 := hb9.size
    replace hBc := bnext hBc hb9
    go_wp2_with fail
    replace hS := hS.on hb9
    replace hG := hG.on hb9
    replace hD := hD.on hb9
    have r4 := Lib.hid (r4.out.on hb9)
    have hDl := hD.1
    refine (markDangerS_any W.heap.size 44 _ L0.length (flat RDanger.cells L0) 1 _ ⟨by rw [flat_len RDanger.len], .inr ⟨_, _, _, rfl, by omega, r4.out⟩⟩ n0 (by omega) (by omega)).mono ?_
    rintro e w12 ⟨rfl, hg12, hR12⟩
    have hs12 := hg12.size
    replace hBc := hBc.grown hg12 hBc.size (fun k e => by have e' : wx.heap.size = k := Option.some.inj e; omega)
    replace hS := hS.far hg12 (fun k e q => by have e' : wx.heap.size = k := Option.some.inj e; have := (hbS _ q).2; omega)
    replace hG := hG.far hg12 (fun k e q => by have e' : wx.heap.size = k := Option.some.inj e; have := (hbG _ q).1; omega)
    replace hD := hD.far hg12 (fun k e => by have e' : wx.heap.size = k := Option.some.inj e; omega)
    clear hR12 r4
    go_wp2_with fail
    refine (eqDangerS_rs NM _ _ _ _ _ _ _ hG hS hnl).mono ?_
    rintro e w14 ⟨rfl, hb14⟩
    have hs14 := hb14.size
    replace hBc := bnext hBc hb14
    go_wp2_with fail
    replace hS := hS.on hb14
    replace hG := hG.on hb14
    replace hD := hD.on hb14
    refine (markDangerS_any _ _ _ _ _ 1 _ hG hnl (by omega) (by omega)).mono ?_
    rintro e w15 ⟨rfl, hg15, hR⟩
    have hs15 := hg15.size
    replace hBc := hBc.grown hg15 hBc.size (fun k e => by have := (hbG _ e).1; omega)
    replace hS := hS.far hg15 (fun k e q => by have := (hbG _ e).1; have := (hbS _ q).2; omega)
    replace hD := hD.far hg15 (fun k e => by have := (hbG _ e).1; omega)
    clear hG
    go_wp2_with fail
    refine (heldDangerS_any _ _ _ _ 1 _ hR hnl (by omega) (by omega)).mono ?_
    rintro e w16 ⟨rfl, hb16⟩
    have hs16 := hb16.size
    replace hBc := bnext hBc hb16
    go_wp2_with fail
    replace hS := hS.on hb16
    replace hR := hR.on hb16
    replace hD := hD.on hb16
    go_upto_region 27 with fail
    go_cut [14, 15] (fun v q wx => ∃ wz, wz = wx ∧ q = .int .i64 C ∧ Below W.heap.size W wz ∧ Rs wz W.heap.size 44 4 v NM.length (flat RDanger.cells NM) ∧ Dz wz W.heap.size (⟨a1_0, a1_1, a1_2, a1_3⟩ : RDanger) ∧ Below w16.heap.size w16 wz)
    case first =>
      have hBr := hBc
      have hDr := hD
      have hBd : Below W.heap.size W w16.drew := hBr.trans ⟨rfl, rfl, rfl, Nat.le_refl _, fun _ _ => rfl⟩
      have hDd : Dz w16.drew W.heap.size (⟨a1_0, a1_1, a1_2, a1_3⟩ : RDanger) := hDr.drew
      have hbd : Below w16.heap.size w16 w16.drew := ⟨rfl, rfl, rfl, Nat.le_refl _, fun _ _ => rfl⟩
      refine wp_region_held_drew (S := fun w' => Dz w' W.heap.size (⟨a1_0, a1_1, a1_2, a1_3⟩ : RDanger)) (by kernel_rfl) hDd (fun hHeld => ?_)
      refine wpAnyH_take (i := 0) (v := ?_) rfl (by kernel_rfl) (by kernel_rfl) (by kernel_rfl) (fun _ _ _ h => h) (Or.inl ⟨by rfl, ?_⟩) (by assumption) ?_
      rotate_left
      · (intro w9 hS9; obtain ⟨hg9, y0, y1, y2, y3⟩ := hS9; go_simp; try (with_reducible rfl))
      try simp only [Act.put, List.setIfInBounds_toArray, List.set_cons_zero, List.set_cons_succ]
      refine wpAnyH_take (i := 2) (v := ?_) rfl (by kernel_rfl) (by kernel_rfl) (by kernel_rfl) (fun _ _ _ h => h) (Or.inl ⟨by rfl, ?_⟩) (by assumption) ?_
      rotate_left
      · (intro w9 hS9; obtain ⟨hg9, y0, y1, y2, y3⟩ := hS9; go_simp; try (with_reducible rfl))
      try simp only [Act.put, List.setIfInBounds_toArray, List.set_cons_zero, List.set_cons_succ]
      refine wpAnyH_ready (rs := [1]) (by kernel_rfl) (by simp) ?_
      refine AllReadyH.cons rfl (fun K hK => ?_) AllReadyH.nil
      go_simp
      refine (toDangerS_own L0 _ _ W.heap.size _ (s0'.out.below hBd) hBd.size n0).mono ?_
      rintro e wa ⟨rfl, hba, ra⟩
      have hB1 := bnext hBd hba
      have hD1 := hDd.on hba
      go_wp2_with fail
      refine hK.out _ _ hD1 (fun hHeld => ?_)
      clear hK K hHeld
      try simp only [Act.put, List.setIfInBounds_toArray, List.set_cons_zero, List.set_cons_succ]
      refine wpAnyH_ready (rs := [3]) (by kernel_rfl) (by simp) ?_
      refine AllReadyH.cons rfl (fun K hK => ?_) AllReadyH.nil
      go_simp
      refine (toDanger_any _ _ _ _ _).mono ?_
      rintro e wq ⟨rfl, hbb⟩
      have hB2 := bnext hB1 hbb
      have hD2 := hD1.on hbb
      have rb := ra.on hbb
      have hcx : Below w16.heap.size w16 wq := bnext (bnext hbd hba) hbb
      go_wp2_with fail
      refine hK.out _ _ hD2 (fun hHeld => ?_)
      clear hK K hHeld
      try simp only [Act.put, List.setIfInBounds_toArray, List.set_cons_zero, List.set_cons_succ]
      refine wpAnyH_ready (rs := [4]) (by kernel_rfl) (by simp) ?_
      refine AllReadyH.cons rfl (fun K hK => ?_) AllReadyH.nil
      go_simp
      refine (him _ wq.heap.size _ rb.sl' rb.lt (Nat.le_refl _)).mono ?_
      rintro e wc ⟨v, rfl, hbc, hS⟩
      have hB3 := bnext hB2 hbc
      have hD3 := hD2.on hbc
      have hz3 := hB2.size
      go_wp2_with fail
      refine hK.out _ _ hD3 (fun hHeld => ?_)
      clear hK K hHeld
      try simp only [Act.put, List.setIfInBounds_toArray, List.set_cons_zero, List.set_cons_succ]
      refine wpAnyH_take (i := 5) (oi := ⟨some 84, _, _, _, _, _⟩) (v := ?_) rfl (by kernel_rfl) (by kernel_rfl) (by kernel_rfl) (fun _ _ _ h => h) (Or.inl ⟨by rfl, ?_⟩) (by assumption) ?_
      rotate_left
      · (intro w9 hS9; obtain ⟨hg9, y0, y1, y2, y3⟩ := hS9; go_simp; try (with_reducible rfl))
      try simp only [Act.put, List.setIfInBounds_toArray, List.set_cons_zero, List.set_cons_succ]
      refine wpAnyH_take (i := 6) (oi := ⟨some 90, _, _, _, _, _⟩) (v := ?_) rfl (by kernel_rfl) (by kernel_rfl) (by kernel_rfl) (fun _ _ _ h => h) (Or.inl ⟨by rfl, ?_⟩) (by assumption) ?_
      rotate_left
      · (intro w9 hS9; obtain ⟨hg9, y0, y1, y2, y3⟩ := hS9; go_simp; try (with_reducible rfl))
      try simp only [Act.put, List.setIfInBounds_toArray, List.set_cons_zero, List.set_cons_succ]
      refine wpAnyH_take (i := 7) (oi := ⟨some 91, _, _, _, _, _⟩) (v := ?_) rfl (by kernel_rfl) (by kernel_rfl) (by kernel_rfl) (fun _ _ _ h => h) (Or.inl ⟨by rfl, ?_⟩) (by assumption) ?_
      rotate_left
      · (intro w9 hS9; obtain ⟨hg9, y0, y1, y2, y3⟩ := hS9; go_simp; try (with_reducible rfl))
      try simp only [Act.put, List.setIfInBounds_toArray, List.set_cons_zero, List.set_cons_succ]
      refine wpAnyH_take (i := 8) (oi := ⟨some 14, _, _, _, _, _⟩) (v := ?_) rfl (by kernel_rfl) (by kernel_rfl) (by kernel_rfl) (fun _ _ _ h => h) (Or.inl ⟨by rfl, ?_⟩) (by assumption) ?_
      rotate_left
      · (intro w9 hS9; obtain ⟨hg9, y0, y1, y2, y3⟩ := hS9; go_simp; try (with_reducible rfl))
      try simp only [Act.put, List.setIfInBounds_toArray, List.set_cons_zero, List.set_cons_succ]
      refine wpAnyH_take (i := 9) (oi := ⟨some 15, _, _, _, _, _⟩) (v := ?_) rfl (by kernel_rfl) (by kernel_rfl) (by kernel_rfl) (fun _ _ _ h => h) (Or.inl ⟨by rfl, ?_⟩) (by assumption) ?_
      rotate_left
      · (intro w9 hS9; obtain ⟨hg9, y0, y1, y2, y3⟩ := hS9; go_simp; try (with_reducible rfl))
      try simp only [Act.put, List.setIfInBounds_toArray, List.set_cons_zero, List.set_cons_succ]
      refine wpAnyH_done (by kernel_rfl) ?_ _
      go_wp2_with fail
      go_meet
      exact ⟨_, rfl, by first | rfl | simp [Act.put], hB3, by first | exact hS.more hz3 | simpa [Act.put] using hS.more hz3, hD3, bnext hcx hbc⟩
    case rest =>
      clear hBc hD
      obtain ⟨wy, rfl, rfl, hBc, hH, hD, hbx⟩ := hcut
      replace hS := hS.on hbx
      replace hR := hR.on hbx
      go_wp2_with fail
      refine (eqDangerS_rs NM _ _ _ _ _ _ _ hH hS hnl).mono ?_
      rintro e w20 ⟨rfl, hb20⟩
      have hs20 := hb20.size
      replace hBc := bnext hBc hb20
      go_wp2_with fail
      refine (heldDangerS_any _ _ _ _ 1 _ (hR.on hb20) hnl (by omega) (by omega)).mono ?_
      rintro e w21 ⟨rfl, hb21⟩
      have hs21 := hb21.size
      replace hBc := bnext hBc hb21
      go_wp2_with fail
      go_ret
      exact ⟨rfl, hBc⟩

theorem lifted (os : Os) (started : os.Started) (H : Type) (enc : TypeId × Value → H) :
    ReturnsInHanded {} Try.checked os 4 .any (Rows.fnExactAddDangerSpec.pre6 enc Try.prog Try.f4 Rows.fnExactAddDangerRow.domain false) (Rows.fnExactAddDangerSpec.post enc Try.prog Try.f4 false true false false) := by
  refine returnsInHanded_of_change (C := Try.checked) own started (by kernel_rfl) Try.func4
    (ChangeSpec.witness6 (enc := enc) (C := Try.checked) false ⟨#[], #[.slice none 0 0, .agg #[.string ⟨#[]⟩, .int .i64 0, .int .i64 0, .int .i64 0]], []⟩ 8 (by kernel_rfl) (by kernel_rfl) (by kernel_rfl) (by kernel_rfl)) ?_
  intro W base args ds gs before hval0 hW hcnd _
  have hval : ∀ (j : Nat) t v, Try.f4.params[j]? = some t → args[j]? = some v → Value.okWide Try.prog W .any base t v := hval0
  have hW' := hW
  obtain ⟨p, q, hA0, hV, rfl, hfz, hnd⟩ := hW
  have hA : DataW.TrodAll enc Try.prog W 0 (fun _ => true) true Try.f4.params.toList args.toList ds p := hA0
  rw [Try.params4] at hA hval
  obtain ⟨v0, vs0, d0, ds0, p0, q0, hargs, rfl, rfl, h0, r0⟩ := trodAll_cons hA
  obtain ⟨v1, vs1, d1, ds1, p1, q1, rfl, rfl, rfl, h1, r1⟩ := trodAll_cons r0
  obtain ⟨rfl, rfl, rfl⟩ := trodAll_nil r1
  obtain rfl : args = #[v0, v1] := by cases args; simp_all
  have g0 := h0
  have g1 := h1
  obtain ⟨rfl, rfl⟩ := trodVars_none hV
  clear hA0 hval0
  simp only [List.append_nil] at hW'
  have hlt : ∀ x ∈ p0 ++ (p1), x.block < W.heap.size := fun x hx => by simpa using hW'.lt x (by simpa using hx)
  obtain ⟨fu0, hf0⟩ := h0
  obtain ⟨A0, c0, L0, hv0, s0, b0, m0⟩ := open_flat RDanger.cells RDanger.ok RDanger.len (by decide) Try.underlying31 (by kernel_rfl) (fun _ _ _ h => trod_Danger h) hf0
  obtain ⟨va0, vl0, vc0, rfl⟩ := Go.WideShapes.okWide_slice Try.underlying31 (hval 0 31 _ rfl rfl)
  obtain ⟨rfl, rfl, rfl⟩ : A0 = va0 ∧ L0.length = vl0 ∧ c0 = vc0 := by have := hv0; simp [Value.cells] at this; exact ⟨this.1.symm, this.2.1.symm, this.2.2.symm⟩
  obtain ⟨cs1, rfl, k1_0⟩ := open_struct Try.underlying35 (ts := [9, 2, 2, 2]) (by kernel_rfl) (hval 1 35 _ rfl rfl)
  obtain ⟨c1_0, cs1_0, rfl, q1_0, k1_1⟩ := okCells_cons k1_0
  obtain ⟨c1_1, cs1_1, rfl, q1_1, k1_2⟩ := okCells_cons k1_1
  obtain ⟨c1_2, cs1_2, rfl, q1_2, k1_3⟩ := okCells_cons k1_2
  obtain ⟨c1_3, cs1_3, rfl, q1_3, k1_4⟩ := okCells_cons k1_3
  obtain rfl := okCells_nil k1_4
  obtain ⟨a1_0, rfl, wa1_0⟩ := cell_string Try.underlying9 q1_0
  obtain ⟨a1_1, rfl, wa1_1⟩ := cell_int Try.underlying2 q1_1
  obtain ⟨a1_2, rfl, wa1_2⟩ := cell_int Try.underlying2 q1_2
  obtain ⟨a1_3, rfl, wa1_3⟩ := cell_int Try.underlying2 q1_3
  refine (walk W A0 c0 L0 s0 b0 m0 a1_0 wa1_0 a1_1 wa1_1 a1_2 wa1_2 a1_3 wa1_3).mono fun e W' ⟨he, hg⟩ => ?_
  subst he
  exact ⟨_, rfl, post_below (pa := _) hW' (trodAll_cons_mk (shut_bool Try.underlying4 _) trodAll_mk0) (trodAll_cons_mk (Below.trod laidOut (by kernel_rfl) (of_decide_eq_true (by kernel_rfl)) g0 hg (fun x hx => hlt x (by simp [hx]))) (trodAll_cons_mk (Below.trod laidOut (by kernel_rfl) (of_decide_eq_true (by kernel_rfl)) g1 hg (fun x hx => hlt x (by simp [hx]))) trodAll_mk0)) rfl (by simp) hg⟩

theorem over : Rows.fnExactAddDangerRow.holds Try.pinned (OpenSpec.ofChange Rows.fnExactAddDangerSpec) :=
  OpenClaim.holds_of_wide 4 Try.f4 rfl rfl rfl rfl rfl rfl rfl ⟨rfl, rfl, rfl, rfl, rfl⟩ rfl rfl rfl rfl rfl (by kernel_rfl) Try.func4 (by kernel_rfl)
    (of_decide_eq_true (by kernel_rfl)) (by unfold Func.isWrapper; first | (rw [if_pos (by decide +kernel)]; kernel_rfl) | (rw [if_neg (by decide +kernel)]; exact ⟨rfl, rfl⟩))
    (fun os started H enc _ => lifted os started H enc)

theorem proved : Rows.FnExactAddDangerSaid := over
#print axioms proved
end fnExactAddDanger

end Go.Proofs.Ytlolkngklfabfaa
