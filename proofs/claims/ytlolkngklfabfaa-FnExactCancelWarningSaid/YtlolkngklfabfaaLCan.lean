/-
  CancelWarning: the program's function returns what the reference's returns, for all arguments, in a row of its own. Under no condition.
-/
import Derived.Test.YtlolkngklfabfaaCan
set_option linter.unusedVariables false
set_option linter.unnecessarySimpa false
set_option maxRecDepth 100000
set_option linter.unusedSimpArgs false
namespace Go.Proofs.Ytlolkngklfabfaa
open Go.RowKit BigFrame
theorem own : ownKnob Try.prog.godebug = none := by kernel_rfl
theorem laidOut : laidOutB Try.prog = true := by kernel_rfl

/-- Two rows of warnings that calls have made. -/
theorem eqWarningS_rs (L : List RWarning) (v v2 : Value) (B B2 e e2 : Nat) (w : World) (h : Rs w B e 8 v L.length (flat RWarning.cells L)) (h2 : Rs w B2 e2 8 v2 L.length (flat RWarning.cells L)) (hl : L.length ≤ 1048576) : Calls Try.prog 15 #[v, v2] w fun e w' => e = .returned (.bool true) ∧ Below w.heap.size w w' := by
  obtain ⟨A, c, rfl, hs⟩ := h.sl
  obtain ⟨A2, c2, rfl, hs2⟩ := h2.sl
  exact eqWarningS_same L A A2 c c2 w.heap.size w hs hs2 (Nat.le_refl _) hl
namespace fnExactCancelWarning
open Go.ChangeShapes Go.WideShapes Go.ChangeAt Go.RowKit
set_option linter.unusedVariables false
set_option maxHeartbeats 3200000 in
theorem walk (W : World) (A0 : Option Addr) (c0 : Nat) (L0 : List RWarning) (s0 : Sl W W.heap.size A0 (flat RWarning.cells L0)) (b0 : ∀ z ∈ L0, z.ok) (m0 : L0.length ≤ maxLen) (a1 : Int) (wa1 : IntKind.i64.has a1) (a2 : Int) (wa2 : IntKind.i64.has a2) :
    Calls Try.prog 3 #[.slice A0 L0.length c0, .int .i64 a1, .int .i64 a2] W fun e w' => e = .returned (.bool true) ∧ Below W.heap.size W w' := by
  have s0' := Lib.hid s0
  have o0 := Lib.hid b0
  clear s0 b0
  have hB00 : Below W.heap.size W W := Below.refl _ _
  obtain ⟨l1, e1⟩ : ∃ l, szS RWarning.szN 1048576 L0 = l := ⟨_, rfl⟩
  go_enter Try.func3, Try.ntmps3
  go_wp2_with fail
  refine (szWarningS_rec L0 _ _ W.heap.size 1048576 _ (s0'.out.below hB00) hB00.size o0.out m0 (by omega) (by omega)).mono ?_
  rintro e wa ⟨rfl, hba⟩
  have hBc := bnext hB00 hba
  clear hB00 hba
  rw [e1]
  by_cases h1 : l1 < 0
  · clear e1
    go_wp2_with fail
    go_ret
    exact ⟨rfl, hBc⟩
  obtain ⟨g1, g2⟩ := szS_ge (by rw [e1]; exact h1)
  rw [e1] at g2
  have n0 : L0.length ≤ 1048576 := by omega
  clear e1 g1
  go_wp2_with fail
  clear h1
  have hsp : ∀ (A : Option Addr) (c B : Nat) (w : World), Sl w B A (flat RWarning.cells L0) → B ≤ w.heap.size → Calls Try.prog 12 #[.slice A L0.length c, .int .i64 a1, .int .i64 a2] w (CanPost (canC L0 a1 a2) (canL L0 a1 a2) w) := fun A c B w h hB => spec_Can L0 A c B a1 a2 w h hB o0.out n0
  have him : ∀ (A : Option Addr) (c B : Nat) (w : World), Sl w B A (flat RWarning.cells L0) → B ≤ w.heap.size → Calls Try.prog 14 #[.slice A L0.length c, .int .i64 a1, .int .i64 a2] w (CanPost (canC L0 a1 a2) (canL L0 a1 a2) w) := fun A c B w h hB => impl_Can L0 A c B a1 a2 w h hB o0.out n0
  have hnl : (canL L0 a1 a2).length ≤ 1048576 := Nat.le_trans (canL_le _ _ _) n0
  generalize canL L0 a1 a2 = NM at hsp him hnl
  generalize canC L0 a1 a2 = C at hsp him
  refine (toWarningS_own L0 _ _ W.heap.size _ (s0'.out.below hBc) hBc.size n0).mono ?_
  rintro e w1 ⟨rfl, hb1, r1⟩
  have hs1 := hb1.size
  have hl1 := r1.lt
  have hz1 := hBc.size
  replace hBc := bnext hBc hb1
  have r1 := Lib.hid r1
  go_wp2_with fail
  refine (hsp _ _ w1.heap.size _ r1.out.sl' (Nat.le_refl _)).mono ?_
  rintro e w3 ⟨vS, rfl, hb3, hS⟩
  have hs3 := hb3.size
  replace hBc := bnext hBc hb3
  have hbS := hS.block
  go_wp2_with fail
  refine (toWarningS_own L0 _ _ W.heap.size _ (s0'.out.below hBc) hBc.size n0).mono ?_
  rintro e w4 ⟨rfl, hb4, r4⟩
  have hs4 := hb4.size
  have hl4 := r4.lt
  have hz4 := hBc.size
  replace hBc := bnext hBc hb4
  have r4 := Lib.hid r4
  go_wp2_with fail
  replace hS := hS.on hb4
  refine (him _ _ w4.heap.size _ r4.out.sl' (Nat.le_refl _)).mono ?_
  rintro e w6 ⟨vG, rfl, hb6, hG⟩
  have hs6 := hb6.size
  replace hBc := bnext hBc hb6
  have hbG := hG.block
  replace hS := hS.on hb6
  have r4 := Lib.hid (r4.out.on hb6)
  go_wp2_with fail
  refine (eqWarningS_rs NM _ _ _ _ _ _ _ hG hS hnl).mono ?_
  rintro e w7 ⟨rfl, hb7⟩
  have hs7 := hb7.size
  replace hBc := bnext hBc hb7
  go_wp2_with fail
  replace hS := hS.on hb7
  replace hG := hG.on hb7
  have r4 := Lib.hid (r4.out.on hb7)
  refine (toWarningS_own L0 _ _ W.heap.size _ (s0'.out.below hBc) hBc.size n0).mono ?_
  rintro e w8 ⟨rfl, hb8, r8⟩
  have hs8 := hb8.size
  have hl8 := r8.lt
  have hz8 := hBc.size
  replace hBc := bnext hBc hb8
  have r8 := Lib.hid r8
  go_wp2_with fail
  replace hS := hS.on hb8
  replace hG := hG.on hb8
  have r4 := Lib.hid (r4.out.on hb8)
  refine (eqWarningS_same L0 _ _ _ _ w8.heap.size _ r4.out.sl' r8.out.sl' (Nat.le_refl _) n0).mono ?_
  rintro e w9 ⟨rfl, hb9⟩
  have hs9 := hb9.size
  replace hBc := bnext hBc hb9
  go_wp2_with fail
  replace hS := hS.on hb9
  replace hG := hG.on hb9
  have r4 := Lib.hid (r4.out.on hb9)
  refine (markWarningS_any W.heap.size 113 _ L0.length (flat RWarning.cells L0) 1 _ ⟨by rw [flat_len RWarning.len], .inr ⟨_, _, _, rfl, by omega, r4.out⟩⟩ n0 (by omega) (by omega)).mono ?_
  rintro e w12 ⟨rfl, hg12, hR12⟩
  have hs12 := hg12.size
  replace hBc := hBc.grown hg12 hBc.size (fun k e => by have e' : w3.heap.size = k := Option.some.inj e; omega)
  replace hS := hS.far hg12 (fun k e q => by have e' : w3.heap.size = k := Option.some.inj e; have := (hbS _ q).2; omega)
  replace hG := hG.far hg12 (fun k e q => by have e' : w3.heap.size = k := Option.some.inj e; have := (hbG _ q).1; omega)
  clear hR12 r4
  go_wp2_with fail
  refine (eqWarningS_rs NM _ _ _ _ _ _ _ hG hS hnl).mono ?_
  rintro e w14 ⟨rfl, hb14⟩
  have hs14 := hb14.size
  replace hBc := bnext hBc hb14
  go_wp2_with fail
  replace hS := hS.on hb14
  replace hG := hG.on hb14
  refine (markWarningS_any _ _ _ _ _ 1 _ hG hnl (by omega) (by omega)).mono ?_
  rintro e w15 ⟨rfl, hg15, hR⟩
  have hs15 := hg15.size
  replace hBc := hBc.grown hg15 hBc.size (fun k e => by have := (hbG _ e).1; omega)
  replace hS := hS.far hg15 (fun k e q => by have := (hbG _ e).1; have := (hbS _ q).2; omega)
  clear hG
  go_wp2_with fail
  refine (heldWarningS_any _ _ _ _ 1 _ hR hnl (by omega) (by omega)).mono ?_
  rintro e w16 ⟨rfl, hb16⟩
  have hs16 := hb16.size
  replace hBc := bnext hBc hb16
  go_wp2_with fail
  replace hS := hS.on hb16
  replace hR := hR.on hb16
  refine (toWarningS_own L0 _ _ W.heap.size _ (s0'.out.below hBc) hBc.size n0).mono ?_
  rintro e w17 ⟨rfl, hb17, r17⟩
  have hs17 := hb17.size
  have hl17 := r17.lt
  have hz17 := hBc.size
  replace hBc := bnext hBc hb17
  have r17 := Lib.hid r17
  go_wp2_with fail
  replace hS := hS.on hb17
  replace hR := hR.on hb17
  refine (him _ _ w17.heap.size _ r17.out.sl' (Nat.le_refl _)).mono ?_
  rintro e w19 ⟨vH, rfl, hb19, hH⟩
  replace hBc := bnext hBc hb19
  replace hS := hS.on hb19
  replace hR := hR.on hb19
  go_wp2_with fail
  refine (eqWarningS_rs NM _ _ _ _ _ _ _ hH hS hnl).mono ?_
  rintro e w20 ⟨rfl, hb20⟩
  have hs20 := hb20.size
  replace hBc := bnext hBc hb20
  go_wp2_with fail
  refine (heldWarningS_any _ _ _ _ 1 _ (hR.on hb20) hnl (by omega) (by omega)).mono ?_
  rintro e w21 ⟨rfl, hb21⟩
  have hs21 := hb21.size
  replace hBc := bnext hBc hb21
  go_wp2_with fail
  go_ret
  exact ⟨rfl, hBc⟩

theorem lifted (os : Os) (started : os.Started) (H : Type) (enc : TypeId × Value → H) :
    ReturnsInHanded {} Try.checked os 3 .any (Rows.fnExactCancelWarningSpec.pre6 enc Try.prog Try.f3 Rows.fnExactCancelWarningRow.domain false) (Rows.fnExactCancelWarningSpec.post enc Try.prog Try.f3 false true false false) := by
  refine returnsInHanded_of_change (C := Try.checked) own started (by kernel_rfl) Try.func3
    (ChangeSpec.witness6 (enc := enc) (C := Try.checked) false ⟨#[], #[.slice none 0 0, .int .i64 0, .int .i64 0], []⟩ 8 (by kernel_rfl) (by kernel_rfl) (by kernel_rfl) (by kernel_rfl)) ?_
  intro W base args ds gs before hval0 hW hcnd _
  have hval : ∀ (j : Nat) t v, Try.f3.params[j]? = some t → args[j]? = some v → Value.okWide Try.prog W .any base t v := hval0
  have hW' := hW
  obtain ⟨p, q, hA0, hV, rfl, hfz, hnd⟩ := hW
  have hA : DataW.TrodAll enc Try.prog W 0 (fun _ => true) true Try.f3.params.toList args.toList ds p := hA0
  rw [Try.params3] at hA hval
  obtain ⟨v0, vs0, d0, ds0, p0, q0, hargs, rfl, rfl, h0, r0⟩ := trodAll_cons hA
  obtain ⟨v1, vs1, d1, ds1, p1, q1, rfl, rfl, rfl, h1, r1⟩ := trodAll_cons r0
  obtain ⟨v2, vs2, d2, ds2, p2, q2, rfl, rfl, rfl, h2, r2⟩ := trodAll_cons r1
  obtain ⟨rfl, rfl, rfl⟩ := trodAll_nil r2
  obtain rfl : args = #[v0, v1, v2] := by cases args; simp_all
  have g0 := h0
  have g1 := h1
  have g2 := h2
  obtain ⟨rfl, rfl⟩ := trodVars_none hV
  clear hA0 hval0
  simp only [List.append_nil] at hW'
  have hlt : ∀ x ∈ p0 ++ (p1 ++ (p2)), x.block < W.heap.size := fun x hx => by simpa using hW'.lt x (by simpa using hx)
  obtain ⟨fu0, hf0⟩ := h0
  obtain ⟨A0, c0, L0, hv0, s0, b0, m0⟩ := open_flat RWarning.cells RWarning.ok RWarning.len (by decide) Try.underlying22 (by kernel_rfl) (fun _ _ _ h => trod_Warning h) hf0
  obtain ⟨va0, vl0, vc0, rfl⟩ := Go.WideShapes.okWide_slice Try.underlying22 (hval 0 22 _ rfl rfl)
  obtain ⟨rfl, rfl, rfl⟩ : A0 = va0 ∧ L0.length = vl0 ∧ c0 = vc0 := by have := hv0; simp [Value.cells] at this; exact ⟨this.1.symm, this.2.1.symm, this.2.2.symm⟩
  obtain ⟨a1, rfl, wa1⟩ := value_int Try.underlying2 (hval 1 2 _ rfl rfl)
  obtain ⟨a2, rfl, wa2⟩ := value_int Try.underlying2 (hval 2 2 _ rfl rfl)
  refine (walk W A0 c0 L0 s0 b0 m0 a1 wa1 a2 wa2).mono fun e W' ⟨he, hg⟩ => ?_
  subst he
  exact ⟨_, rfl, post_below (pa := _) hW' (trodAll_cons_mk (shut_bool Try.underlying4 _) trodAll_mk0) (trodAll_cons_mk (Below.trod laidOut (by kernel_rfl) (of_decide_eq_true (by kernel_rfl)) g0 hg (fun x hx => hlt x (by simp [hx]))) (trodAll_cons_mk (Below.trod laidOut (by kernel_rfl) (of_decide_eq_true (by kernel_rfl)) g1 hg (fun x hx => hlt x (by simp [hx]))) (trodAll_cons_mk (Below.trod laidOut (by kernel_rfl) (of_decide_eq_true (by kernel_rfl)) g2 hg (fun x hx => hlt x (by simp [hx]))) trodAll_mk0))) rfl (by simp) hg⟩

theorem over : Rows.fnExactCancelWarningRow.holds Try.pinned (OpenSpec.ofChange Rows.fnExactCancelWarningSpec) :=
  OpenClaim.holds_of_wide 3 Try.f3 rfl rfl rfl rfl rfl rfl rfl ⟨rfl, rfl, rfl, rfl, rfl⟩ rfl rfl rfl rfl rfl (by kernel_rfl) Try.func3 (by kernel_rfl)
    (of_decide_eq_true (by kernel_rfl)) (by unfold Func.isWrapper; first | (rw [if_pos (by decide +kernel)]; kernel_rfl) | (rw [if_neg (by decide +kernel)]; exact ⟨rfl, rfl⟩))
    (fun os started H enc _ => lifted os started H enc)

theorem proved : Rows.FnExactCancelWarningSaid := over
#print axioms proved
end fnExactCancelWarning

end Go.Proofs.Ytlolkngklfabfaa
