/-
  CloseRhythms: the program's function returns what the reference's returns, for all arguments. Under no condition.
-/
import Derived.Test.YtpnffdkkmibchaaRhyG
set_option linter.unusedVariables false
set_option maxRecDepth 100000
set_option linter.unusedSimpArgs false
namespace Go.Proofs.Ytpnffdkkmibchaa
open Go.RowKit BigFrame

theorem own : ownKnob Try.prog.godebug = none := by kernel_rfl
theorem laidOut : laidOutB Try.prog = true := by kernel_rfl

namespace fnExactCloseRhythms
open Go.ChangeShapes Go.WideShapes Go.ChangeAt Go.RowKit
set_option linter.unusedVariables false
set_option maxHeartbeats 3200000 in
theorem walk (W : World) (A0 : Option Addr) (c0 : Nat) (L0 : List RPhase) (s0 : Sl W W.heap.size A0 (flat RPhase.cells L0)) (b0 : ∀ z ∈ L0, z.ok) (m0 : L0.length ≤ maxLen) (A1 : Option Addr) (c1 : Nat) (L1 : List RPhase) (s1 : Sl W W.heap.size A1 (flat RPhase.cells L1)) (b1 : ∀ z ∈ L1, z.ok) (m1 : L1.length ≤ maxLen) (a2 : Int) (wa2 : IntKind.i64.has a2) :
    Calls Try.prog 3 #[.slice A0 L0.length c0, .slice A1 L1.length c1, .int .i64 a2] W fun e w' => e = .returned (.bool true) ∧ Below W.heap.size W w' := by
  have s0' := Lib.hid s0
  have s1' := Lib.hid s1
  have o0 := Lib.hid b0
  have o1 := Lib.hid b1
  clear s0 s1 b0 b1
  have hB00 : Below W.heap.size W W := Below.refl _ _
  obtain ⟨l1, e1⟩ : ∃ l, szS RPhase.szN 1048576 L0 = l := ⟨_, rfl⟩
  go_enter Try.func3, Try.ntmps3
  go_wp2_with fail
  refine (szPhaseS_rec L0 _ _ W.heap.size 1048576 _ (s0'.out.below hB00) hB00.size o0.out m0 (by omega) (by omega)).mono ?_
  rintro e wa ⟨rfl, hba⟩
  have hBa := bnext hB00 hba
  rw [e1]
  by_cases h1 : l1 < 0
  · clear e1
    go_wp2_with fail
    go_ret
    exact ⟨rfl, hBa⟩
  obtain ⟨g1, g2⟩ := szS_ge (by rw [e1]; exact h1)
  rw [e1] at g2
  clear e1
  obtain ⟨l2, e2⟩ : ∃ l, szS RPhase.szN l1 L1 = l := ⟨_, rfl⟩
  go_wp2_with fail
  refine (szPhaseS_rec L1 _ _ W.heap.size l1 _ (s1'.out.below hBa) hBa.size o1.out m1 (by omega) (by omega)).mono ?_
  rintro e wb ⟨rfl, hbb⟩
  have hB0 := bnext hBa hbb
  rw [e2]
  by_cases h2 : l2 < 0
  · clear e2
    go_wp2_with fail
    go_ret
    exact ⟨rfl, hB0⟩
  obtain ⟨g3, g4⟩ := szS_ge (by rw [e2]; exact h2)
  have n0 : L0.length ≤ 1048576 := by omega
  have n1 : L1.length ≤ 1048576 := by omega
  clear e2 g1 g2 g3 g4
  go_wp2_with fail
  clear h1 h2
  refine (toPhaseS_any L0 _ _ W.heap.size _ (s0'.out.below hB0) hB0.size (by assumption)).mono ?_
  rintro e w1 ⟨rfl, hb1, hz1, r1⟩
  have hB1 := bnext hB0 hb1
  have r1 := Lib.hid r1
  go_wp2_with fail
  refine (toPhaseS_any L1 _ _ W.heap.size _ (s1'.out.below hB1) hB1.size (by assumption)).mono ?_
  rintro e w2 ⟨rfl, hb2, hz2, r2⟩
  have hB2 := bnext hB1 hb2
  have r2 := Lib.hid r2
  go_wp2_with fail
  have z1 := hb1.size
  have z2 := hb2.size
  have r1 := Lib.hid (r1.out.below (hb2.mono (by omega)))
  refine (spec_CloseR L0 L1 _ _ _ _ w2.heap.size a2 _ (r1.out.more (by omega)) (r2.out.more (by omega)) (Nat.le_refl _) o0.out o1.out n0 n1).mono ?_
  rintro e w3 ⟨t, ht, rfl, hb3⟩
  have hB3 := bnext hB2 hb3
  have ht' := Lib.hid ht
  clear r1 r2 ht
  go_wp2_with fail
  refine (toPhaseS_any L0 _ _ W.heap.size _ (s0'.out.below hB3) hB3.size (by assumption)).mono ?_
  rintro e w4 ⟨rfl, hb4, hz4, r4⟩
  have hB4 := bnext hB3 hb4
  have r4 := Lib.hid r4
  go_wp2_with fail
  refine (toPhaseS_any L1 _ _ W.heap.size _ (s1'.out.below hB4) hB4.size (by assumption)).mono ?_
  rintro e w5 ⟨rfl, hb5, hz5, r5⟩
  have hB5 := bnext hB4 hb5
  have r5 := Lib.hid r5
  go_wp2_with fail
  have z3 := hb3.size
  have z4 := hb4.size
  have z5 := hb5.size
  have r4 := Lib.hid (r4.out.below (hb5.mono (by omega)))
  refine (impl_CloseR L0 L1 _ _ _ _ w5.heap.size a2 _ (r4.out.more (by omega)) (r5.out.more (by omega)) (Nat.le_refl _) o0.out o1.out n0 n1).mono ?_
  rintro e w6 ⟨s, hs, rfl, hb6⟩
  obtain rfl := ht'.out.uniq hs
  have hB6 := bnext hB5 hb6
  have z6 := hb6.size
  have r4 := Lib.hid (r4.out.below (hb6.mono (by omega)))
  have r5 := Lib.hid (r5.out.below (hb6.mono (by omega)))
  clear hs ht'
  have htt : (t != t) = false := by cases t <;> rfl
  go_wp2_with fail
  refine (toPhaseS_any L0 _ _ W.heap.size _ (s0'.out.below hB6) hB6.size (by assumption)).mono ?_
  rintro e w7 ⟨rfl, hb7, hz7, r7⟩
  have hB7 := bnext hB6 hb7
  have r7 := Lib.hid r7
  go_wp2_with fail
  have z7 := hb7.size
  have r4 := Lib.hid (r4.out.below (hb7.mono (by omega)))
  have r5 := Lib.hid (r5.out.below (hb7.mono (by omega)))
  refine (eqPhaseS_same L0 _ _ _ _ w7.heap.size _ (r4.out.more (by omega)) (r7.out.more (by omega)) (Nat.le_refl _) (by assumption)).mono ?_
  rintro e w8 ⟨rfl, hb8⟩
  have hB8 := bnext hB7 hb8
  have z8 := hb8.size
  have r5 := Lib.hid (r5.out.below (hb8.mono (by omega)))
  clear r4 r7
  go_wp2_with fail
  refine (toPhaseS_any L1 _ _ W.heap.size _ (s1'.out.below hB8) hB8.size (by assumption)).mono ?_
  rintro e w9 ⟨rfl, hb9, hz9, r9⟩
  have hB9 := bnext hB8 hb9
  have r9 := Lib.hid r9
  go_wp2_with fail
  have z9 := hb9.size
  have r5 := Lib.hid (r5.out.below (hb9.mono (by omega)))
  refine (eqPhaseS_same L1 _ _ _ _ w9.heap.size _ (r5.out.more (by omega)) (r9.out.more (by omega)) (Nat.le_refl _) (by assumption)).mono ?_
  rintro e w10 ⟨rfl, hb10⟩
  go_wp2_with fail
  go_ret
  exact ⟨rfl, bnext hB9 hb10⟩

theorem lifted (os : Os) (started : os.Started) (H : Type) (enc : TypeId × Value → H) :
    ReturnsInHanded {} Try.checked os 3 .any (Rows.fnExactCloseRhythmsSpec.pre6 enc Try.prog Try.f3 Rows.fnExactCloseRhythmsRow.domain false) (Rows.fnExactCloseRhythmsSpec.post enc Try.prog Try.f3 false true false false) := by
  refine returnsInHanded_of_change (C := Try.checked) own started (by kernel_rfl) Try.func3
    (ChangeSpec.witness6 (enc := enc) (C := Try.checked) false ⟨#[], #[.slice none 0 0, .slice none 0 0, .int .i64 0], []⟩ 8 (by kernel_rfl) (by kernel_rfl) (by kernel_rfl) (by kernel_rfl)) ?_
  intro W base args ds gs before hval0 hW hcnd _
  have hval : ∀ (j : Nat) t v, Try.f3.params[j]? = some t → args[j]? = some v → Value.okWide Try.prog W .any base t v := hval0
  have hW' := hW
  obtain ⟨p, q, hA0, hV, rfl, hfz, hnd⟩ := hW
  have hA : DataW.TrodAll enc Try.prog W 0 (fun _ => true) true Try.f3.params.toList args.toList ds p := hA0
  rw [Try.params3] at hA hval
  obtain ⟨v0, vs0, d0, ds0, p0, q0, hargs, rfl, rfl, h0, r0⟩ := trodAll_cons hA
  obtain ⟨v1, vs1, d1, ds1, p1, q1, rfl, rfl, rfl, h1, r1⟩ := trodAll_cons r0
  obtain ⟨v2, vs2, d2, ds2, p2, q2, rfl, rfl, rfl, h2, r2⟩ := trodAll_cons r1
  obtain ⟨rfl, rfl, rfl⟩ := trodAll_nil r2
  obtain rfl : args = #[v0, v1, v2] := by cases args; simp_all
  have g0 := h0
  have g1 := h1
  have g2 := h2
  obtain ⟨rfl, rfl⟩ := trodVars_none hV
  clear hA0 hval0
  simp only [List.append_nil] at hW'
  have hlt : ∀ x ∈ p0 ++ (p1 ++ (p2)), x.block < W.heap.size := fun x hx => by simpa using hW'.lt x (by simpa using hx)
  obtain ⟨fu0, hf0⟩ := h0
  obtain ⟨A0, c0, L0, hv0, s0, b0, m0⟩ := open_flat RPhase.cells RPhase.ok RPhase.len (by decide) Try.underlying22 (by kernel_rfl) (fun _ _ _ h => trod_Phase h) hf0
  obtain ⟨va0, vl0, vc0, rfl⟩ := Go.WideShapes.okWide_slice Try.underlying22 (hval 0 22 _ rfl rfl)
  obtain ⟨rfl, rfl, rfl⟩ : A0 = va0 ∧ L0.length = vl0 ∧ c0 = vc0 := by have := hv0; simp [Value.cells] at this; exact ⟨this.1.symm, this.2.1.symm, this.2.2.symm⟩
  obtain ⟨fu1, hf1⟩ := h1
  obtain ⟨A1, c1, L1, hv1, s1, b1, m1⟩ := open_flat RPhase.cells RPhase.ok RPhase.len (by decide) Try.underlying22 (by kernel_rfl) (fun _ _ _ h => trod_Phase h) hf1
  obtain ⟨va1, vl1, vc1, rfl⟩ := Go.WideShapes.okWide_slice Try.underlying22 (hval 1 22 _ rfl rfl)
  obtain ⟨rfl, rfl, rfl⟩ : A1 = va1 ∧ L1.length = vl1 ∧ c1 = vc1 := by have := hv1; simp [Value.cells] at this; exact ⟨this.1.symm, this.2.1.symm, this.2.2.symm⟩
  obtain ⟨a2, rfl, wa2⟩ := value_int Try.underlying2 (hval 2 2 _ rfl rfl)
  refine (walk W A0 c0 L0 s0 b0 m0 A1 c1 L1 s1 b1 m1 a2 wa2).mono fun e W' ⟨he, hg⟩ => ?_
  subst he
  exact ⟨_, rfl, post_below (pa := _) hW' (trodAll_cons_mk (shut_bool Try.underlying4 _) trodAll_mk0) (trodAll_cons_mk (Below.trod laidOut (by kernel_rfl) (of_decide_eq_true (by kernel_rfl)) g0 hg (fun x hx => hlt x (by simp [hx]))) (trodAll_cons_mk (Below.trod laidOut (by kernel_rfl) (of_decide_eq_true (by kernel_rfl)) g1 hg (fun x hx => hlt x (by simp [hx]))) (trodAll_cons_mk (Below.trod laidOut (by kernel_rfl) (of_decide_eq_true (by kernel_rfl)) g2 hg (fun x hx => hlt x (by simp [hx]))) trodAll_mk0))) rfl (by simp) hg⟩

theorem over : Rows.fnExactCloseRhythmsRow.holds Try.pinned (OpenSpec.ofChange Rows.fnExactCloseRhythmsSpec) :=
  OpenClaim.holds_of_wide 3 Try.f3 rfl rfl rfl rfl rfl rfl rfl ⟨rfl, rfl, rfl, rfl, rfl⟩ rfl rfl rfl rfl rfl (by kernel_rfl) Try.func3 (by kernel_rfl)
    (of_decide_eq_true (by kernel_rfl)) (by unfold Func.isWrapper; first | (rw [if_pos (by decide +kernel)]; kernel_rfl) | (rw [if_neg (by decide +kernel)]; exact ⟨rfl, rfl⟩))
    (fun os started H enc _ => lifted os started H enc)

theorem proved : Rows.FnExactCloseRhythmsSaid := over
#print axioms proved
end fnExactCloseRhythms

end Go.Proofs.Ytpnffdkkmibchaa
