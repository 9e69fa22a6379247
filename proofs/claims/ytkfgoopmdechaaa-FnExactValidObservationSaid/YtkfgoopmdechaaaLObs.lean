/-
  ValidObservation: the program's function returns what the reference's returns, for all arguments. Under no condition.
-/
import Derived.Test.YtkfgoopmdechaaaObs
set_option linter.unusedVariables false
set_option maxRecDepth 100000
set_option linter.unusedSimpArgs false
namespace Go.Proofs.Ytkfgoopmdechaaa
open Go.RowKit BigFrame

theorem own : ownKnob Try.prog.godebug = none := by kernel_rfl
theorem laidOut : laidOutB Try.prog = true := by kernel_rfl

namespace fnExactValidObservation
open Go.ChangeShapes Go.WideShapes Go.ChangeAt Go.RowKit
set_option linter.unusedVariables false
set_option maxHeartbeats 3200000 in
theorem walk (W : World) (A0 : Option Addr) (c0 : Nat) (L0 : List RPhase) (s0 : Sl W W.heap.size A0 (flat RPhase.cells L0)) (b0 : ∀ z ∈ L0, z.ok) (m0 : L0.length ≤ maxLen) :
    Calls Try.prog 7 #[.slice A0 L0.length c0] W fun e w' => e = .returned (.bool true) ∧ Below W.heap.size W w' := by
  have s0' := Lib.hid s0
  have o0 := Lib.hid b0
  clear s0 b0
  have hB00 : Below W.heap.size W W := Below.refl _ _
  obtain ⟨l1, e1⟩ : ∃ l, szS RPhase.szN 1048576 L0 = l := ⟨_, rfl⟩
  go_enter Try.func7, Try.ntmps7
  go_wp2_with fail
  refine (szPhaseS_rec L0 _ _ W.heap.size 1048576 _ (s0'.out.below hB00) hB00.size o0.out m0 (by omega) (by omega)).mono ?_
  rintro e wa ⟨rfl, hba⟩
  have hB0 := bnext hB00 hba
  rw [e1]
  by_cases h1 : l1 < 0
  · clear e1
    go_wp2_with fail
    go_ret
    exact ⟨rfl, hB0⟩
  obtain ⟨g1, g2⟩ := szS_ge (by rw [e1]; exact h1)
  have n0 : L0.length ≤ 1048576 := by omega
  clear e1 g1 g2
  go_wp2_with fail
  clear h1
  refine (toPhaseS_any L0 _ _ W.heap.size _ (s0'.out.below hB0) hB0.size (by assumption)).mono ?_
  rintro e w1 ⟨rfl, hb1, hz1, r1⟩
  have hB1 := bnext hB0 hb1
  have r1 := Lib.hid r1
  go_wp2_with fail
  have z1 := hb1.size
  refine (spec_ValidObservation L0 _ _ w1.heap.size _ (r1.out.more (by omega)) (Nat.le_refl _) o0.out (by assumption)).mono ?_
  rintro e w3 ⟨rfl, hb3⟩
  have hB3 := bnext hB1 hb3
  clear r1
  go_wp2_with fail
  refine (toPhaseS_any L0 _ _ W.heap.size _ (s0'.out.below hB3) hB3.size (by assumption)).mono ?_
  rintro e w4 ⟨rfl, hb4, hz4, r4⟩
  have hB4 := bnext hB3 hb4
  have r4 := Lib.hid r4
  go_wp2_with fail
  have z4 := hb4.size
  refine (impl_ValidObservation L0 _ _ w4.heap.size _ (r4.out.more (by omega)) (Nat.le_refl _) o0.out (by assumption)).mono ?_
  rintro e w6 ⟨rfl, hb6⟩
  have hB6 := bnext hB4 hb6
  have z6 := hb6.size
  have r4 := Lib.hid (r4.out.below (hb6.mono (by omega)))
  go_wp2_with fail
  refine (toPhaseS_any L0 _ _ W.heap.size _ (s0'.out.below hB6) hB6.size (by assumption)).mono ?_
  rintro e w7 ⟨rfl, hb7, hz7, r7⟩
  have hB7 := bnext hB6 hb7
  have r7 := Lib.hid r7
  go_wp2_with fail
  have z7 := hb7.size
  have r4 := Lib.hid (r4.out.below (hb7.mono (by omega)))
  refine (eqPhaseS_same L0 _ _ _ _ w7.heap.size _ (r4.out.more (by omega)) (r7.out.more (by omega)) (Nat.le_refl _) (by assumption)).mono ?_
  rintro e w8 ⟨rfl, hb8⟩
  go_wp2_with fail
  go_ret
  exact ⟨rfl, bnext hB7 hb8⟩

theorem lifted (os : Os) (started : os.Started) (H : Type) (enc : TypeId × Value → H) :
    ReturnsInHanded {} Try.checked os 7 .any (Rows.fnExactValidObservationSpec.pre6 enc Try.prog Try.f7 Rows.fnExactValidObservationRow.domain false) (Rows.fnExactValidObservationSpec.post enc Try.prog Try.f7 false true false false) := by
  refine returnsInHanded_of_change (C := Try.checked) own started (by kernel_rfl) Try.func7
    (ChangeSpec.witness6 (enc := enc) (C := Try.checked) false ⟨#[], #[.slice none 0 0], []⟩ 8 (by kernel_rfl) (by kernel_rfl) (by kernel_rfl) (by kernel_rfl)) ?_
  intro W base args ds gs before hval0 hW hcnd _
  have hval : ∀ (j : Nat) t v, Try.f7.params[j]? = some t → args[j]? = some v → Value.okWide Try.prog W .any base t v := hval0
  have hW' := hW
  obtain ⟨p, q, hA0, hV, rfl, hfz, hnd⟩ := hW
  have hA : DataW.TrodAll enc Try.prog W 0 (fun _ => true) true Try.f7.params.toList args.toList ds p := hA0
  rw [Try.params7] at hA hval
  obtain ⟨v0, vs0, d0, ds0, p0, q0, hargs, rfl, rfl, h0, r0⟩ := trodAll_cons hA
  obtain ⟨rfl, rfl, rfl⟩ := trodAll_nil r0
  obtain rfl : args = #[v0] := by cases args; simp_all
  have g0 := h0
  obtain ⟨rfl, rfl⟩ := trodVars_none hV
  clear hA0 hval0
  simp only [List.append_nil] at hW'
  have hlt : ∀ x ∈ p0, x.block < W.heap.size := fun x hx => by simpa using hW'.lt x (by simpa using hx)
  obtain ⟨fu0, hf0⟩ := h0
  obtain ⟨A0, c0, L0, hv0, s0, b0, m0⟩ := open_flat RPhase.cells RPhase.ok RPhase.len (by decide) Try.underlying36 (by kernel_rfl) (fun _ _ _ h => trod_Phase h) hf0
  obtain ⟨va0, vl0, vc0, rfl⟩ := Go.WideShapes.okWide_slice Try.underlying36 (hval 0 36 _ rfl rfl)
  obtain ⟨rfl, rfl, rfl⟩ : A0 = va0 ∧ L0.length = vl0 ∧ c0 = vc0 := by have := hv0; simp [Value.cells] at this; exact ⟨this.1.symm, this.2.1.symm, this.2.2.symm⟩
  refine (walk W A0 c0 L0 s0 b0 m0).mono fun e W' ⟨he, hg⟩ => ?_
  subst he
  exact ⟨_, rfl, post_below (pa := _) hW' (trodAll_cons_mk (shut_bool Try.underlying4 _) trodAll_mk0) (trodAll_cons_mk (Below.trod laidOut (by kernel_rfl) (of_decide_eq_true (by kernel_rfl)) g0 hg (fun x hx => hlt x (by simp [hx]))) trodAll_mk0) rfl (by simp) hg⟩

theorem over : Rows.fnExactValidObservationRow.holds Try.pinned (OpenSpec.ofChange Rows.fnExactValidObservationSpec) :=
  OpenClaim.holds_of_wide 7 Try.f7 rfl rfl rfl rfl rfl rfl rfl ⟨rfl, rfl, rfl, rfl, rfl⟩ rfl rfl rfl rfl rfl (by kernel_rfl) Try.func7 (by kernel_rfl)
    (of_decide_eq_true (by kernel_rfl)) (by unfold Func.isWrapper; first | (rw [if_pos (by decide +kernel)]; kernel_rfl) | (rw [if_neg (by decide +kernel)]; exact ⟨rfl, rfl⟩))
    (fun os started H enc _ => lifted os started H enc)

theorem proved : Rows.FnExactValidObservationSaid := over
#print axioms proved
end fnExactValidObservation

end Go.Proofs.Ytkfgoopmdechaaa
