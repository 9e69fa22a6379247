/-
  ValidPairs: the program's function returns what the reference's returns, for all arguments. Under no condition.
-/
import Derived.Test.YtkfgoopmdechaaaPairs
set_option linter.unusedVariables false
set_option maxRecDepth 100000
set_option linter.unusedSimpArgs false
namespace Go.Proofs.Ytkfgoopmdechaaa
open Go.RowKit BigFrame

theorem szAll_each {α : Type} {f : α → Nat} : ∀ (L : List α) (l : Int), ¬ szAll f l L < 0 → ∀ a ∈ L, (f a : Int) ≤ l
  | [], l, _, a, h => by cases h
  | b :: L, l, h, a, ha => by
    simp only [szAll] at h
    split at h
    · exact absurd (by omega) h
    · rename_i h1
      rcases List.mem_cons.1 ha with rfl | h2
      · omega
      · have := szAll_each L _ h a h2; omega
theorem szS_each {α : Type} {f : α → Nat} {l : Int} {L : List α} (h : ¬ szS f l L < 0) : ∀ a ∈ L, (f a : Int) ≤ l := fun a ha => by
  unfold szS at h
  split at h
  · exact absurd (by omega) h
  · have := szAll_each L _ h a ha; omega
theorem lists_getD (Q : List Row) (k : Nat) : (Q.getD k default).L = (lists Q).getD k [] := by
  unfold lists
  rw [List.getD_eq_getElem?_getD, List.getD_eq_getElem?_getD, List.getElem?_map]
  cases Q[k]? <;> rfl
theorem vPairs_lists {n : Int} {R R2 : List Row} (h : lists R = lists R2) : vPairsM n R = vPairsM n R2 := by
  have hl : R.length = R2.length := by have := congrArg List.length h; simpa [lists] using this
  have he : okPair n R = okPair n R2 := funext fun k => by
    unfold okPair
    rw [lists_getD, lists_getD, lists_getD, lists_getD, h]
  unfold vPairsM
  rw [he, hl]
theorem own : ownKnob Try.prog.godebug = none := by kernel_rfl
theorem laidOut : laidOutB Try.prog = true := by kernel_rfl

namespace fnExactValidPairs
open Go.ChangeShapes Go.WideShapes Go.ChangeAt Go.RowKit
set_option linter.unusedVariables false
set_option maxHeartbeats 3200000 in
theorem walk (W : World) (A0 : Option Addr) (c0 : Nat) (L0 : List Row) (s0 : Sl W W.heap.size A0 (flat Row.cells L0)) (b0 : ∀ r ∈ L0, Row.ok W W.heap.size r) (m0 : L0.length ≤ maxLen) (a1 : Int) (wa1 : IntKind.i64.has a1) :
    Calls Try.prog 5 #[.slice A0 L0.length c0, .int .i64 a1] W fun e w' => e = .returned (.bool true) ∧ Below W.heap.size W w' := by
  have s0' := Lib.hid s0
  have o0 := Lib.hid b0
  clear s0 b0
  have hB0 : Below W.heap.size W W := Below.refl _ _
  obtain ⟨l1, e1⟩ : ∃ l, szS Row.num 1048576 L0 = l := ⟨_, rfl⟩
  go_enter Try.func5, Try.ntmps5
  go_wp2_with fail
  refine (szInt64SS_any L0 _ _ W.heap.size 1048576 _ s0'.out hB0.size o0.out m0 (by omega) (by omega)).mono ?_
  rintro e wa ⟨rfl, rfl⟩
  rw [e1]
  by_cases h1 : l1 < 0
  · clear e1
    go_wp2_with fail
    go_ret
    exact ⟨rfl, hB0⟩
  obtain ⟨g1, g2⟩ := szS_ge (by rw [e1]; exact h1)
  have n1 : Hid (∀ r ∈ L0, r.L.length ≤ 1048576) := Lib.hid fun r hr => by
    have := szS_each (f := Row.num) (by rw [e1]; exact h1) r hr
    have e : r.num = r.L.length := rfl
    omega
  have n0 : L0.length ≤ 1048576 := by omega
  clear e1 g1 g2
  go_wp2_with fail
  clear h1
  refine (toInt64SS_any L0 _ _ W.heap.size _ (s0'.out.below hB0) hB0.size (fun r hr => Row.ok_below (o0.out r hr) hB0) (by assumption) n1.out).mono ?_
  rintro e w1 ⟨Q1, q1, k1, rfl, hb1, hz1, r1, x1⟩
  have hB1 := bnext hB0 hb1
  have r1 := Lib.hid r1
  have x1 := Lib.hid x1
  have q1 := Lib.hid q1
  have N1 : ∀ r ∈ Q1, r.L.length ≤ 1048576 := fun r hr => by
    have hm : r.L ∈ lists L0 := by rw [← q1.out]; exact List.mem_map.2 ⟨r, hr, rfl⟩
    obtain ⟨p, hp, e⟩ := List.mem_map.1 hm
    rw [← e]; exact n1.out p hp
  have N1 := Lib.hid N1
  go_wp2_with fail
  have hsp := fun c => spec_ValidPairs Q1 a1 (some ⟨W.heap.size, 0, none⟩) c w1.heap.size w1 r1.out (Nat.le_refl _) x1.out (by omega) N1.out
  rw [k1] at hsp
  refine (hsp _).mono ?_
  rintro e w3 ⟨rfl, hb3⟩
  have hB3 := bnext hB1 hb3
  clear hsp
  go_wp2_with fail
  refine (toInt64SS_any L0 _ _ W.heap.size _ (s0'.out.below hB3) hB3.size (fun r hr => Row.ok_below (o0.out r hr) hB3) (by assumption) n1.out).mono ?_
  rintro e w4 ⟨Q4, q4, k4, rfl, hb4, hz4, r4, x4⟩
  have hB4 := bnext hB3 hb4
  have r4 := Lib.hid r4
  have x4 := Lib.hid x4
  have q4 := Lib.hid q4
  have N4 : ∀ r ∈ Q4, r.L.length ≤ 1048576 := fun r hr => by
    have hm : r.L ∈ lists L0 := by rw [← q4.out]; exact List.mem_map.2 ⟨r, hr, rfl⟩
    obtain ⟨p, hp, e⟩ := List.mem_map.1 hm
    rw [← e]; exact n1.out p hp
  have N4 := Lib.hid N4
  go_wp2_with fail
  have him := fun c => impl_ValidPairs Q4 a1 (some ⟨w3.heap.size, 0, none⟩) c w4.heap.size w4 r4.out (Nat.le_refl _) x4.out (by omega) N4.out
  rw [k4] at him
  refine (him _).mono ?_
  rintro e w6 ⟨rfl, hb6⟩
  have hB6 := bnext hB4 hb6
  have z6 := hb6.size
  have hvp : Hid (vPairsM a1 Q4 = vPairsM a1 Q1) := Lib.hid (vPairs_lists (q4.out.trans q1.out.symm))
  clear him
  rw [hvp.out]
  go_wp2_with fail
  refine (toInt64SS_any L0 _ _ W.heap.size _ (s0'.out.below hB6) hB6.size (fun r hr => Row.ok_below (o0.out r hr) hB6) (by assumption) n1.out).mono ?_
  rintro e w7 ⟨Q7, q7, k7, rfl, hb7, hz7, r7, x7⟩
  have hB7 := bnext hB6 hb7
  have r7 := Lib.hid r7
  have x7 := Lib.hid x7
  have q7 := Lib.hid q7
  have N7 : ∀ r ∈ Q7, r.L.length ≤ 1048576 := fun r hr => by
    have hm : r.L ∈ lists L0 := by rw [← q7.out]; exact List.mem_map.2 ⟨r, hr, rfl⟩
    obtain ⟨p, hp, e⟩ := List.mem_map.1 hm
    rw [← e]; exact n1.out p hp
  have N7 := Lib.hid N7
  go_wp2_with fail
  have z7 := hb7.size
  have heq := fun c c2 => eqInt64SS_same Q4 Q7 (some ⟨w3.heap.size, 0, none⟩) (some ⟨w6.heap.size, 0, none⟩) c c2 w7 (((r4.out.below hb6).below (hb7.mono z6)).more (by omega)) r7.out (fun r hr => ⟨(((x4.out r hr).1.below hb6).below (hb7.mono z6)).more (by omega), (x4.out r hr).2⟩) x7.out (q7.out.trans q4.out.symm) (by omega) (by omega) N4.out
  rw [k4] at heq
  refine (heq _ _).mono ?_
  rintro e w8 ⟨rfl, hb8⟩
  go_wp2_with fail
  go_ret
  exact ⟨rfl, bnext hB7 hb8⟩

theorem lifted (os : Os) (started : os.Started) (H : Type) (enc : TypeId × Value → H) :
    ReturnsInHanded {} Try.checked os 5 .any (Rows.fnExactValidPairsSpec.pre6 enc Try.prog Try.f5 Rows.fnExactValidPairsRow.domain false) (Rows.fnExactValidPairsSpec.post enc Try.prog Try.f5 false true false false) := by
  refine returnsInHanded_of_change (C := Try.checked) own started (by kernel_rfl) Try.func5
    (ChangeSpec.witness6 (enc := enc) (C := Try.checked) false ⟨#[], #[.slice none 0 0, .int .i64 0], []⟩ 8 (by kernel_rfl) (by kernel_rfl) (by kernel_rfl) (by kernel_rfl)) ?_
  intro W base args ds gs before hval0 hW hcnd _
  have hval : ∀ (j : Nat) t v, Try.f5.params[j]? = some t → args[j]? = some v → Value.okWide Try.prog W .any base t v := hval0
  have hW' := hW
  obtain ⟨p, q, hA0, hV, rfl, hfz, hnd⟩ := hW
  have hA : DataW.TrodAll enc Try.prog W 0 (fun _ => true) true Try.f5.params.toList args.toList ds p := hA0
  rw [Try.params5] at hA hval
  obtain ⟨v0, vs0, d0, ds0, p0, q0, hargs, rfl, rfl, h0, r0⟩ := trodAll_cons hA
  obtain ⟨v1, vs1, d1, ds1, p1, q1, rfl, rfl, rfl, h1, r1⟩ := trodAll_cons r0
  obtain ⟨rfl, rfl, rfl⟩ := trodAll_nil r1
  obtain rfl : args = #[v0, v1] := by cases args; simp_all
  have g0 := h0
  have g1 := h1
  obtain ⟨rfl, rfl⟩ := trodVars_none hV
  clear hA0 hval0
  simp only [List.append_nil] at hW'
  have hlt : ∀ x ∈ p0 ++ (p1), x.block < W.heap.size := fun x hx => by simpa using hW'.lt x (by simpa using hx)
  obtain ⟨fu0, hf0⟩ := h0
  obtain ⟨A0, c0, L0, hv0, s0, b0, m0⟩ := open_rows Try.underlying22 Try.underlying54 Try.underlying2 (by kernel_rfl) (by kernel_rfl) hf0
  obtain ⟨va0, vl0, vc0, rfl⟩ := Go.WideShapes.okWide_slice Try.underlying22 (hval 0 22 _ rfl rfl)
  obtain ⟨rfl, rfl, rfl⟩ : A0 = va0 ∧ L0.length = vl0 ∧ c0 = vc0 := by have := hv0; simp [Value.cells] at this; exact ⟨this.1.symm, this.2.1.symm, this.2.2.symm⟩
  obtain ⟨a1, rfl, wa1⟩ := value_int Try.underlying2 (hval 1 2 _ rfl rfl)
  refine (walk W A0 c0 L0 s0 b0 m0 a1 wa1).mono fun e W' ⟨he, hg⟩ => ?_
  subst he
  exact ⟨_, rfl, post_below (pa := _) hW' (trodAll_cons_mk (shut_bool Try.underlying4 _) trodAll_mk0) (trodAll_cons_mk (Below.trod laidOut (by kernel_rfl) (of_decide_eq_true (by kernel_rfl)) g0 hg (fun x hx => hlt x (by simp [hx]))) (trodAll_cons_mk (Below.trod laidOut (by kernel_rfl) (of_decide_eq_true (by kernel_rfl)) g1 hg (fun x hx => hlt x (by simp [hx]))) trodAll_mk0)) rfl (by simp) hg⟩

theorem over : Rows.fnExactValidPairsRow.holds Try.pinned (OpenSpec.ofChange Rows.fnExactValidPairsSpec) :=
  OpenClaim.holds_of_wide 5 Try.f5 rfl rfl rfl rfl rfl rfl rfl ⟨rfl, rfl, rfl, rfl, rfl⟩ rfl rfl rfl rfl rfl (by kernel_rfl) Try.func5 (by kernel_rfl)
    (of_decide_eq_true (by kernel_rfl)) (by unfold Func.isWrapper; first | (rw [if_pos (by decide +kernel)]; kernel_rfl) | (rw [if_neg (by decide +kernel)]; exact ⟨rfl, rfl⟩))
    (fun os started H enc _ => lifted os started H enc)

theorem proved : Rows.FnExactValidPairsSaid := over
#print axioms proved
end fnExactValidPairs

end Go.Proofs.Ytkfgoopmdechaaa
