/-
  RearAbove, LeastRear, BandAt: the program's function returns what the reference's returns, for all arguments. Under no condition.
-/
import Derived.Test.YtekfpclkdijleaaLead4
import Derived.Test.YtekfpclkdijleaaLead5
set_option linter.unusedVariables false
set_option maxRecDepth 100000
set_option linter.unusedSimpArgs false
namespace Go.Proofs.Ytekfpclkdijleaa
theorem own : ownKnob Try.prog.godebug = none := by kernel_rfl
theorem laidOut : laidOutB Try.prog = true := by kernel_rfl

namespace fnExactRearAbove
open Go.ChangeShapes Go.WideShapes Go.ChangeAt Go.RowKit
set_option linter.unusedVariables false
theorem walk (W : World) (a0_0 : Int) (wa0_0 : IntKind.i64.has a0_0) (a0_1 : Int) (wa0_1 : IntKind.i64.has a0_1) (a0_2 : Int) (wa0_2 : IntKind.i64.has a0_2) (a0_3 : Int) (wa0_3 : IntKind.i64.has a0_3) (a0_4 : Int) (wa0_4 : IntKind.i64.has a0_4) (a0_5 : Int) (wa0_5 : IntKind.i64.has a0_5) (a1_0 : Int) (wa1_0 : IntKind.i64.has a1_0) (a1_1 : Int) (wa1_1 : IntKind.i64.has a1_1) (a2 : Int) (wa2 : IntKind.i64.has a2) :
    Calls Try.prog 11 #[.agg #[.int .i64 a0_0, .int .i64 a0_1, .int .i64 a0_2, .int .i64 a0_3, .int .i64 a0_4, .int .i64 a0_5], .agg #[.int .i64 a1_0, .int .i64 a1_1], .int .i64 a2] W fun e w' => e = .returned (.bool true) ∧ Below W.heap.size W w' := by
  revert W
  intro w
  have hq1 : w.heap.size < w.heap.size + 1 + 1 := by omega
  go_enter Try.func11, Try.ntmps11
  go_wp2_with fail
  refine wp_region_grew (by kernel_rfl) (by kernel_rfl) ?_
  repeat (first | (go_big_quiet_step ((first | (go_at_call 25; exact grew_of (toLeading_any _ _ _ _ _ _ _)) | (go_at_call 28; exact grew_of (toPoint_any _ _ _)) | (go_at_call 35; exact grew_of (spec_RearAbove _ _ _ _ _ _ _ _ _ _))))) | (quiet_step ((first | (go_at_call 25; exact grew_of (toLeading_any _ _ _ _ _ _ _)) | (go_at_call 28; exact grew_of (toPoint_any _ _ _)) | (go_at_call 35; exact grew_of (spec_RearAbove _ _ _ _ _ _ _ _ _ _))))))
  refine wpQuiet_nil ?_
  rintro _ ⟨⟨w1, hb1⟩, rfl⟩
  try dsimp only
  obtain ⟨hc1, hf1⟩ := bcell hb1
  have hz1 : w.heap.size < _ := Nat.lt_of_lt_of_le (by simp only [World.size_alloc]; omega) hb1.size
  have hy1 : w.heap.size + 1 < _ := Nat.lt_of_lt_of_le (by simp only [World.size_alloc]; omega) hb1.size
  go_wp2_with fail
  refine wp_region_grew (by kernel_rfl) (by kernel_rfl) ?_
  repeat (first | (go_big_quiet_step ((first | (go_at_call 25; exact grew_of (toLeading_any _ _ _ _ _ _ _)) | (go_at_call 28; exact grew_of (toPoint_any _ _ _)) | (go_at_call 23; exact grew_of (impl_RearAbove _ _ _ _ _ _ _ _ _ _))))) | (quiet_step ((first | (go_at_call 25; exact grew_of (toLeading_any _ _ _ _ _ _ _)) | (go_at_call 28; exact grew_of (toPoint_any _ _ _)) | (go_at_call 23; exact grew_of (impl_RearAbove _ _ _ _ _ _ _ _ _ _))))))
  refine wpQuiet_nil ?_
  rintro _ ⟨⟨w2, hb2⟩, rfl⟩
  try dsimp only
  obtain ⟨hc2, hf2⟩ := bcell hb2
  go_wp2
  go_ret
  exact ⟨rfl, bnext (bnext (by go_grown) hb1) hb2⟩

theorem lifted (os : Os) (started : os.Started) (H : Type) (enc : TypeId × Value → H) :
    ReturnsInHanded {} Try.checked os 11 .any (Rows.fnExactRearAboveSpec.pre6 enc Try.prog Try.f11 Rows.fnExactRearAboveRow.domain false) (Rows.fnExactRearAboveSpec.post enc Try.prog Try.f11 false true false false) := by
  refine returnsInHanded_of_change (C := Try.checked) own started (by kernel_rfl) Try.func11
    (ChangeSpec.witness6 (enc := enc) (C := Try.checked) false ⟨#[], #[.agg #[.int .i64 0, .int .i64 0, .int .i64 0, .int .i64 0, .int .i64 0, .int .i64 0], .agg #[.int .i64 0, .int .i64 0], .int .i64 0], []⟩ 8 (by kernel_rfl) (by kernel_rfl) (by kernel_rfl) (by kernel_rfl)) ?_
  intro W base args ds gs before hval0 hW hcnd _
  have hval : ∀ (j : Nat) t v, Try.f11.params[j]? = some t → args[j]? = some v → Value.okWide Try.prog W .any base t v := hval0
  have hW' := hW
  obtain ⟨p, q, hA0, hV, rfl, hfz, hnd⟩ := hW
  have hA : DataW.TrodAll enc Try.prog W 0 (fun _ => true) true Try.f11.params.toList args.toList ds p := hA0
  rw [Try.params11] at hA hval
  obtain ⟨v0, vs0, d0, ds0, p0, q0, hargs, rfl, rfl, h0, r0⟩ := trodAll_cons hA
  obtain ⟨v1, vs1, d1, ds1, p1, q1, rfl, rfl, rfl, h1, r1⟩ := trodAll_cons r0
  obtain ⟨v2, vs2, d2, ds2, p2, q2, rfl, rfl, rfl, h2, r2⟩ := trodAll_cons r1
  obtain ⟨rfl, rfl, rfl⟩ := trodAll_nil r2
  obtain rfl : args = #[v0, v1, v2] := by cases args; simp_all
  have g0 := h0
  have g1 := h1
  have g2 := h2
  obtain ⟨rfl, rfl⟩ := trodVars_none hV
  clear hA0 hval0
  simp only [List.append_nil] at hW'
  have hlt : ∀ x ∈ p0 ++ (p1 ++ (p2)), x.block < W.heap.size := fun x hx => by simpa using hW'.lt x (by simpa using hx)
  obtain ⟨cs0, rfl, k0_0⟩ := open_struct Try.underlying39 (ts := [2, 2, 2, 2, 2, 2]) (by kernel_rfl) (hval 0 39 _ rfl rfl)
  obtain ⟨c0_0, cs0_0, rfl, q0_0, k0_1⟩ := okCells_cons k0_0
  obtain ⟨c0_1, cs0_1, rfl, q0_1, k0_2⟩ := okCells_cons k0_1
  obtain ⟨c0_2, cs0_2, rfl, q0_2, k0_3⟩ := okCells_cons k0_2
  obtain ⟨c0_3, cs0_3, rfl, q0_3, k0_4⟩ := okCells_cons k0_3
  obtain ⟨c0_4, cs0_4, rfl, q0_4, k0_5⟩ := okCells_cons k0_4
  obtain ⟨c0_5, cs0_5, rfl, q0_5, k0_6⟩ := okCells_cons k0_5
  obtain rfl := okCells_nil k0_6
  obtain ⟨a0_0, rfl, wa0_0⟩ := cell_int Try.underlying2 q0_0
  obtain ⟨a0_1, rfl, wa0_1⟩ := cell_int Try.underlying2 q0_1
  obtain ⟨a0_2, rfl, wa0_2⟩ := cell_int Try.underlying2 q0_2
  obtain ⟨a0_3, rfl, wa0_3⟩ := cell_int Try.underlying2 q0_3
  obtain ⟨a0_4, rfl, wa0_4⟩ := cell_int Try.underlying2 q0_4
  obtain ⟨a0_5, rfl, wa0_5⟩ := cell_int Try.underlying2 q0_5
  obtain ⟨cs1, rfl, k1_0⟩ := open_struct Try.underlying37 (ts := [2, 2]) (by kernel_rfl) (hval 1 37 _ rfl rfl)
  obtain ⟨c1_0, cs1_0, rfl, q1_0, k1_1⟩ := okCells_cons k1_0
  obtain ⟨c1_1, cs1_1, rfl, q1_1, k1_2⟩ := okCells_cons k1_1
  obtain rfl := okCells_nil k1_2
  obtain ⟨a1_0, rfl, wa1_0⟩ := cell_int Try.underlying2 q1_0
  obtain ⟨a1_1, rfl, wa1_1⟩ := cell_int Try.underlying2 q1_1
  obtain ⟨a2, rfl, wa2⟩ := value_int Try.underlying2 (hval 2 2 _ rfl rfl)
  refine (walk W a0_0 wa0_0 a0_1 wa0_1 a0_2 wa0_2 a0_3 wa0_3 a0_4 wa0_4 a0_5 wa0_5 a1_0 wa1_0 a1_1 wa1_1 a2 wa2).mono fun e W' ⟨he, hg⟩ => ?_
  subst he
  exact ⟨_, rfl, post_below (pa := _) hW' (trodAll_cons_mk (shut_bool Try.underlying4 _) trodAll_mk0) (trodAll_cons_mk (Below.trod laidOut (by kernel_rfl) (of_decide_eq_true (by kernel_rfl)) g0 hg (fun x hx => hlt x (by simp [hx]))) (trodAll_cons_mk (Below.trod laidOut (by kernel_rfl) (of_decide_eq_true (by kernel_rfl)) g1 hg (fun x hx => hlt x (by simp [hx]))) (trodAll_cons_mk (Below.trod laidOut (by kernel_rfl) (of_decide_eq_true (by kernel_rfl)) g2 hg (fun x hx => hlt x (by simp [hx]))) trodAll_mk0))) rfl (by simp) hg⟩

theorem over : Rows.fnExactRearAboveRow.holds Try.pinned (OpenSpec.ofChange Rows.fnExactRearAboveSpec) :=
  OpenClaim.holds_of_wide 11 Try.f11 rfl rfl rfl rfl rfl rfl rfl ⟨rfl, rfl, rfl, rfl, rfl⟩ rfl rfl rfl rfl rfl (by kernel_rfl) Try.func11 (by kernel_rfl)
    (of_decide_eq_true (by kernel_rfl)) (by unfold Func.isWrapper; first | (rw [if_pos (by decide +kernel)]; kernel_rfl) | (rw [if_neg (by decide +kernel)]; exact ⟨rfl, rfl⟩))
    (fun os started H enc _ => lifted os started H enc)

theorem proved : Rows.FnExactRearAboveSaid := over
#print axioms proved
end fnExactRearAbove


namespace fnExactLeastRear
open Go.ChangeShapes Go.WideShapes Go.ChangeAt Go.RowKit
set_option linter.unusedVariables false
theorem walk (W : World) (a0_0 : Int) (wa0_0 : IntKind.i64.has a0_0) (a0_1 : Int) (wa0_1 : IntKind.i64.has a0_1) (a0_2 : Int) (wa0_2 : IntKind.i64.has a0_2) (a0_3 : Int) (wa0_3 : IntKind.i64.has a0_3) (a0_4 : Int) (wa0_4 : IntKind.i64.has a0_4) (a0_5 : Int) (wa0_5 : IntKind.i64.has a0_5) (a1_0 : Int) (wa1_0 : IntKind.i64.has a1_0) (a1_1 : Int) (wa1_1 : IntKind.i64.has a1_1) (a2 : Int) (wa2 : IntKind.i64.has a2) :
    Calls Try.prog 13 #[.agg #[.int .i64 a0_0, .int .i64 a0_1, .int .i64 a0_2, .int .i64 a0_3, .int .i64 a0_4, .int .i64 a0_5], .agg #[.int .i64 a1_0, .int .i64 a1_1], .int .i64 a2] W fun e w' => e = .returned (.bool true) ∧ Below W.heap.size W w' := by
  revert W
  intro w
  have hq1 : w.heap.size < w.heap.size + 1 + 1 := by omega
  go_enter Try.func13, Try.ntmps13
  go_wp2_with fail
  refine wp_region_grew (by kernel_rfl) (by kernel_rfl) ?_
  repeat (first | (go_big_quiet_step ((first | (go_at_call 25; exact grew_of (toLeading_any _ _ _ _ _ _ _)) | (go_at_call 28; exact grew_of (toPoint_any _ _ _)) | (go_at_call 39; exact grew_of (spec_LeastRear _ _ _ _ _ _ _ _ _ _))))) | (quiet_step ((first | (go_at_call 25; exact grew_of (toLeading_any _ _ _ _ _ _ _)) | (go_at_call 28; exact grew_of (toPoint_any _ _ _)) | (go_at_call 39; exact grew_of (spec_LeastRear _ _ _ _ _ _ _ _ _ _))))))
  refine wpQuiet_nil ?_
  rintro _ ⟨⟨w1, hb1⟩, rfl⟩
  try dsimp only
  obtain ⟨hc1, hf1⟩ := bcell hb1
  have hz1 : w.heap.size < _ := Nat.lt_of_lt_of_le (by simp only [World.size_alloc]; omega) hb1.size
  have hy1 : w.heap.size + 1 < _ := Nat.lt_of_lt_of_le (by simp only [World.size_alloc]; omega) hb1.size
  go_wp2_with fail
  refine wp_region_grew (by kernel_rfl) (by kernel_rfl) ?_
  repeat (first | (go_big_quiet_step ((first | (go_at_call 25; exact grew_of (toLeading_any _ _ _ _ _ _ _)) | (go_at_call 28; exact grew_of (toPoint_any _ _ _)) | (go_at_call 22; exact grew_of (impl_LeastRear _ _ _ _ _ _ _ _ _ _))))) | (quiet_step ((first | (go_at_call 25; exact grew_of (toLeading_any _ _ _ _ _ _ _)) | (go_at_call 28; exact grew_of (toPoint_any _ _ _)) | (go_at_call 22; exact grew_of (impl_LeastRear _ _ _ _ _ _ _ _ _ _))))))
  refine wpQuiet_nil ?_
  rintro _ ⟨⟨w2, hb2⟩, rfl⟩
  try dsimp only
  obtain ⟨hc2, hf2⟩ := bcell hb2
  go_wp2
  go_ret
  exact ⟨rfl, bnext (bnext (by go_grown) hb1) hb2⟩

theorem lifted (os : Os) (started : os.Started) (H : Type) (enc : TypeId × Value → H) :
    ReturnsInHanded {} Try.checked os 13 .any (Rows.fnExactLeastRearSpec.pre6 enc Try.prog Try.f13 Rows.fnExactLeastRearRow.domain false) (Rows.fnExactLeastRearSpec.post enc Try.prog Try.f13 false true false false) := by
  refine returnsInHanded_of_change (C := Try.checked) own started (by kernel_rfl) Try.func13
    (ChangeSpec.witness6 (enc := enc) (C := Try.checked) false ⟨#[], #[.agg #[.int .i64 0, .int .i64 0, .int .i64 0, .int .i64 0, .int .i64 0, .int .i64 0], .agg #[.int .i64 0, .int .i64 0], .int .i64 0], []⟩ 8 (by kernel_rfl) (by kernel_rfl) (by kernel_rfl) (by kernel_rfl)) ?_
  intro W base args ds gs before hval0 hW hcnd _
  have hval : ∀ (j : Nat) t v, Try.f13.params[j]? = some t → args[j]? = some v → Value.okWide Try.prog W .any base t v := hval0
  have hW' := hW
  obtain ⟨p, q, hA0, hV, rfl, hfz, hnd⟩ := hW
  have hA : DataW.TrodAll enc Try.prog W 0 (fun _ => true) true Try.f13.params.toList args.toList ds p := hA0
  rw [Try.params13] at hA hval
  obtain ⟨v0, vs0, d0, ds0, p0, q0, hargs, rfl, rfl, h0, r0⟩ := trodAll_cons hA
  obtain ⟨v1, vs1, d1, ds1, p1, q1, rfl, rfl, rfl, h1, r1⟩ := trodAll_cons r0
  obtain ⟨v2, vs2, d2, ds2, p2, q2, rfl, rfl, rfl, h2, r2⟩ := trodAll_cons r1
  obtain ⟨rfl, rfl, rfl⟩ := trodAll_nil r2
  obtain rfl : args = #[v0, v1, v2] := by cases args; simp_all
  have g0 := h0
  have g1 := h1
  have g2 := h2
  obtain ⟨rfl, rfl⟩ := trodVars_none hV
  clear hA0 hval0
  simp only [List.append_nil] at hW'
  have hlt : ∀ x ∈ p0 ++ (p1 ++ (p2)), x.block < W.heap.size := fun x hx => by simpa using hW'.lt x (by simpa using hx)
  obtain ⟨cs0, rfl, k0_0⟩ := open_struct Try.underlying39 (ts := [2, 2, 2, 2, 2, 2]) (by kernel_rfl) (hval 0 39 _ rfl rfl)
  obtain ⟨c0_0, cs0_0, rfl, q0_0, k0_1⟩ := okCells_cons k0_0
  obtain ⟨c0_1, cs0_1, rfl, q0_1, k0_2⟩ := okCells_cons k0_1
  obtain ⟨c0_2, cs0_2, rfl, q0_2, k0_3⟩ := okCells_cons k0_2
  obtain ⟨c0_3, cs0_3, rfl, q0_3, k0_4⟩ := okCells_cons k0_3
  obtain ⟨c0_4, cs0_4, rfl, q0_4, k0_5⟩ := okCells_cons k0_4
  obtain ⟨c0_5, cs0_5, rfl, q0_5, k0_6⟩ := okCells_cons k0_5
  obtain rfl := okCells_nil k0_6
  obtain ⟨a0_0, rfl, wa0_0⟩ := cell_int Try.underlying2 q0_0
  obtain ⟨a0_1, rfl, wa0_1⟩ := cell_int Try.underlying2 q0_1
  obtain ⟨a0_2, rfl, wa0_2⟩ := cell_int Try.underlying2 q0_2
  obtain ⟨a0_3, rfl, wa0_3⟩ := cell_int Try.underlying2 q0_3
  obtain ⟨a0_4, rfl, wa0_4⟩ := cell_int Try.underlying2 q0_4
  obtain ⟨a0_5, rfl, wa0_5⟩ := cell_int Try.underlying2 q0_5
  obtain ⟨cs1, rfl, k1_0⟩ := open_struct Try.underlying37 (ts := [2, 2]) (by kernel_rfl) (hval 1 37 _ rfl rfl)
  obtain ⟨c1_0, cs1_0, rfl, q1_0, k1_1⟩ := okCells_cons k1_0
  obtain ⟨c1_1, cs1_1, rfl, q1_1, k1_2⟩ := okCells_cons k1_1
  obtain rfl := okCells_nil k1_2
  obtain ⟨a1_0, rfl, wa1_0⟩ := cell_int Try.underlying2 q1_0
  obtain ⟨a1_1, rfl, wa1_1⟩ := cell_int Try.underlying2 q1_1
  obtain ⟨a2, rfl, wa2⟩ := value_int Try.underlying2 (hval 2 2 _ rfl rfl)
  refine (walk W a0_0 wa0_0 a0_1 wa0_1 a0_2 wa0_2 a0_3 wa0_3 a0_4 wa0_4 a0_5 wa0_5 a1_0 wa1_0 a1_1 wa1_1 a2 wa2).mono fun e W' ⟨he, hg⟩ => ?_
  subst he
  exact ⟨_, rfl, post_below (pa := _) hW' (trodAll_cons_mk (shut_bool Try.underlying4 _) trodAll_mk0) (trodAll_cons_mk (Below.trod laidOut (by kernel_rfl) (of_decide_eq_true (by kernel_rfl)) g0 hg (fun x hx => hlt x (by simp [hx]))) (trodAll_cons_mk (Below.trod laidOut (by kernel_rfl) (of_decide_eq_true (by kernel_rfl)) g1 hg (fun x hx => hlt x (by simp [hx]))) (trodAll_cons_mk (Below.trod laidOut (by kernel_rfl) (of_decide_eq_true (by kernel_rfl)) g2 hg (fun x hx => hlt x (by simp [hx]))) trodAll_mk0))) rfl (by simp) hg⟩

theorem over : Rows.fnExactLeastRearRow.holds Try.pinned (OpenSpec.ofChange Rows.fnExactLeastRearSpec) :=
  OpenClaim.holds_of_wide 13 Try.f13 rfl rfl rfl rfl rfl rfl rfl ⟨rfl, rfl, rfl, rfl, rfl⟩ rfl rfl rfl rfl rfl (by kernel_rfl) Try.func13 (by kernel_rfl)
    (of_decide_eq_true (by kernel_rfl)) (by unfold Func.isWrapper; first | (rw [if_pos (by decide +kernel)]; kernel_rfl) | (rw [if_neg (by decide +kernel)]; exact ⟨rfl, rfl⟩))
    (fun os started H enc _ => lifted os started H enc)

theorem proved : Rows.FnExactLeastRearSaid := over
#print axioms proved
end fnExactLeastRear


namespace fnExactBandAt
open Go.ChangeShapes Go.WideShapes Go.ChangeAt Go.RowKit
set_option linter.unusedVariables false
theorem walk (W : World) (a0_0 : Int) (wa0_0 : IntKind.i64.has a0_0) (a0_1 : Int) (wa0_1 : IntKind.i64.has a0_1) (a0_2 : Int) (wa0_2 : IntKind.i64.has a0_2) (a0_3 : Int) (wa0_3 : IntKind.i64.has a0_3) (a0_4 : Int) (wa0_4 : IntKind.i64.has a0_4) (a0_5 : Int) (wa0_5 : IntKind.i64.has a0_5) (a1 : Int) (wa1 : IntKind.i64.has a1) (a2 : Int) (wa2 : IntKind.i64.has a2) :
    Calls Try.prog 6 #[.agg #[.int .i64 a0_0, .int .i64 a0_1, .int .i64 a0_2, .int .i64 a0_3, .int .i64 a0_4, .int .i64 a0_5], .int .i64 a1, .int .i64 a2] W fun e w' => e = .returned (.bool true) ∧ Below W.heap.size W w' := by
  revert W
  intro w
  go_enter Try.func6, Try.ntmps6
  go_wp2_with (first | (go_at_call 25; refine (toLeading_any _ _ _ _ _ _ _).mono ?_; rintro e w1 ⟨rfl, hb1⟩; have hB1 := bnext (w := w) (by go_grown) hb1; have hS1 := hB1.size; ((have hz1 : w.heap.size < w1.heap.size := by have := hb1.size; (try simp only [World.size_alloc, World.size_setCell, World.size_drew] at this); omega)); obtain ⟨hc1, hf1⟩ := bcell hb1; clear hb1) | (go_at_call 29; refine (spec_BandAt _ _ _ _ _ _ _ _ _).mono ?_; rintro e w1 ⟨rfl, hb1⟩; have hB1 := bnext (w := w) (by go_grown) hb1; have hS1 := hB1.size; ((have hz1 : w.heap.size < w1.heap.size := by have := hb1.size; (try simp only [World.size_alloc, World.size_setCell, World.size_drew] at this); omega)); obtain ⟨hc1, hf1⟩ := bcell hb1; clear hb1) | (go_at_call 21; refine (impl_BandAt _ _ _ _ _ _ _ _ _).mono ?_; rintro e w1 ⟨rfl, hb1⟩; have hB1 := bnext (w := w) (by go_grown) hb1; have hS1 := hB1.size; ((have hz1 : w.heap.size < w1.heap.size := by have := hb1.size; (try simp only [World.size_alloc, World.size_setCell, World.size_drew] at this); omega)); obtain ⟨hc1, hf1⟩ := bcell hb1; clear hb1))
  go_ret
  exact ⟨rfl, by go_grown⟩

theorem lifted (os : Os) (started : os.Started) (H : Type) (enc : TypeId × Value → H) :
    ReturnsInHanded {} Try.checked os 6 .any (Rows.fnExactBandAtSpec.pre6 enc Try.prog Try.f6 Rows.fnExactBandAtRow.domain false) (Rows.fnExactBandAtSpec.post enc Try.prog Try.f6 false true false false) := by
  refine returnsInHanded_of_change (C := Try.checked) own started (by kernel_rfl) Try.func6
    (ChangeSpec.witness6 (enc := enc) (C := Try.checked) false ⟨#[], #[.agg #[.int .i64 0, .int .i64 0, .int .i64 0, .int .i64 0, .int .i64 0, .int .i64 0], .int .i64 0, .int .i64 0], []⟩ 8 (by kernel_rfl) (by kernel_rfl) (by kernel_rfl) (by kernel_rfl)) ?_
  intro W base args ds gs before hval0 hW hcnd _
  have hval : ∀ (j : Nat) t v, Try.f6.params[j]? = some t → args[j]? = some v → Value.okWide Try.prog W .any base t v := hval0
  have hW' := hW
  obtain ⟨p, q, hA0, hV, rfl, hfz, hnd⟩ := hW
  have hA : DataW.TrodAll enc Try.prog W 0 (fun _ => true) true Try.f6.params.toList args.toList ds p := hA0
  rw [Try.params6] at hA hval
  obtain ⟨v0, vs0, d0, ds0, p0, q0, hargs, rfl, rfl, h0, r0⟩ := trodAll_cons hA
  obtain ⟨v1, vs1, d1, ds1, p1, q1, rfl, rfl, rfl, h1, r1⟩ := trodAll_cons r0
  obtain ⟨v2, vs2, d2, ds2, p2, q2, rfl, rfl, rfl, h2, r2⟩ := trodAll_cons r1
  obtain ⟨rfl, rfl, rfl⟩ := trodAll_nil r2
  obtain rfl : args = #[v0, v1, v2] := by cases args; simp_all
  have g0 := h0
  have g1 := h1
  have g2 := h2
  obtain ⟨rfl, rfl⟩ := trodVars_none hV
  clear hA0 hval0
  simp only [List.append_nil] at hW'
  have hlt : ∀ x ∈ p0 ++ (p1 ++ (p2)), x.block < W.heap.size := fun x hx => by simpa using hW'.lt x (by simpa using hx)
  obtain ⟨cs0, rfl, k0_0⟩ := open_struct Try.underlying39 (ts := [2, 2, 2, 2, 2, 2]) (by kernel_rfl) (hval 0 39 _ rfl rfl)
  obtain ⟨c0_0, cs0_0, rfl, q0_0, k0_1⟩ := okCells_cons k0_0
  obtain ⟨c0_1, cs0_1, rfl, q0_1, k0_2⟩ := okCells_cons k0_1
  obtain ⟨c0_2, cs0_2, rfl, q0_2, k0_3⟩ := okCells_cons k0_2
  obtain ⟨c0_3, cs0_3, rfl, q0_3, k0_4⟩ := okCells_cons k0_3
  obtain ⟨c0_4, cs0_4, rfl, q0_4, k0_5⟩ := okCells_cons k0_4
  obtain ⟨c0_5, cs0_5, rfl, q0_5, k0_6⟩ := okCells_cons k0_5
  obtain rfl := okCells_nil k0_6
  obtain ⟨a0_0, rfl, wa0_0⟩ := cell_int Try.underlying2 q0_0
  obtain ⟨a0_1, rfl, wa0_1⟩ := cell_int Try.underlying2 q0_1
  obtain ⟨a0_2, rfl, wa0_2⟩ := cell_int Try.underlying2 q0_2
  obtain ⟨a0_3, rfl, wa0_3⟩ := cell_int Try.underlying2 q0_3
  obtain ⟨a0_4, rfl, wa0_4⟩ := cell_int Try.underlying2 q0_4
  obtain ⟨a0_5, rfl, wa0_5⟩ := cell_int Try.underlying2 q0_5
  obtain ⟨a1, rfl, wa1⟩ := value_int Try.underlying2 (hval 1 2 _ rfl rfl)
  obtain ⟨a2, rfl, wa2⟩ := value_int Try.underlying2 (hval 2 2 _ rfl rfl)
  refine (walk W a0_0 wa0_0 a0_1 wa0_1 a0_2 wa0_2 a0_3 wa0_3 a0_4 wa0_4 a0_5 wa0_5 a1 wa1 a2 wa2).mono fun e W' ⟨he, hg⟩ => ?_
  subst he
  exact ⟨_, rfl, post_below (pa := _) hW' (trodAll_cons_mk (shut_bool Try.underlying4 _) trodAll_mk0) (trodAll_cons_mk (Below.trod laidOut (by kernel_rfl) (of_decide_eq_true (by kernel_rfl)) g0 hg (fun x hx => hlt x (by simp [hx]))) (trodAll_cons_mk (Below.trod laidOut (by kernel_rfl) (of_decide_eq_true (by kernel_rfl)) g1 hg (fun x hx => hlt x (by simp [hx]))) (trodAll_cons_mk (Below.trod laidOut (by kernel_rfl) (of_decide_eq_true (by kernel_rfl)) g2 hg (fun x hx => hlt x (by simp [hx]))) trodAll_mk0))) rfl (by simp) hg⟩

theorem over : Rows.fnExactBandAtRow.holds Try.pinned (OpenSpec.ofChange Rows.fnExactBandAtSpec) :=
  OpenClaim.holds_of_wide 6 Try.f6 rfl rfl rfl rfl rfl rfl rfl ⟨rfl, rfl, rfl, rfl, rfl⟩ rfl rfl rfl rfl rfl (by kernel_rfl) Try.func6 (by kernel_rfl)
    (of_decide_eq_true (by kernel_rfl)) (by unfold Func.isWrapper; first | (rw [if_pos (by decide +kernel)]; kernel_rfl) | (rw [if_neg (by decide +kernel)]; exact ⟨rfl, rfl⟩))
    (fun os started H enc _ => lifted os started H enc)

theorem proved : Rows.FnExactBandAtSaid := over
#print axioms proved
end fnExactBandAt

end Go.Proofs.Ytekfpclkdijleaa
