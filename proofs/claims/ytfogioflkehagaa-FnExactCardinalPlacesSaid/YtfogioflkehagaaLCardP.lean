/-
  CardinalPlaces: the program's function returns what the reference's returns, for all arguments, in a row of its own. Under no condition.
-/
import Derived.Test.YtfogioflkehagaaCardP
set_option linter.unusedVariables false
set_option linter.unnecessarySimpa false
set_option maxRecDepth 100000
set_option linter.unusedSimpArgs false
namespace Go.Proofs.Ytfogioflkehagaa
open Go.RowKit BigFrame
theorem eqPointS_nil (c c2 : Nat) (w : World) : Calls Try.prog 46 #[.slice none 0 c, .slice none 0 c2] w fun e w' => e = .returned (.bool true) ∧ Below w.heap.size w w' :=
  eqPointS_same [] none none c c2 0 w (fun h => absurd rfl h) (fun h => absurd rfl h) (Nat.zero_le _) (by simp)
theorem Rw.far {w w' : World} {g k : Nat} {L : List (Int × Int)} (h : Rw w g L) (hg : w.grownBy w' (some k)) (hne : g ≠ k) : Rw w' g L :=
  ⟨Nat.lt_of_lt_of_le h.1 hg.size, fun j u hu => (hg.cell_far ⟨g, j, none⟩ h.1 (by simpa using hne)).trans (h.2.1 j u hu), fun j => (hg.frozen_far ⟨g, j, none⟩ h.1 (by simpa using hne)).trans (h.2.2 j)⟩
theorem Dn.far {w w' : World} {g k : Nat} {s : ByteArray} {x y r : Int} (h : Dn w g 0 s x y r) (hg : w.grownBy w' (some k)) (hne : g ≠ k) : Dn w' g 0 s x y r := by
  obtain ⟨h0, c0, c1, c2, c3⟩ := h
  exact ⟨Nat.lt_of_lt_of_le h0 hg.size, (hg.cell_far ⟨g, _, none⟩ h0 (by simpa using hne)).trans c0, (hg.cell_far ⟨g, _, none⟩ h0 (by simpa using hne)).trans c1, (hg.cell_far ⟨g, _, none⟩ h0 (by simpa using hne)).trans c2, (hg.cell_far ⟨g, _, none⟩ h0 (by simpa using hne)).trans c3⟩

namespace fnExactCardinalPlaces
open Go.ChangeShapes Go.WideShapes Go.ChangeAt Go.RowKit
set_option linter.unusedVariables false
set_option maxHeartbeats 3200000 in
theorem walk (W : World) (a0_0 : ByteArray) (wa0_0 : a0_0.size ≤ maxLen) (a0_1 : Int) (wa0_1 : IntKind.i64.has a0_1) (a0_2 : Int) (wa0_2 : IntKind.i64.has a0_2) (a0_3 : Int) (wa0_3 : IntKind.i64.has a0_3) (a1 : Int) (wa1 : IntKind.i64.has a1) :
    Calls Try.prog 7 #[.agg #[.string a0_0, .int .i64 a0_1, .int .i64 a0_2, .int .i64 a0_3], .int .i64 a1] W fun e w' => e = .returned (.bool true) ∧ Below W.heap.size W w' := by
  revert W
  intro w
  by_cases h : szM 1048576 a0_0.size < 0
  · go_enter Try.func7, Try.ntmps7
    go_wp2_with (first | (go_at_call 42; refine (szDanger_any _ wa0_0 _ _ _ _ (by omega) (by omega) _).mono ?_; rintro e w1 ⟨rfl, hb1⟩; have hB1 := bnext (w := w) (by go_grown) hb1; have hS1 := hB1.size; ((have hz1 : w.heap.size < w1.heap.size := by have := hb1.size; (try simp only [World.size_alloc, World.size_setCell, World.size_drew] at this); omega)); obtain ⟨hc1, hf1⟩ := bcell hb1; clear hb1))
    go_ret
    exact ⟨rfl, by go_grown⟩
  by_cases hc : cpC a0_0 a0_1 a0_2 a0_3 a1 = 0
  rotate_left
  · have hs := fun w => spec_CP_no a0_0 wa0_0 a0_1 a0_2 a0_3 a1 w hc
    have hi := fun w => impl_CP_no a0_0 wa0_0 a0_1 a0_2 a0_3 a1 w hc
    obtain ⟨C, hC⟩ : ∃ C, cpC a0_0 a0_1 a0_2 a0_3 a1 = C := ⟨_, rfl⟩
    rw [hC] at hs hi
    clear hc hC
    go_enter Try.func7, Try.ntmps7
    go_wp2_with (first | (go_at_call 42; refine (szDanger_any _ wa0_0 _ _ _ _ (by omega) (by omega) _).mono ?_; rintro e w1 ⟨rfl, hb1⟩; have hB1 := bnext (w := w) (by go_grown) hb1; have hS1 := hB1.size; ((have hz1 : w.heap.size < w1.heap.size := by have := hb1.size; (try simp only [World.size_alloc, World.size_setCell, World.size_drew] at this); omega)); obtain ⟨hc1, hf1⟩ := bcell hb1; clear hb1) | (go_at_call 44; refine (toDanger_any _ _ _ _ _).mono ?_; rintro e w1 ⟨rfl, hb1⟩; have hB1 := bnext (w := w) (by go_grown) hb1; have hS1 := hB1.size; ((have hz1 : w.heap.size < w1.heap.size := by have := hb1.size; (try simp only [World.size_alloc, World.size_setCell, World.size_drew] at this); omega)); obtain ⟨hc1, hf1⟩ := bcell hb1; clear hb1) | (go_at_call 43; refine (hs _).mono ?_; rintro e w1 ⟨rfl, hb1⟩; have hB1 := bnext (w := w) (by go_grown) hb1; have hS1 := hB1.size; ((have hz1 : w.heap.size < w1.heap.size := by have := hb1.size; (try simp only [World.size_alloc, World.size_setCell, World.size_drew] at this); omega)); obtain ⟨hc1, hf1⟩ := bcell hb1; clear hb1) | (go_at_call 45; refine (hi _).mono ?_; rintro e w1 ⟨rfl, hb1⟩; have hB1 := bnext (w := w) (by go_grown) hb1; have hS1 := hB1.size; ((have hz1 : w.heap.size < w1.heap.size := by have := hb1.size; (try simp only [World.size_alloc, World.size_setCell, World.size_drew] at this); omega)); obtain ⟨hc1, hf1⟩ := bcell hb1; clear hb1) | (go_at_call 46; refine (eqPointS_nil _ _ _).mono ?_; rintro e w1 ⟨rfl, hb1⟩; have hB1 := bnext (w := w) (by go_grown) hb1; have hS1 := hB1.size; ((have hz1 : w.heap.size < w1.heap.size := by have := hb1.size; (try simp only [World.size_alloc, World.size_setCell, World.size_drew] at this); omega)); obtain ⟨hc1, hf1⟩ := bcell hb1; clear hb1) | (go_at_call 47; refine (markPointS_nil _ _ _).mono ?_; rintro e w' ⟨rfl, rfl⟩) | (go_at_call 48; refine (heldPointS_nil _ _ _).mono ?_; rintro e w' ⟨rfl, rfl⟩))
    go_ret
    exact ⟨rfl, by go_grown⟩
  have HC := Lib.hid hc
  clear hc
  go_enter Try.func7, Try.ntmps7
  go_wp2_with fail
  refine (szDanger_any a0_0 wa0_0 _ _ _ 1048576 (by omega) (by omega) _).mono ?_
  rintro e w1 ⟨rfl, hb1⟩
  have hB1 := bnext (w := w) (by go_grown) hb1
  have hD : Dn w1 w.heap.size 0 a0_0 a0_1 a0_2 a0_3 := Dn.on ⟨by simp, by simp [go_sem], by simp [go_sem], by simp [go_sem], by simp [go_sem]⟩ hb1
  have hD' := Lib.hid hD
  obtain ⟨_, c0, c1, c2, c3⟩ := hD
  simp only [Nat.zero_add] at c0 c1 c2 c3
  go_wp2_with fail
  clear c0 c1 c2 c3
  have hD := hD'.out
  clear hD'
  refine (toDanger_any _ _ _ _ _).mono ?_
  rintro e w2 ⟨rfl, hb2⟩
  have hB2 := bnext hB1 hb2
  have hD := hD.on hb2
  go_wp2_with fail
  refine (spec_CP_ok a0_0 wa0_0 _ _ _ _ _ HC.out).mono ?_
  rintro e w3 ⟨gS, hgS, rfl, hb3, hRS⟩
  have hB3 := bnext hB2 hb3
  have hD := hD.on hb3
  have hD' := Lib.hid hD
  obtain ⟨_, c0, c1, c2, c3⟩ := hD
  simp only [Nat.zero_add] at c0 c1 c2 c3
  go_wp2_with fail
  clear c0 c1 c2 c3
  have hD := hD'.out
  clear hD'
  refine (toDanger_any _ _ _ _ _).mono ?_
  rintro e w4 ⟨rfl, hb4⟩
  have hB4 := bnext hB3 hb4
  have hD := hD.on hb4
  have hRS := hRS.on hb4
  go_wp2_with fail
  refine (impl_CP_ok a0_0 wa0_0 _ _ _ _ _ HC.out).mono ?_
  rintro e w5 ⟨gI, hgI, rfl, hb5, hRI⟩
  have hB5 := bnext hB4 hb5
  have hlt : gS < gI := Nat.lt_of_lt_of_le hRS.1 hgI
  have hlI : w.heap.size < gI := Nat.lt_of_lt_of_le hD.1 hgI
  have hD := hD.on hb5
  have hRS := hRS.on hb5
  go_wp2_with fail
  refine (eqPointS_same (cpL a0_1 a0_2 (a0_3 + a1)) _ _ 4 4 w5.heap.size _ hRI.sl hRS.sl (Nat.le_refl _) (by simp [cpL])).mono ?_
  rintro e w6 ⟨rfl, hb6⟩
  have hB6 := bnext hB5 hb6
  have hD := hD.on hb6
  have hRS := hRS.on hb6
  have hRI := hRI.on hb6
  go_wp2_with fail
  refine (markPointS_any gI 4 4 1 _ (Mk.start (L := cpL a0_1 a0_2 (a0_3 + a1)) hRI) (by omega) (by omega) (by omega)).mono ?_
  rintro e w7 ⟨rfl, hg7, hM⟩
  have hB7 := hB6.grown hg7 hB6.size (fun k e => by cases e; omega)
  have hD := Dn.far hD hg7 (by omega)
  have hRS := hRS.far hg7 (by omega)
  clear hRI
  go_wp2_with fail
  refine (heldPointS_any gI 4 4 1 _ hM (by omega) (by omega) (by omega)).mono ?_
  rintro e w8 ⟨rfl, rfl⟩
  have hD' := Lib.hid hD
  obtain ⟨_, c0, c1, c2, c3⟩ := hD
  simp only [Nat.zero_add] at c0 c1 c2 c3
  go_wp2_with fail
  clear c0 c1 c2 c3
  have hD := hD'.out
  clear hD'
  refine (toDanger_any _ _ _ _ _).mono ?_
  rintro e w9 ⟨rfl, hb9⟩
  have hB9 := bnext hB7 hb9
  have hRS := hRS.on hb9
  have hM := hM.on hb9
  go_wp2_with fail
  refine (impl_CP_ok a0_0 wa0_0 _ _ _ _ _ HC.out).mono ?_
  rintro e w10 ⟨gH, hgH, rfl, hb10, hRH⟩
  have hB10 := bnext hB9 hb10
  have hRS := hRS.on hb10
  have hM := hM.on hb10
  go_wp2_with fail
  refine (eqPointS_same (cpL a0_1 a0_2 (a0_3 + a1)) _ _ 4 4 w10.heap.size _ hRH.sl hRS.sl (Nat.le_refl _) (by simp [cpL])).mono ?_
  rintro e w11 ⟨rfl, hb11⟩
  have hB11 := bnext hB10 hb11
  have hM := hM.on hb11
  go_wp2_with fail
  refine (heldPointS_any gI 4 4 1 _ hM (by omega) (by omega) (by omega)).mono ?_
  rintro e w12 ⟨rfl, rfl⟩
  go_wp2_with fail
  go_ret
  exact ⟨rfl, hB11⟩

theorem lifted (os : Os) (started : os.Started) (H : Type) (enc : TypeId × Value → H) :
    ReturnsInHanded {} Try.checked os 7 .any (Rows.fnExactCardinalPlacesSpec.pre6 enc Try.prog Try.f7 Rows.fnExactCardinalPlacesRow.domain false) (Rows.fnExactCardinalPlacesSpec.post enc Try.prog Try.f7 false true false false) := by
  refine returnsInHanded_of_change (C := Try.checked) own started (by kernel_rfl) Try.func7
    (ChangeSpec.witness6 (enc := enc) (C := Try.checked) false ⟨#[], #[.agg #[.string ⟨#[]⟩, .int .i64 0, .int .i64 0, .int .i64 0], .int .i64 0], []⟩ 8 (by kernel_rfl) (by kernel_rfl) (by kernel_rfl) (by kernel_rfl)) ?_
  intro W base args ds gs before hval0 hW hcnd _
  have hval : ∀ (j : Nat) t v, Try.f7.params[j]? = some t → args[j]? = some v → Value.okWide Try.prog W .any base t v := hval0
  have hW' := hW
  obtain ⟨p, q, hA0, hV, rfl, hfz, hnd⟩ := hW
  have hA : DataW.TrodAll enc Try.prog W 0 (fun _ => true) true Try.f7.params.toList args.toList ds p := hA0
  rw [Try.params7] at hA hval
  obtain ⟨v0, vs0, d0, ds0, p0, q0, hargs, rfl, rfl, h0, r0⟩ := trodAll_cons hA
  obtain ⟨v1, vs1, d1, ds1, p1, q1, rfl, rfl, rfl, h1, r1⟩ := trodAll_cons r0
  obtain ⟨rfl, rfl, rfl⟩ := trodAll_nil r1
  obtain rfl : args = #[v0, v1] := by cases args; simp_all
  have g0 := h0
  have g1 := h1
  obtain ⟨rfl, rfl⟩ := trodVars_none hV
  clear hA0 hval0
  simp only [List.append_nil] at hW'
  have hlt : ∀ x ∈ p0 ++ (p1), x.block < W.heap.size := fun x hx => by simpa using hW'.lt x (by simpa using hx)
  obtain ⟨cs0, rfl, k0_0⟩ := open_struct Try.underlying57 (ts := [9, 2, 2, 2]) (by kernel_rfl) (hval 0 57 _ rfl rfl)
  obtain ⟨c0_0, cs0_0, rfl, q0_0, k0_1⟩ := okCells_cons k0_0
  obtain ⟨c0_1, cs0_1, rfl, q0_1, k0_2⟩ := okCells_cons k0_1
  obtain ⟨c0_2, cs0_2, rfl, q0_2, k0_3⟩ := okCells_cons k0_2
  obtain ⟨c0_3, cs0_3, rfl, q0_3, k0_4⟩ := okCells_cons k0_3
  obtain rfl := okCells_nil k0_4
  obtain ⟨a0_0, rfl, wa0_0⟩ := cell_string Try.underlying9 q0_0
  obtain ⟨a0_1, rfl, wa0_1⟩ := cell_int Try.underlying2 q0_1
  obtain ⟨a0_2, rfl, wa0_2⟩ := cell_int Try.underlying2 q0_2
  obtain ⟨a0_3, rfl, wa0_3⟩ := cell_int Try.underlying2 q0_3
  obtain ⟨a1, rfl, wa1⟩ := value_int Try.underlying2 (hval 1 2 _ rfl rfl)
  refine (walk W a0_0 wa0_0 a0_1 wa0_1 a0_2 wa0_2 a0_3 wa0_3 a1 wa1).mono fun e W' ⟨he, hg⟩ => ?_
  subst he
  exact ⟨_, rfl, post_below (pa := _) hW' (trodAll_cons_mk (shut_bool Try.underlying4 _) trodAll_mk0) (trodAll_cons_mk (Below.trod laidOut (by kernel_rfl) (of_decide_eq_true (by kernel_rfl)) g0 hg (fun x hx => hlt x (by simp [hx]))) (trodAll_cons_mk (Below.trod laidOut (by kernel_rfl) (of_decide_eq_true (by kernel_rfl)) g1 hg (fun x hx => hlt x (by simp [hx]))) trodAll_mk0)) rfl (by simp) hg⟩

theorem over : Rows.fnExactCardinalPlacesRow.holds Try.pinned (OpenSpec.ofChange Rows.fnExactCardinalPlacesSpec) :=
  OpenClaim.holds_of_wide 7 Try.f7 rfl rfl rfl rfl rfl rfl rfl ⟨rfl, rfl, rfl, rfl, rfl⟩ rfl rfl rfl rfl rfl (by kernel_rfl) Try.func7 (by kernel_rfl)
    (of_decide_eq_true (by kernel_rfl)) (by unfold Func.isWrapper; first | (rw [if_pos (by decide +kernel)]; kernel_rfl) | (rw [if_neg (by decide +kernel)]; exact ⟨rfl, rfl⟩))
    (fun os started H enc _ => lifted os started H enc)

theorem proved : Rows.FnExactCardinalPlacesSaid := over
#print axioms proved
end fnExactCardinalPlaces

end Go.Proofs.Ytfogioflkehagaa
