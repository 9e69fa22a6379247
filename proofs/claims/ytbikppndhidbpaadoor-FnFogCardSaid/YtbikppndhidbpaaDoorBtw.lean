/-
  Contracts of the point that divides a segment: the program's and the reference's. Under the conditions that each states.
-/
import Derived.Test.YtbikppndhidbpaaDoorBtwP
import Derived.Deep.RegionHeld3
import Derived.IntWalk
set_option linter.unusedVariables false
set_option linter.unnecessarySimpa false
set_option maxRecDepth 100000
set_option linter.unusedSimpArgs false
namespace Go.Proofs.YtbikppndhidbpaaDoor
open Go.RowKit BigFrame

theorem wp_atB {P : Program} {c : Code} {Q : Exit → Act → World → Prop} {a : Act} {W : World} (h : ∀ wf, wf = W → Code.wp P c Q a wf) : Code.wp P c Q a W := h W rfl
/-- A point in a variable. -/
def PtB (w : World) (g : Nat) (x y : Int) : Prop := g < w.heap.size ∧ w.cell? ⟨g, 0, none⟩ = some (.int .i64 x) ∧ w.cell? ⟨g, 1, none⟩ = some (.int .i64 y)
/-- Two points and the result's variable, in a world that has grown. -/
def In2 (w : World) (ax ay bx by_ : Int) (w' : World) : Prop := Below w.heap.size w w' ∧ PtB w' w.heap.size ax ay ∧ PtB w' (w.heap.size + 1) bx by_ ∧ w.heap.size + 2 < w'.heap.size ∧ ((w'.cell? ⟨w.heap.size + 2, 0, none⟩).isSome = true ∧ (w'.cell? ⟨w.heap.size + 2, 1, none⟩).isSome = true) ∧ w'.frozen? ⟨w.heap.size + 2, 0, none⟩ = false ∧ w'.frozen? ⟨w.heap.size + 2, 1, none⟩ = false
def heldB (w : World) (b o : Nat) : Value := (w.cell? ⟨b, o, none⟩).getD undef
theorem heldB_is {w : World} {b o : Nat} (h : (w.cell? ⟨b, o, none⟩).isSome = true) : w.cell? ⟨b, o, none⟩ = some (heldB w b o) := by
  obtain ⟨u, hu⟩ := Option.isSome_iff_exists.1 h
  unfold heldB; rw [hu]; rfl
theorem In2.s {w w1 : World} {ax ay bx by_ : Int} (h : In2 w ax ay bx by_ w1) : In2 w ax ay bx by_ w1 ∧ (w1).cell? ⟨w.heap.size, 0, none⟩ = some (.int .i64 ax) ∧ (w1).cell? ⟨w.heap.size, 1, none⟩ = some (.int .i64 ay) ∧ (w1).cell? ⟨w.heap.size + 1, 0, none⟩ = some (.int .i64 bx) ∧ (w1).cell? ⟨w.heap.size + 1, 1, none⟩ = some (.int .i64 by_) ∧ (w1).cell? ⟨w.heap.size + 2, 0, none⟩ = some (heldB w1 (w.heap.size + 2) 0) ∧ (w1).cell? ⟨w.heap.size + 2, 1, none⟩ = some (heldB w1 (w.heap.size + 2) 1) ∧ (w1).frozen? ⟨w.heap.size + 2, 0, none⟩ = false ∧ (w1).frozen? ⟨w.heap.size + 2, 1, none⟩ = false := ⟨h, h.2.1.2.1, h.2.1.2.2, h.2.2.1.2.1, h.2.2.1.2.2, heldB_is h.2.2.2.2.1.1, heldB_is h.2.2.2.2.1.2, h.2.2.2.2.2.1, h.2.2.2.2.2.2⟩
theorem In2.drew {w w1 : World} {ax ay bx by_ : Int} (h : In2 w ax ay bx by_ w1) : In2 w ax ay bx by_ w1.drew := by
  obtain ⟨h1, h2, h3, h4, h5, h6, h7⟩ := h
  exact ⟨h1.drew, h2, h3, h4, h5, h6, h7⟩
theorem In2.set {w w1 : World} {ax ay bx by_ : Int} {k : Nat} {v : Value} (h : In2 w ax ay bx by_ w1) : In2 w ax ay bx by_ (w1.setCell ⟨w.heap.size + 2, k, none⟩ v) := by
  obtain ⟨h1, ⟨h2, h2', h2''⟩, ⟨k2, k2', k2''⟩, h3, h4, h5, h6⟩ := h
  have hne : ∀ o, (⟨w.heap.size + 2, k, none⟩ : Addr) ≠ ⟨w.heap.size, o, none⟩ := fun o e => by simp at e
  have hne1 : ∀ o, (⟨w.heap.size + 2, k, none⟩ : Addr) ≠ ⟨w.heap.size + 1, o, none⟩ := fun o e => by simp at e
  refine ⟨h1.setCell (by simp) _, ⟨by simpa using h2, ?_, ?_⟩, ⟨by simpa using k2, ?_, ?_⟩, by simpa using h3, ⟨?_, ?_⟩, ?_, ?_⟩
  · rw [World.cell?_setCell_other _ _ _ _ (hne 0)]; exact h2'
  · rw [World.cell?_setCell_other _ _ _ _ (hne 1)]; exact h2''
  · rw [World.cell?_setCell_other _ _ _ _ (hne1 0)]; exact k2'
  · rw [World.cell?_setCell_other _ _ _ _ (hne1 1)]; exact k2''
  · by_cases hk : k = 0
    · subst hk
      obtain ⟨u, hu⟩ := Option.isSome_iff_exists.1 h4.1
      rw [World.cell?_setCell_same _ _ _ hu]; rfl
    · rw [World.cell?_setCell_other _ _ _ _ (fun e => hk (congrArg Addr.off e))]; exact h4.1
  · by_cases hk : k = 1
    · subst hk
      obtain ⟨u, hu⟩ := Option.isSome_iff_exists.1 h4.2
      rw [World.cell?_setCell_same _ _ _ hu]; rfl
    · rw [World.cell?_setCell_other _ _ _ _ (fun e => hk (congrArg Addr.off e))]; exact h4.2
  · simpa [go_sem] using h5
  · simpa [go_sem] using h6
theorem In2.read {w w1 : World} {ax ay bx by_ : Int} (h : In2 w ax ay bx by_ w1) (u v : Value) : ((w1.setCell ⟨w.heap.size + 2, 0, none⟩ u).setCell ⟨w.heap.size + 2, 1, none⟩ v).cell? ⟨w.heap.size + 2, 0, none⟩ = some u ∧ ((w1.setCell ⟨w.heap.size + 2, 0, none⟩ u).setCell ⟨w.heap.size + 2, 1, none⟩ v).cell? ⟨w.heap.size + 2, 1, none⟩ = some v := by
  obtain ⟨a, ha⟩ := Option.isSome_iff_exists.1 h.2.2.2.2.1.1
  obtain ⟨b, hb⟩ := Option.isSome_iff_exists.1 (h.set (k := 0) (v := u)).2.2.2.2.1.2
  constructor
  · rw [World.cell?_setCell_other _ _ _ _ (fun e => by simp at e), World.cell?_setCell_same _ _ _ ha]
  · rw [World.cell?_setCell_same _ _ _ hb]
set_option maxHeartbeats 3200000 in
theorem impl_btw_no (ax ay bx by_ i n : Int) (w : World) (h1 : -1 ≤ ax ∧ ax ≤ 200001) (h2 : -1 ≤ ay ∧ ay ≤ 200001) (h3 : -1 ≤ bx ∧ bx ≤ 200001) (h4 : -1 ≤ by_ ∧ by_ ≤ 200001) (h5 : 0 ≤ i ∧ i ≤ n) (h6 : 1 ≤ n ∧ n ≤ 1000000) (ht : turnB ax ay bx by_ = false) :
    Calls Tryd.prog 62 #[.agg #[.int .i64 ax, .int .i64 ay], .agg #[.int .i64 bx, .int .i64 by_], .int .i64 i, .int .i64 n] w fun e w' => e = .returned (.agg #[.int .i64 (btwC ax bx i n), .int .i64 (btwC ay by_ i n)]) ∧ Below w.heap.size w w' := by
  have k1 := mul_bd (x := i) (y := bx - ax) (B := 1000000) (C := 200002) (by omega) (by omega) (by omega) (by omega)
  have k2 := mul_bd (x := i) (y := by_ - ay) (B := 1000000) (C := 200002) (by omega) (by omega) (by omega) (by omega)
  have p1 := divR_part (d := bx - ax) h6.1 h5.1 h5.2
  have p2 := divR_part (d := by_ - ay) h6.1 h5.1 h5.2
  have b1 : -200002 ≤ divR (i * (bx - ax)) n ∧ divR (i * (bx - ax)) n ≤ 200002 := by omega
  have b2 : -200002 ≤ divR (i * (by_ - ay)) n ∧ divR (i * (by_ - ay)) n ≤ 200002 := by omega
  have hd1 : ∀ w, Calls Tryd.prog 111 #[.int .i64 (i * (bx - ax)), .int .i64 n] w fun e w' => e = .returned (.int .i64 (divR (i * (bx - ax)) n)) ∧ w = w' := fun w => impl_divRound _ _ _ (by omega) (by omega) (by omega) (by omega) (by omega)
  have hd2 : ∀ w, Calls Tryd.prog 111 #[.int .i64 (i * (by_ - ay)), .int .i64 n] w fun e w' => e = .returned (.int .i64 (divR (i * (by_ - ay)) n)) ∧ w = w' := fun w => impl_divRound _ _ _ (by omega) (by omega) (by omega) (by omega) (by omega)
  have hV : Hid (Ending.returned (.agg #[.int .i64 (ax + divR (i * (bx - ax)) n), .int .i64 (ay + divR (i * (by_ - ay)) n)]) = Ending.returned (.agg #[.int .i64 (btwC ax bx i n), .int .i64 (btwC ay by_ i n)])) := Lib.hid rfl
  have q1 : IntKind.i64.wrap (i * (bx - ax)) = i * (bx - ax) := IntWalk.i64_in _ (by omega)
  have q2 : IntKind.i64.wrap (i * (by_ - ay)) = i * (by_ - ay) := IntWalk.i64_in _ (by omega)
  have q3 : IntKind.i64.wrap (ax + divR (i * (bx - ax)) n) = ax + divR (i * (bx - ax)) n := IntWalk.i64_in _ (by omega)
  have q4 : IntKind.i64.wrap (ay + divR (i * (by_ - ay)) n) = ay + divR (i * (by_ - ay)) n := IntWalk.i64_in _ (by omega)
  have q5 : IntKind.i64.wrap (bx - ax) = bx - ax := IntWalk.i64_in _ (by omega)
  have q6 : IntKind.i64.wrap (by_ - ay) = by_ - ay := IntWalk.i64_in _ (by omega)
  unfold turnB at ht
  simp only [Bool.or_eq_false_iff, Bool.and_eq_false_imp, decide_eq_true_eq, decide_eq_false_iff_not] at ht
  obtain ⟨t1, t2⟩ := ht
  clear k1 k2 p1 p2 b1 b2 h1 h2 h3 h4 h5 h6
  by_cases e : ax = bx
  · have e1 : (ax == bx) = true := by simpa using e
    have t3 := t2 e
    clear e t2
    go_enter Tryd.func62, Tryd.ntmps62
    go_wp2_with fail
    refine wp_atB ?_
    intro wz hwz
    have hm : In2 w ax ay bx by_ wz := by
      rw [hwz]
      exact ⟨by go_grown, ⟨by simp; omega, by simp [go_sem], by simp [go_sem]⟩, ⟨by simp, by simp [go_sem], by simp [go_sem]⟩, by simp, ⟨by simp [go_sem], by simp [go_sem]⟩, by simp [go_sem], by simp [go_sem]⟩
    clear hwz
    obtain ⟨_, n1, n2, n3, n4, n5, n6, n7, n8⟩ := In2.s hm
    go_region_held3 (fun w' => In2 w ax ay bx by_ w' ∧ w'.cell? ⟨w.heap.size, 0, none⟩ = some (.int .i64 ax) ∧ w'.cell? ⟨w.heap.size, 1, none⟩ = some (.int .i64 ay) ∧ w'.cell? ⟨w.heap.size + 1, 0, none⟩ = some (.int .i64 bx) ∧ w'.cell? ⟨w.heap.size + 1, 1, none⟩ = some (.int .i64 by_) ∧ w'.cell? ⟨w.heap.size + 2, 0, none⟩ = some (heldB w' (w.heap.size + 2) 0) ∧ w'.cell? ⟨w.heap.size + 2, 1, none⟩ = some (heldB w' (w.heap.size + 2) 1) ∧ w'.frozen? ⟨w.heap.size + 2, 0, none⟩ = false ∧ w'.frozen? ⟨w.heap.size + 2, 1, none⟩ = false) (first | assumption | (with_reducible refine In2.s ?_; assumption) | (with_reducible exact In2.s (In2.drew hm)) | (with_reducible refine In2.s (In2.set (In2.set ?_)); exact And.left (by assumption)) | (with_reducible exact In2.s (In2.drew (In2.set (In2.set hm)))) | (with_reducible exact In2.s (In2.set (In2.set hm))) | (with_reducible exact In2.s (In2.set (In2.set (In2.drew hm))))) (first | (go_at_call 111; with_reducible refine (hd1 _).mono ?_; rintro e w' ⟨rfl, rfl⟩) | (go_at_call 111; with_reducible refine (hd2 _).mono ?_; rintro e w' ⟨rfl, rfl⟩))
    obtain ⟨t1, t2⟩ := In2.read hm (.int .i64 (ax + divR (i * (bx - ax)) n)) (.int .i64 (ay + divR (i * (by_ - ay)) n))
    have hBf := (In2.set (k := 1) (v := .int .i64 (ay + divR (i * (by_ - ay)) n)) (In2.set (k := 0) (v := .int .i64 (ax + divR (i * (bx - ax)) n)) hm)).1
    generalize (World.setCell (World.setCell wz ⟨w.heap.size + 2, 0, none⟩ (.int .i64 (ax + divR (i * (bx - ax)) n))) ⟨w.heap.size + 2, 1, none⟩ (.int .i64 (ay + divR (i * (by_ - ay)) n))) = wf at t1 t2 hBf ⊢
    go_wp2
    refine bodyPost_ret (by simp [results, Tryd.results62, go_sem, t1, t2]; try rfl) rfl ?_
    exact ⟨hV.out, hBf.drew⟩
  · have e1 : (ax == bx) = false := by simpa using e
    clear e t2
    go_enter Tryd.func62, Tryd.ntmps62
    go_wp2_with fail
    refine wp_atB ?_
    intro wz hwz
    have hm : In2 w ax ay bx by_ wz := by
      rw [hwz]
      exact ⟨by go_grown, ⟨by simp; omega, by simp [go_sem], by simp [go_sem]⟩, ⟨by simp, by simp [go_sem], by simp [go_sem]⟩, by simp, ⟨by simp [go_sem], by simp [go_sem]⟩, by simp [go_sem], by simp [go_sem]⟩
    clear hwz
    obtain ⟨_, n1, n2, n3, n4, n5, n6, n7, n8⟩ := In2.s hm
    go_region_held3 (fun w' => In2 w ax ay bx by_ w' ∧ w'.cell? ⟨w.heap.size, 0, none⟩ = some (.int .i64 ax) ∧ w'.cell? ⟨w.heap.size, 1, none⟩ = some (.int .i64 ay) ∧ w'.cell? ⟨w.heap.size + 1, 0, none⟩ = some (.int .i64 bx) ∧ w'.cell? ⟨w.heap.size + 1, 1, none⟩ = some (.int .i64 by_) ∧ w'.cell? ⟨w.heap.size + 2, 0, none⟩ = some (heldB w' (w.heap.size + 2) 0) ∧ w'.cell? ⟨w.heap.size + 2, 1, none⟩ = some (heldB w' (w.heap.size + 2) 1) ∧ w'.frozen? ⟨w.heap.size + 2, 0, none⟩ = false ∧ w'.frozen? ⟨w.heap.size + 2, 1, none⟩ = false) (first | assumption | (with_reducible refine In2.s ?_; assumption) | (with_reducible exact In2.s (In2.drew hm)) | (with_reducible refine In2.s (In2.set (In2.set ?_)); exact And.left (by assumption)) | (with_reducible exact In2.s (In2.drew (In2.set (In2.set hm)))) | (with_reducible exact In2.s (In2.set (In2.set hm))) | (with_reducible exact In2.s (In2.set (In2.set (In2.drew hm))))) (first | (go_at_call 111; with_reducible refine (hd1 _).mono ?_; rintro e w' ⟨rfl, rfl⟩) | (go_at_call 111; with_reducible refine (hd2 _).mono ?_; rintro e w' ⟨rfl, rfl⟩))
    obtain ⟨t1, t2⟩ := In2.read hm (.int .i64 (ax + divR (i * (bx - ax)) n)) (.int .i64 (ay + divR (i * (by_ - ay)) n))
    have hBf := (In2.set (k := 1) (v := .int .i64 (ay + divR (i * (by_ - ay)) n)) (In2.set (k := 0) (v := .int .i64 (ax + divR (i * (bx - ax)) n)) hm)).1
    generalize (World.setCell (World.setCell wz ⟨w.heap.size + 2, 0, none⟩ (.int .i64 (ax + divR (i * (bx - ax)) n))) ⟨w.heap.size + 2, 1, none⟩ (.int .i64 (ay + divR (i * (by_ - ay)) n))) = wf at t1 t2 hBf ⊢
    go_wp2
    refine bodyPost_ret (by simp [results, Tryd.results62, go_sem, t1, t2]; try rfl) rfl ?_
    exact ⟨hV.out, hBf.drew⟩
set_option maxHeartbeats 3200000 in
theorem impl_btw_yes (ax ay bx by_ i j n : Int) (w : World) (h1 : -1 ≤ ax ∧ ax ≤ 200001) (h2 : -1 ≤ ay ∧ ay ≤ 200001) (h3 : -1 ≤ bx ∧ bx ≤ 200001) (h4 : -1 ≤ by_ ∧ by_ ≤ 200001) (h5 : 0 ≤ i ∧ i ≤ n) (h6 : 1 ≤ n ∧ n ≤ 1000000) (hj : n - j = i) (ht : turnB bx by_ ax ay = true) :
    Calls Tryd.prog 62 #[.agg #[.int .i64 bx, .int .i64 by_], .agg #[.int .i64 ax, .int .i64 ay], .int .i64 j, .int .i64 n] w fun e w' => e = .returned (.agg #[.int .i64 (btwC ax bx i n), .int .i64 (btwC ay by_ i n)]) ∧ Below w.heap.size w w' := by
  have k1 := mul_bd (x := i) (y := bx - ax) (B := 1000000) (C := 200002) (by omega) (by omega) (by omega) (by omega)
  have k2 := mul_bd (x := i) (y := by_ - ay) (B := 1000000) (C := 200002) (by omega) (by omega) (by omega) (by omega)
  have p1 := divR_part (d := bx - ax) h6.1 h5.1 h5.2
  have p2 := divR_part (d := by_ - ay) h6.1 h5.1 h5.2
  have b1 : -200002 ≤ divR (i * (bx - ax)) n ∧ divR (i * (bx - ax)) n ≤ 200002 := by omega
  have b2 : -200002 ≤ divR (i * (by_ - ay)) n ∧ divR (i * (by_ - ay)) n ≤ 200002 := by omega
  have hd1 : ∀ w, Calls Tryd.prog 111 #[.int .i64 (i * (bx - ax)), .int .i64 n] w fun e w' => e = .returned (.int .i64 (divR (i * (bx - ax)) n)) ∧ w = w' := fun w => impl_divRound _ _ _ (by omega) (by omega) (by omega) (by omega) (by omega)
  have hd2 : ∀ w, Calls Tryd.prog 111 #[.int .i64 (i * (by_ - ay)), .int .i64 n] w fun e w' => e = .returned (.int .i64 (divR (i * (by_ - ay)) n)) ∧ w = w' := fun w => impl_divRound _ _ _ (by omega) (by omega) (by omega) (by omega) (by omega)
  have hV : Hid (Ending.returned (.agg #[.int .i64 (ax + divR (i * (bx - ax)) n), .int .i64 (ay + divR (i * (by_ - ay)) n)]) = Ending.returned (.agg #[.int .i64 (btwC ax bx i n), .int .i64 (btwC ay by_ i n)])) := Lib.hid rfl
  have q1 : IntKind.i64.wrap (i * (bx - ax)) = i * (bx - ax) := IntWalk.i64_in _ (by omega)
  have q2 : IntKind.i64.wrap (i * (by_ - ay)) = i * (by_ - ay) := IntWalk.i64_in _ (by omega)
  have q3 : IntKind.i64.wrap (ax + divR (i * (bx - ax)) n) = ax + divR (i * (bx - ax)) n := IntWalk.i64_in _ (by omega)
  have q4 : IntKind.i64.wrap (ay + divR (i * (by_ - ay)) n) = ay + divR (i * (by_ - ay)) n := IntWalk.i64_in _ (by omega)
  have q5 : IntKind.i64.wrap (bx - ax) = bx - ax := IntWalk.i64_in _ (by omega)
  have q6 : IntKind.i64.wrap (by_ - ay) = by_ - ay := IntWalk.i64_in _ (by omega)
  have q0 : IntKind.i64.wrap (n - j) = i := by rw [IntWalk.i64_in _ (by omega)]; exact hj
  unfold turnB at ht
  simp only [Bool.or_eq_true, Bool.and_eq_true, decide_eq_true_eq] at ht
  clear k1 k2 p1 p2 b1 b2 h1 h2 h3 h4 h5 h6 hj
  by_cases t1 : ax < bx
  · clear ht
    go_enter Tryd.func62, Tryd.ntmps62
    go_wp2_with fail
    refine wp_atB ?_
    intro wz hwz
    have hm : In2 w ax ay bx by_ wz := by
      rw [hwz]
      exact ⟨by go_grown, ⟨by simp; omega, by simp [go_sem], by simp [go_sem]⟩, ⟨by simp, by simp [go_sem], by simp [go_sem]⟩, by simp, ⟨by simp [go_sem], by simp [go_sem]⟩, by simp [go_sem], by simp [go_sem]⟩
    clear hwz
    obtain ⟨_, n1, n2, n3, n4, n5, n6, n7, n8⟩ := In2.s hm
    go_region_held3 (fun w' => In2 w ax ay bx by_ w' ∧ w'.cell? ⟨w.heap.size, 0, none⟩ = some (.int .i64 ax) ∧ w'.cell? ⟨w.heap.size, 1, none⟩ = some (.int .i64 ay) ∧ w'.cell? ⟨w.heap.size + 1, 0, none⟩ = some (.int .i64 bx) ∧ w'.cell? ⟨w.heap.size + 1, 1, none⟩ = some (.int .i64 by_) ∧ w'.cell? ⟨w.heap.size + 2, 0, none⟩ = some (heldB w' (w.heap.size + 2) 0) ∧ w'.cell? ⟨w.heap.size + 2, 1, none⟩ = some (heldB w' (w.heap.size + 2) 1) ∧ w'.frozen? ⟨w.heap.size + 2, 0, none⟩ = false ∧ w'.frozen? ⟨w.heap.size + 2, 1, none⟩ = false) (first | assumption | (with_reducible refine In2.s ?_; assumption) | (with_reducible exact In2.s (In2.drew hm)) | (with_reducible refine In2.s (In2.set (In2.set ?_)); exact And.left (by assumption)) | (with_reducible exact In2.s (In2.drew (In2.set (In2.set hm)))) | (with_reducible exact In2.s (In2.set (In2.set hm))) | (with_reducible exact In2.s (In2.set (In2.set (In2.drew hm))))) (first | (go_at_call 111; with_reducible refine (hd1 _).mono ?_; rintro e w' ⟨rfl, rfl⟩) | (go_at_call 111; with_reducible refine (hd2 _).mono ?_; rintro e w' ⟨rfl, rfl⟩))
    obtain ⟨t1, t2⟩ := In2.read hm (.int .i64 (ax + divR (i * (bx - ax)) n)) (.int .i64 (ay + divR (i * (by_ - ay)) n))
    have hBf := (In2.set (k := 1) (v := .int .i64 (ay + divR (i * (by_ - ay)) n)) (In2.set (k := 0) (v := .int .i64 (ax + divR (i * (bx - ax)) n)) hm)).1
    generalize (World.setCell (World.setCell wz ⟨w.heap.size + 2, 0, none⟩ (.int .i64 (ax + divR (i * (bx - ax)) n))) ⟨w.heap.size + 2, 1, none⟩ (.int .i64 (ay + divR (i * (by_ - ay)) n))) = wf at t1 t2 hBf ⊢
    go_wp2
    refine bodyPost_ret (by simp [results, Tryd.results62, go_sem, t1, t2]; try rfl) rfl ?_
    exact ⟨hV.out, hBf.drew⟩
  · have e1 : (bx == ax) = true := by simp; omega
    have t2 : ay < by_ := by omega
    clear ht
    go_enter Tryd.func62, Tryd.ntmps62
    go_wp2_with fail
    refine wp_atB ?_
    intro wz hwz
    have hm : In2 w ax ay bx by_ wz := by
      rw [hwz]
      exact ⟨by go_grown, ⟨by simp; omega, by simp [go_sem], by simp [go_sem]⟩, ⟨by simp, by simp [go_sem], by simp [go_sem]⟩, by simp, ⟨by simp [go_sem], by simp [go_sem]⟩, by simp [go_sem], by simp [go_sem]⟩
    clear hwz
    obtain ⟨_, n1, n2, n3, n4, n5, n6, n7, n8⟩ := In2.s hm
    go_region_held3 (fun w' => In2 w ax ay bx by_ w' ∧ w'.cell? ⟨w.heap.size, 0, none⟩ = some (.int .i64 ax) ∧ w'.cell? ⟨w.heap.size, 1, none⟩ = some (.int .i64 ay) ∧ w'.cell? ⟨w.heap.size + 1, 0, none⟩ = some (.int .i64 bx) ∧ w'.cell? ⟨w.heap.size + 1, 1, none⟩ = some (.int .i64 by_) ∧ w'.cell? ⟨w.heap.size + 2, 0, none⟩ = some (heldB w' (w.heap.size + 2) 0) ∧ w'.cell? ⟨w.heap.size + 2, 1, none⟩ = some (heldB w' (w.heap.size + 2) 1) ∧ w'.frozen? ⟨w.heap.size + 2, 0, none⟩ = false ∧ w'.frozen? ⟨w.heap.size + 2, 1, none⟩ = false) (first | assumption | (with_reducible refine In2.s ?_; assumption) | (with_reducible exact In2.s (In2.drew hm)) | (with_reducible refine In2.s (In2.set (In2.set ?_)); exact And.left (by assumption)) | (with_reducible exact In2.s (In2.drew (In2.set (In2.set hm)))) | (with_reducible exact In2.s (In2.set (In2.set hm))) | (with_reducible exact In2.s (In2.set (In2.set (In2.drew hm))))) (first | (go_at_call 111; with_reducible refine (hd1 _).mono ?_; rintro e w' ⟨rfl, rfl⟩) | (go_at_call 111; with_reducible refine (hd2 _).mono ?_; rintro e w' ⟨rfl, rfl⟩))
    obtain ⟨t1, t2⟩ := In2.read hm (.int .i64 (ax + divR (i * (bx - ax)) n)) (.int .i64 (ay + divR (i * (by_ - ay)) n))
    have hBf := (In2.set (k := 1) (v := .int .i64 (ay + divR (i * (by_ - ay)) n)) (In2.set (k := 0) (v := .int .i64 (ax + divR (i * (bx - ax)) n)) hm)).1
    generalize (World.setCell (World.setCell wz ⟨w.heap.size + 2, 0, none⟩ (.int .i64 (ax + divR (i * (bx - ax)) n))) ⟨w.heap.size + 2, 1, none⟩ (.int .i64 (ay + divR (i * (by_ - ay)) n))) = wf at t1 t2 hBf ⊢
    go_wp2
    refine bodyPost_ret (by simp [results, Tryd.results62, go_sem, t1, t2]; try rfl) rfl ?_
    exact ⟨hV.out, hBf.drew⟩
set_option maxHeartbeats 400000 in
theorem impl_btw (ax ay bx by_ i n : Int) (w : World) (h1 : -1 ≤ ax ∧ ax ≤ 200001) (h2 : -1 ≤ ay ∧ ay ≤ 200001) (h3 : -1 ≤ bx ∧ bx ≤ 200001) (h4 : -1 ≤ by_ ∧ by_ ≤ 200001) (h5 : 0 ≤ i ∧ i ≤ n) (h6 : 1 ≤ n ∧ n ≤ 1000000) :
    Calls Tryd.prog 62 #[.agg #[.int .i64 ax, .int .i64 ay], .agg #[.int .i64 bx, .int .i64 by_], .int .i64 i, .int .i64 n] w fun e w' => e = .returned (.agg #[.int .i64 (btwM ax ay bx by_ i n).1, .int .i64 (btwM ax ay bx by_ i n).2]) ∧ Below w.heap.size w w' := by
  unfold btwM
  cases ht : turnB ax ay bx by_
  · exact impl_btw_no ax ay bx by_ i n w h1 h2 h3 h4 h5 h6 ht
  · exact impl_btw_yes bx by_ ax ay (n - i) i n w h3 h4 h1 h2 (by omega) h6 rfl ht
set_option maxHeartbeats 3200000 in
theorem spec_btw_no (ax ay bx by_ i n : Int) (w : World) (h1 : -1 ≤ ax ∧ ax ≤ 200001) (h2 : -1 ≤ ay ∧ ay ≤ 200001) (h3 : -1 ≤ bx ∧ bx ≤ 200001) (h4 : -1 ≤ by_ ∧ by_ ≤ 200001) (h5 : 0 ≤ i ∧ i ≤ n) (h6 : 1 ≤ n ∧ n ≤ 1000000) (ht : turnB ax ay bx by_ = false) :
    Calls Tryd.prog 113 #[.agg #[.int .i64 ax, .int .i64 ay], .agg #[.int .i64 bx, .int .i64 by_], .int .i64 i, .int .i64 n] w fun e w' => e = .returned (.agg #[.int .i64 (btwC ax bx i n), .int .i64 (btwC ay by_ i n)]) ∧ Below w.heap.size w w' := by
  have k1 := mul_bd (x := i) (y := bx - ax) (B := 1000000) (C := 200002) (by omega) (by omega) (by omega) (by omega)
  have k2 := mul_bd (x := i) (y := by_ - ay) (B := 1000000) (C := 200002) (by omega) (by omega) (by omega) (by omega)
  have p1 := divR_part (d := bx - ax) h6.1 h5.1 h5.2
  have p2 := divR_part (d := by_ - ay) h6.1 h5.1 h5.2
  have b1 : -200002 ≤ divR (i * (bx - ax)) n ∧ divR (i * (bx - ax)) n ≤ 200002 := by omega
  have b2 : -200002 ≤ divR (i * (by_ - ay)) n ∧ divR (i * (by_ - ay)) n ≤ 200002 := by omega
  have hd1 : ∀ w, Calls Tryd.prog 137 #[.int .i64 (i * (bx - ax)), .int .i64 n] w fun e w' => e = .returned (.int .i64 (divR (i * (bx - ax)) n)) ∧ w = w' := fun w => spec_Div _ _ _ (by omega) (by omega) (by omega) (by omega) (by omega)
  have hd2 : ∀ w, Calls Tryd.prog 137 #[.int .i64 (i * (by_ - ay)), .int .i64 n] w fun e w' => e = .returned (.int .i64 (divR (i * (by_ - ay)) n)) ∧ w = w' := fun w => spec_Div _ _ _ (by omega) (by omega) (by omega) (by omega) (by omega)
  have hV : Hid (Ending.returned (.agg #[.int .i64 (ax + divR (i * (bx - ax)) n), .int .i64 (ay + divR (i * (by_ - ay)) n)]) = Ending.returned (.agg #[.int .i64 (btwC ax bx i n), .int .i64 (btwC ay by_ i n)])) := Lib.hid rfl
  have q1 : IntKind.i64.wrap (i * (bx - ax)) = i * (bx - ax) := IntWalk.i64_in _ (by omega)
  have q2 : IntKind.i64.wrap (i * (by_ - ay)) = i * (by_ - ay) := IntWalk.i64_in _ (by omega)
  have q3 : IntKind.i64.wrap (ax + divR (i * (bx - ax)) n) = ax + divR (i * (bx - ax)) n := IntWalk.i64_in _ (by omega)
  have q4 : IntKind.i64.wrap (ay + divR (i * (by_ - ay)) n) = ay + divR (i * (by_ - ay)) n := IntWalk.i64_in _ (by omega)
  have q5 : IntKind.i64.wrap (bx - ax) = bx - ax := IntWalk.i64_in _ (by omega)
  have q6 : IntKind.i64.wrap (by_ - ay) = by_ - ay := IntWalk.i64_in _ (by omega)
  unfold turnB at ht
  simp only [Bool.or_eq_false_iff, Bool.and_eq_false_imp, decide_eq_true_eq, decide_eq_false_iff_not] at ht
  obtain ⟨t1, t2⟩ := ht
  clear k1 k2 p1 p2 b1 b2 h1 h2 h3 h4 h5 h6
  by_cases e : ax = bx
  · have e1 : (ax == bx) = true := by simpa using e
    have t3 := t2 e
    clear e t2
    go_enter Tryd.func113, Tryd.ntmps113
    go_wp2_with fail
    refine wp_atB ?_
    intro wz hwz
    have hm : In2 w ax ay bx by_ wz := by
      rw [hwz]
      exact ⟨by go_grown, ⟨by simp; omega, by simp [go_sem], by simp [go_sem]⟩, ⟨by simp, by simp [go_sem], by simp [go_sem]⟩, by simp, ⟨by simp [go_sem], by simp [go_sem]⟩, by simp [go_sem], by simp [go_sem]⟩
    clear hwz
    obtain ⟨_, n1, n2, n3, n4, n5, n6, n7, n8⟩ := In2.s hm
    go_region_held3 (fun w' => In2 w ax ay bx by_ w' ∧ w'.cell? ⟨w.heap.size, 0, none⟩ = some (.int .i64 ax) ∧ w'.cell? ⟨w.heap.size, 1, none⟩ = some (.int .i64 ay) ∧ w'.cell? ⟨w.heap.size + 1, 0, none⟩ = some (.int .i64 bx) ∧ w'.cell? ⟨w.heap.size + 1, 1, none⟩ = some (.int .i64 by_) ∧ w'.cell? ⟨w.heap.size + 2, 0, none⟩ = some (heldB w' (w.heap.size + 2) 0) ∧ w'.cell? ⟨w.heap.size + 2, 1, none⟩ = some (heldB w' (w.heap.size + 2) 1) ∧ w'.frozen? ⟨w.heap.size + 2, 0, none⟩ = false ∧ w'.frozen? ⟨w.heap.size + 2, 1, none⟩ = false) (first | assumption | (with_reducible refine In2.s ?_; assumption) | (with_reducible exact In2.s (In2.drew hm)) | (with_reducible refine In2.s (In2.set (In2.set ?_)); exact And.left (by assumption)) | (with_reducible exact In2.s (In2.drew (In2.set (In2.set hm)))) | (with_reducible exact In2.s (In2.set (In2.set hm))) | (with_reducible exact In2.s (In2.set (In2.set (In2.drew hm))))) (first | (go_at_call 137; with_reducible refine (hd1 _).mono ?_; rintro e w' ⟨rfl, rfl⟩) | (go_at_call 137; with_reducible refine (hd2 _).mono ?_; rintro e w' ⟨rfl, rfl⟩))
    obtain ⟨t1, t2⟩ := In2.read hm (.int .i64 (ax + divR (i * (bx - ax)) n)) (.int .i64 (ay + divR (i * (by_ - ay)) n))
    have hBf := (In2.set (k := 1) (v := .int .i64 (ay + divR (i * (by_ - ay)) n)) (In2.set (k := 0) (v := .int .i64 (ax + divR (i * (bx - ax)) n)) hm)).1
    generalize (World.setCell (World.setCell wz ⟨w.heap.size + 2, 0, none⟩ (.int .i64 (ax + divR (i * (bx - ax)) n))) ⟨w.heap.size + 2, 1, none⟩ (.int .i64 (ay + divR (i * (by_ - ay)) n))) = wf at t1 t2 hBf ⊢
    go_wp2
    refine bodyPost_ret (by simp [results, Tryd.results113, go_sem, t1, t2]; try rfl) rfl ?_
    exact ⟨hV.out, hBf.drew⟩
  · have e1 : (ax == bx) = false := by simpa using e
    clear e t2
    go_enter Tryd.func113, Tryd.ntmps113
    go_wp2_with fail
    refine wp_atB ?_
    intro wz hwz
    have hm : In2 w ax ay bx by_ wz := by
      rw [hwz]
      exact ⟨by go_grown, ⟨by simp; omega, by simp [go_sem], by simp [go_sem]⟩, ⟨by simp, by simp [go_sem], by simp [go_sem]⟩, by simp, ⟨by simp [go_sem], by simp [go_sem]⟩, by simp [go_sem], by simp [go_sem]⟩
    clear hwz
    obtain ⟨_, n1, n2, n3, n4, n5, n6, n7, n8⟩ := In2.s hm
    go_region_held3 (fun w' => In2 w ax ay bx by_ w' ∧ w'.cell? ⟨w.heap.size, 0, none⟩ = some (.int .i64 ax) ∧ w'.cell? ⟨w.heap.size, 1, none⟩ = some (.int .i64 ay) ∧ w'.cell? ⟨w.heap.size + 1, 0, none⟩ = some (.int .i64 bx) ∧ w'.cell? ⟨w.heap.size + 1, 1, none⟩ = some (.int .i64 by_) ∧ w'.cell? ⟨w.heap.size + 2, 0, none⟩ = some (heldB w' (w.heap.size + 2) 0) ∧ w'.cell? ⟨w.heap.size + 2, 1, none⟩ = some (heldB w' (w.heap.size + 2) 1) ∧ w'.frozen? ⟨w.heap.size + 2, 0, none⟩ = false ∧ w'.frozen? ⟨w.heap.size + 2, 1, none⟩ = false) (first | assumption | (with_reducible refine In2.s ?_; assumption) | (with_reducible exact In2.s (In2.drew hm)) | (with_reducible refine In2.s (In2.set (In2.set ?_)); exact And.left (by assumption)) | (with_reducible exact In2.s (In2.drew (In2.set (In2.set hm)))) | (with_reducible exact In2.s (In2.set (In2.set hm))) | (with_reducible exact In2.s (In2.set (In2.set (In2.drew hm))))) (first | (go_at_call 137; with_reducible refine (hd1 _).mono ?_; rintro e w' ⟨rfl, rfl⟩) | (go_at_call 137; with_reducible refine (hd2 _).mono ?_; rintro e w' ⟨rfl, rfl⟩))
    obtain ⟨t1, t2⟩ := In2.read hm (.int .i64 (ax + divR (i * (bx - ax)) n)) (.int .i64 (ay + divR (i * (by_ - ay)) n))
    have hBf := (In2.set (k := 1) (v := .int .i64 (ay + divR (i * (by_ - ay)) n)) (In2.set (k := 0) (v := .int .i64 (ax + divR (i * (bx - ax)) n)) hm)).1
    generalize (World.setCell (World.setCell wz ⟨w.heap.size + 2, 0, none⟩ (.int .i64 (ax + divR (i * (bx - ax)) n))) ⟨w.heap.size + 2, 1, none⟩ (.int .i64 (ay + divR (i * (by_ - ay)) n))) = wf at t1 t2 hBf ⊢
    go_wp2
    refine bodyPost_ret (by simp [results, Tryd.results113, go_sem, t1, t2]; try rfl) rfl ?_
    exact ⟨hV.out, hBf.drew⟩
set_option maxHeartbeats 3200000 in
theorem spec_btw_yes (ax ay bx by_ i j n : Int) (w : World) (h1 : -1 ≤ ax ∧ ax ≤ 200001) (h2 : -1 ≤ ay ∧ ay ≤ 200001) (h3 : -1 ≤ bx ∧ bx ≤ 200001) (h4 : -1 ≤ by_ ∧ by_ ≤ 200001) (h5 : 0 ≤ i ∧ i ≤ n) (h6 : 1 ≤ n ∧ n ≤ 1000000) (hj : n - j = i) (ht : turnB bx by_ ax ay = true) :
    Calls Tryd.prog 113 #[.agg #[.int .i64 bx, .int .i64 by_], .agg #[.int .i64 ax, .int .i64 ay], .int .i64 j, .int .i64 n] w fun e w' => e = .returned (.agg #[.int .i64 (btwC ax bx i n), .int .i64 (btwC ay by_ i n)]) ∧ Below w.heap.size w w' := by
  have k1 := mul_bd (x := i) (y := bx - ax) (B := 1000000) (C := 200002) (by omega) (by omega) (by omega) (by omega)
  have k2 := mul_bd (x := i) (y := by_ - ay) (B := 1000000) (C := 200002) (by omega) (by omega) (by omega) (by omega)
  have p1 := divR_part (d := bx - ax) h6.1 h5.1 h5.2
  have p2 := divR_part (d := by_ - ay) h6.1 h5.1 h5.2
  have b1 : -200002 ≤ divR (i * (bx - ax)) n ∧ divR (i * (bx - ax)) n ≤ 200002 := by omega
  have b2 : -200002 ≤ divR (i * (by_ - ay)) n ∧ divR (i * (by_ - ay)) n ≤ 200002 := by omega
  have hd1 : ∀ w, Calls Tryd.prog 137 #[.int .i64 (i * (bx - ax)), .int .i64 n] w fun e w' => e = .returned (.int .i64 (divR (i * (bx - ax)) n)) ∧ w = w' := fun w => spec_Div _ _ _ (by omega) (by omega) (by omega) (by omega) (by omega)
  have hd2 : ∀ w, Calls Tryd.prog 137 #[.int .i64 (i * (by_ - ay)), .int .i64 n] w fun e w' => e = .returned (.int .i64 (divR (i * (by_ - ay)) n)) ∧ w = w' := fun w => spec_Div _ _ _ (by omega) (by omega) (by omega) (by omega) (by omega)
  have hV : Hid (Ending.returned (.agg #[.int .i64 (ax + divR (i * (bx - ax)) n), .int .i64 (ay + divR (i * (by_ - ay)) n)]) = Ending.returned (.agg #[.int .i64 (btwC ax bx i n), .int .i64 (btwC ay by_ i n)])) := Lib.hid rfl
  have q1 : IntKind.i64.wrap (i * (bx - ax)) = i * (bx - ax) := IntWalk.i64_in _ (by omega)
  have q2 : IntKind.i64.wrap (i * (by_ - ay)) = i * (by_ - ay) := IntWalk.i64_in _ (by omega)
  have q3 : IntKind.i64.wrap (ax + divR (i * (bx - ax)) n) = ax + divR (i * (bx - ax)) n := IntWalk.i64_in _ (by omega)
  have q4 : IntKind.i64.wrap (ay + divR (i * (by_ - ay)) n) = ay + divR (i * (by_ - ay)) n := IntWalk.i64_in _ (by omega)
  have q5 : IntKind.i64.wrap (bx - ax) = bx - ax := IntWalk.i64_in _ (by omega)
  have q6 : IntKind.i64.wrap (by_ - ay) = by_ - ay := IntWalk.i64_in _ (by omega)
  have q0 : IntKind.i64.wrap (n - j) = i := by rw [IntWalk.i64_in _ (by omega)]; exact hj
  unfold turnB at ht
  simp only [Bool.or_eq_true, Bool.and_eq_true, decide_eq_true_eq] at ht
  clear k1 k2 p1 p2 b1 b2 h1 h2 h3 h4 h5 h6 hj
  by_cases t1 : ax < bx
  · clear ht
    go_enter Tryd.func113, Tryd.ntmps113
    go_wp2_with fail
    refine wp_atB ?_
    intro wz hwz
    have hm : In2 w ax ay bx by_ wz := by
      rw [hwz]
      exact ⟨by go_grown, ⟨by simp; omega, by simp [go_sem], by simp [go_sem]⟩, ⟨by simp, by simp [go_sem], by simp [go_sem]⟩, by simp, ⟨by simp [go_sem], by simp [go_sem]⟩, by simp [go_sem], by simp [go_sem]⟩
    clear hwz
    obtain ⟨_, n1, n2, n3, n4, n5, n6, n7, n8⟩ := In2.s hm
    go_region_held3 (fun w' => In2 w ax ay bx by_ w' ∧ w'.cell? ⟨w.heap.size, 0, none⟩ = some (.int .i64 ax) ∧ w'.cell? ⟨w.heap.size, 1, none⟩ = some (.int .i64 ay) ∧ w'.cell? ⟨w.heap.size + 1, 0, none⟩ = some (.int .i64 bx) ∧ w'.cell? ⟨w.heap.size + 1, 1, none⟩ = some (.int .i64 by_) ∧ w'.cell? ⟨w.heap.size + 2, 0, none⟩ = some (heldB w' (w.heap.size + 2) 0) ∧ w'.cell? ⟨w.heap.size + 2, 1, none⟩ = some (heldB w' (w.heap.size + 2) 1) ∧ w'.frozen? ⟨w.heap.size + 2, 0, none⟩ = false ∧ w'.frozen? ⟨w.heap.size + 2, 1, none⟩ = false) (first | assumption | (with_reducible refine In2.s ?_; assumption) | (with_reducible exact In2.s (In2.drew hm)) | (with_reducible refine In2.s (In2.set (In2.set ?_)); exact And.left (by assumption)) | (with_reducible exact In2.s (In2.drew (In2.set (In2.set hm)))) | (with_reducible exact In2.s (In2.set (In2.set hm))) | (with_reducible exact In2.s (In2.set (In2.set (In2.drew hm))))) (first | (go_at_call 137; with_reducible refine (hd1 _).mono ?_; rintro e w' ⟨rfl, rfl⟩) | (go_at_call 137; with_reducible refine (hd2 _).mono ?_; rintro e w' ⟨rfl, rfl⟩))
    obtain ⟨t1, t2⟩ := In2.read hm (.int .i64 (ax + divR (i * (bx - ax)) n)) (.int .i64 (ay + divR (i * (by_ - ay)) n))
    have hBf := (In2.set (k := 1) (v := .int .i64 (ay + divR (i * (by_ - ay)) n)) (In2.set (k := 0) (v := .int .i64 (ax + divR (i * (bx - ax)) n)) hm)).1
    generalize (World.setCell (World.setCell wz ⟨w.heap.size + 2, 0, none⟩ (.int .i64 (ax + divR (i * (bx - ax)) n))) ⟨w.heap.size + 2, 1, none⟩ (.int .i64 (ay + divR (i * (by_ - ay)) n))) = wf at t1 t2 hBf ⊢
    go_wp2
    refine bodyPost_ret (by simp [results, Tryd.results113, go_sem, t1, t2]; try rfl) rfl ?_
    exact ⟨hV.out, hBf.drew⟩
  · have e1 : (bx == ax) = true := by simp; omega
    have t2 : ay < by_ := by omega
    clear ht
    go_enter Tryd.func113, Tryd.ntmps113
    go_wp2_with fail
    refine wp_atB ?_
    intro wz hwz
    have hm : In2 w ax ay bx by_ wz := by
      rw [hwz]
      exact ⟨by go_grown, ⟨by simp; omega, by simp [go_sem], by simp [go_sem]⟩, ⟨by simp, by simp [go_sem], by simp [go_sem]⟩, by simp, ⟨by simp [go_sem], by simp [go_sem]⟩, by simp [go_sem], by simp [go_sem]⟩
    clear hwz
    obtain ⟨_, n1, n2, n3, n4, n5, n6, n7, n8⟩ := In2.s hm
    go_region_held3 (fun w' => In2 w ax ay bx by_ w' ∧ w'.cell? ⟨w.heap.size, 0, none⟩ = some (.int .i64 ax) ∧ w'.cell? ⟨w.heap.size, 1, none⟩ = some (.int .i64 ay) ∧ w'.cell? ⟨w.heap.size + 1, 0, none⟩ = some (.int .i64 bx) ∧ w'.cell? ⟨w.heap.size + 1, 1, none⟩ = some (.int .i64 by_) ∧ w'.cell? ⟨w.heap.size + 2, 0, none⟩ = some (heldB w' (w.heap.size + 2) 0) ∧ w'.cell? ⟨w.heap.size + 2, 1, none⟩ = some (heldB w' (w.heap.size + 2) 1) ∧ w'.frozen? ⟨w.heap.size + 2, 0, none⟩ = false ∧ w'.frozen? ⟨w.heap.size + 2, 1, none⟩ = false) (first | assumption | (with_reducible refine In2.s ?_; assumption) | (with_reducible exact In2.s (In2.drew hm)) | (with_reducible refine In2.s (In2.set (In2.set ?_)); exact And.left (by assumption)) | (with_reducible exact In2.s (In2.drew (In2.set (In2.set hm)))) | (with_reducible exact In2.s (In2.set (In2.set hm))) | (with_reducible exact In2.s (In2.set (In2.set (In2.drew hm))))) (first | (go_at_call 137; with_reducible refine (hd1 _).mono ?_; rintro e w' ⟨rfl, rfl⟩) | (go_at_call 137; with_reducible refine (hd2 _).mono ?_; rintro e w' ⟨rfl, rfl⟩))
    obtain ⟨t1, t2⟩ := In2.read hm (.int .i64 (ax + divR (i * (bx - ax)) n)) (.int .i64 (ay + divR (i * (by_ - ay)) n))
    have hBf := (In2.set (k := 1) (v := .int .i64 (ay + divR (i * (by_ - ay)) n)) (In2.set (k := 0) (v := .int .i64 (ax + divR (i * (bx - ax)) n)) hm)).1
    generalize (World.setCell (World.setCell wz ⟨w.heap.size + 2, 0, none⟩ (.int .i64 (ax + divR (i * (bx - ax)) n))) ⟨w.heap.size + 2, 1, none⟩ (.int .i64 (ay + divR (i * (by_ - ay)) n))) = wf at t1 t2 hBf ⊢
    go_wp2
    refine bodyPost_ret (by simp [results, Tryd.results113, go_sem, t1, t2]; try rfl) rfl ?_
    exact ⟨hV.out, hBf.drew⟩
set_option maxHeartbeats 400000 in
theorem spec_btw (ax ay bx by_ i n : Int) (w : World) (h1 : -1 ≤ ax ∧ ax ≤ 200001) (h2 : -1 ≤ ay ∧ ay ≤ 200001) (h3 : -1 ≤ bx ∧ bx ≤ 200001) (h4 : -1 ≤ by_ ∧ by_ ≤ 200001) (h5 : 0 ≤ i ∧ i ≤ n) (h6 : 1 ≤ n ∧ n ≤ 1000000) :
    Calls Tryd.prog 113 #[.agg #[.int .i64 ax, .int .i64 ay], .agg #[.int .i64 bx, .int .i64 by_], .int .i64 i, .int .i64 n] w fun e w' => e = .returned (.agg #[.int .i64 (btwM ax ay bx by_ i n).1, .int .i64 (btwM ax ay bx by_ i n).2]) ∧ Below w.heap.size w w' := by
  unfold btwM
  cases ht : turnB ax ay bx by_
  · exact spec_btw_no ax ay bx by_ i n w h1 h2 h3 h4 h5 h6 ht
  · exact spec_btw_yes bx by_ ax ay (n - i) i n w h3 h4 h1 h2 (by omega) h6 rfl ht
end Go.Proofs.YtbikppndhidbpaaDoor
