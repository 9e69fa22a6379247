/-
  Contracts of moving a point by a bearing and a distance: the program's and the reference's. Each under the conditions that it states.
-/
import Derived.Test.YthjkkidcpidgdaaGreatDoorLead2
import Derived.Test.YthjkkidcpidgdaaGreatDoorBear
import Derived.Deep.RegionHeld3
import Derived.IntWalk
set_option linter.unusedVariables false
set_option linter.unnecessarySimpa false
set_option maxRecDepth 100000
set_option linter.unusedSimpArgs false
namespace Go.Proofs.YthjkkidcpidgdaaGreatDoor
open Go.RowKit BigFrame

def stepM (d s : Int) : Int := divR (d * s) 1000000
theorem stepM_bd {d s : Int} (h1 : -1000000 ≤ d ∧ d ≤ 1000000) (h2 : -1000000 ≤ s ∧ s ≤ 1000000) : (-1000000000000 ≤ d * s ∧ d * s ≤ 1000000000000) ∧ -1000000000001 ≤ stepM d s ∧ stepM d s ≤ 1000000000001 := by
  have k := mul_bd (x := d) (y := s) (B := 1000000) (C := 1000000) (by omega) (by omega) (by omega) (by omega)
  have := divR_bd (a := d * s) (b := 1000000) (A := 1000000000000) (by omega) (by omega) (by omega)
  unfold stepM; omega
/-- A point and the result's variable, in a world that has grown. -/
def MoveIn (w : World) (x y : Int) (w' : World) : Prop := Below w.heap.size w w' ∧ Pt w' w.heap.size x y ∧ w.heap.size + 1 < w'.heap.size ∧ ((w'.cell? ⟨w.heap.size + 1, 0, none⟩).isSome = true ∧ (w'.cell? ⟨w.heap.size + 1, 1, none⟩).isSome = true) ∧ w'.frozen? ⟨w.heap.size + 1, 0, none⟩ = false ∧ w'.frozen? ⟨w.heap.size + 1, 1, none⟩ = false
theorem MoveIn.on {w w1 w2 : World} {x y : Int} (h : MoveIn w x y w1) (hb : Below w1.heap.size w1 w2) : MoveIn w x y w2 := by
  obtain ⟨h1, h2, h3, h4, h5, h6⟩ := h
  exact ⟨bnext h1 hb, h2.on hb, Nat.lt_of_lt_of_le h3 hb.size, ⟨by rw [hb.cell (p := ⟨_, 0, none⟩) h3]; exact h4.1, by rw [hb.cell (p := ⟨_, 1, none⟩) h3]; exact h4.2⟩, ((bcell hb).2 _ _ h3).trans h5, ((bcell hb).2 _ _ h3).trans h6⟩
def heldAt (w : World) (b o : Nat) : Value := (w.cell? ⟨b, o, none⟩).getD undef
theorem heldAt_is {w : World} {b o : Nat} (h : (w.cell? ⟨b, o, none⟩).isSome = true) : w.cell? ⟨b, o, none⟩ = some (heldAt w b o) := by
  obtain ⟨u, hu⟩ := Option.isSome_iff_exists.1 h
  unfold heldAt; rw [hu]; rfl
theorem MoveIn.s {w w1 : World} {x y : Int} (h : MoveIn w x y w1) : MoveIn w x y w1 ∧ (w1).cell? ⟨w.heap.size, 0, none⟩ = some (.int .i64 x) ∧ (w1).cell? ⟨w.heap.size, 1, none⟩ = some (.int .i64 y) ∧ (w1).cell? ⟨w.heap.size + 1, 0, none⟩ = some (heldAt w1 (w.heap.size + 1) 0) ∧ (w1).cell? ⟨w.heap.size + 1, 1, none⟩ = some (heldAt w1 (w.heap.size + 1) 1) ∧ (w1).frozen? ⟨w.heap.size + 1, 0, none⟩ = false ∧ (w1).frozen? ⟨w.heap.size + 1, 1, none⟩ = false := ⟨h, h.2.1.2.1, h.2.1.2.2, heldAt_is h.2.2.2.1.1, heldAt_is h.2.2.2.1.2, h.2.2.2.2.1, h.2.2.2.2.2⟩
theorem MoveIn.drew {w w1 : World} {x y : Int} (h : MoveIn w x y w1) : MoveIn w x y w1.drew := h.on ((Below.refl _ _).drew)
theorem MoveIn.set {w w1 : World} {x y : Int} {k : Nat} {v : Value} (h : MoveIn w x y w1) : MoveIn w x y (w1.setCell ⟨w.heap.size + 1, k, none⟩ v) := by
  obtain ⟨h1, ⟨h2, h2', h2''⟩, h3, h4, h5, h6⟩ := h
  have hne : ∀ o, (⟨w.heap.size + 1, k, none⟩ : Addr) ≠ ⟨w.heap.size, o, none⟩ := fun o e => by simp at e
  refine ⟨h1.setCell (by simp) _, ⟨by simpa using h2, ?_, ?_⟩, by simpa using h3, ⟨?_, ?_⟩, ?_, ?_⟩
  · rw [World.cell?_setCell_other _ _ _ _ (hne 0)]; exact h2'
  · rw [World.cell?_setCell_other _ _ _ _ (hne 1)]; exact h2''
  · by_cases hk : k = 0
    · subst hk
      obtain ⟨u, hu⟩ := Option.isSome_iff_exists.1 h4.1
      rw [World.cell?_setCell_same _ _ _ hu]; rfl
    · rw [World.cell?_setCell_other _ _ _ _ (fun e => hk (congrArg Addr.off e))]; exact h4.1
  · by_cases hk : k = 1
    · subst hk
      obtain ⟨u, hu⟩ := Option.isSome_iff_exists.1 h4.2
      rw [World.cell?_setCell_same _ _ _ hu]; rfl
    · rw [World.cell?_setCell_other _ _ _ _ (fun e => hk (congrArg Addr.off e))]; exact h4.2
  · simpa [go_sem] using h5
  · simpa [go_sem] using h6
theorem MoveIn.read {w w1 : World} {x y : Int} (h : MoveIn w x y w1) (u v : Value) : ((w1.setCell ⟨w.heap.size + 1, 0, none⟩ u).setCell ⟨w.heap.size + 1, 1, none⟩ v).cell? ⟨w.heap.size + 1, 0, none⟩ = some u ∧ ((w1.setCell ⟨w.heap.size + 1, 0, none⟩ u).setCell ⟨w.heap.size + 1, 1, none⟩ v).cell? ⟨w.heap.size + 1, 1, none⟩ = some v := by
  obtain ⟨a, ha⟩ := Option.isSome_iff_exists.1 h.2.2.2.1.1
  obtain ⟨b, hb⟩ := Option.isSome_iff_exists.1 (h.set (k := 0) (v := u)).2.2.2.1.2
  constructor
  · rw [World.cell?_setCell_other _ _ _ _ (fun e => by simp at e), World.cell?_setCell_same _ _ _ ha]
  · rw [World.cell?_setCell_same _ _ _ hb]

theorem moveS_on {w w1 w2 : World} {x y : Int} (h : MoveIn w x y w1 ∧ w1.cell? ⟨w.heap.size, 0, none⟩ = some (.int .i64 x) ∧ w1.cell? ⟨w.heap.size, 1, none⟩ = some (.int .i64 y) ∧ w1.cell? ⟨w.heap.size + 1, 0, none⟩ = some (heldAt w1 (w.heap.size + 1) 0) ∧ w1.cell? ⟨w.heap.size + 1, 1, none⟩ = some (heldAt w1 (w.heap.size + 1) 1) ∧ w1.frozen? ⟨w.heap.size + 1, 0, none⟩ = false ∧ w1.frozen? ⟨w.heap.size + 1, 1, none⟩ = false) (hb : Below w1.heap.size w1 w2) : MoveIn w x y w2 := h.1.on hb

set_option maxHeartbeats 1600000 in
theorem spec_Move (x y b d : Int) (w : World) (h1 : -1000000 ≤ x ∧ x ≤ 1000000) (h2 : -1000000 ≤ y ∧ y ≤ 1000000) (h3 : -1000000 ≤ d ∧ d ≤ 1000000) :
    Calls Tryz.prog 80 #[.agg #[.int .i64 x, .int .i64 y], .int .i64 b, .int .i64 d] w fun e w' => e = .returned (.agg #[.int .i64 (x + stepM d (sinM b)), .int .i64 (y + stepM d (cosM b))]) ∧ Below w.heap.size w w' := by
  have k1 := stepM_bd h3 (sinM_bd b)
  have k2 := stepM_bd h3 (cosM_bd b)
  have hd1 : ∀ w, Calls Tryz.prog 104 #[.int .i64 (d * sinM b), .int .i64 1000000] w fun e w' => e = .returned (.int .i64 (stepM d (sinM b))) ∧ w = w' := fun w => spec_Div _ _ _ (by omega) (by omega) (by omega) (by omega) (by omega)
  have hd2 : ∀ w, Calls Tryz.prog 104 #[.int .i64 (d * cosM b), .int .i64 1000000] w fun e w' => e = .returned (.int .i64 (stepM d (cosM b))) ∧ w = w' := fun w => spec_Div _ _ _ (by omega) (by omega) (by omega) (by omega) (by omega)
  have hsn : ∀ w, Calls Tryz.prog 105 #[.int .i64 b] w fun e w' => e = .returned (.int .i64 (sinM b)) ∧ Below w.heap.size w w' := fun w => spec_Sine b w
  have hcs : ∀ w, Calls Tryz.prog 106 #[.int .i64 b] w fun e w' => e = .returned (.int .i64 (cosM b)) ∧ Below w.heap.size w w' := fun w => spec_Cosine b w
  generalize sinM b = s at *
  generalize cosM b = c at *
  go_enter Tryz.func80, Tryz.ntmps80
  go_wp2_with fail
  have hM : ∀ wz : World, wz = (w.alloc (.cells #[.int .i64 x, .int .i64 y] 34)).alloc (.cells #[.int .i64 0, .int .i64 0] 34) → MoveIn w x y wz := fun wz hz => by
    subst hz
    exact ⟨by go_grown, ⟨by simp; omega, by simp [go_sem], by simp [go_sem]⟩, by simp, ⟨by simp [go_sem], by simp [go_sem]⟩, by simp [go_sem], by simp [go_sem]⟩
  generalize hz : (w.alloc (.cells #[.int .i64 x, .int .i64 y] 34)).alloc (.cells #[.int .i64 0, .int .i64 0] 34) = wz
  have hm := hM wz hz.symm
  obtain ⟨_, n1, n2, n3, n4, n5, n6⟩ := MoveIn.s hm
  clear hM hz
  have q1 : IntKind.i64.wrap (d * s) = d * s := IntWalk.i64_in _ (by omega)
  have q2 : IntKind.i64.wrap (d * c) = d * c := IntWalk.i64_in _ (by omega)
  have q3 : IntKind.i64.wrap (x + stepM d s) = x + stepM d s := IntWalk.i64_in _ (by omega)
  have q4 : IntKind.i64.wrap (y + stepM d c) = y + stepM d c := IntWalk.i64_in _ (by omega)
  clear h1 h2 h3 k1 k2
  go_region_held3 (fun w' => MoveIn w x y w' ∧ w'.cell? ⟨w.heap.size, 0, none⟩ = some (.int .i64 x) ∧ w'.cell? ⟨w.heap.size, 1, none⟩ = some (.int .i64 y) ∧ w'.cell? ⟨w.heap.size + 1, 0, none⟩ = some (heldAt w' (w.heap.size + 1) 0) ∧ w'.cell? ⟨w.heap.size + 1, 1, none⟩ = some (heldAt w' (w.heap.size + 1) 1) ∧ w'.frozen? ⟨w.heap.size + 1, 0, none⟩ = false ∧ w'.frozen? ⟨w.heap.size + 1, 1, none⟩ = false) (first | assumption | (with_reducible refine MoveIn.s ?_; assumption) | (with_reducible exact MoveIn.s (MoveIn.drew hm)) | (with_reducible refine MoveIn.s (MoveIn.set (MoveIn.set ?_)); exact And.left (by assumption)) | (with_reducible exact MoveIn.s (MoveIn.drew (MoveIn.set (MoveIn.set hm)))) | (with_reducible exact MoveIn.s (MoveIn.set (MoveIn.set hm))) | (with_reducible exact MoveIn.s (MoveIn.set (MoveIn.set (MoveIn.drew hm))))) (first | (go_at_call 105; refine (hsn _).mono ?_; rintro e w1 ⟨rfl, hb1⟩; (have hm1 := moveS_on (by assumption) hb1)) | (go_at_call 106; refine (hcs _).mono ?_; rintro e w1 ⟨rfl, hb1⟩; (have hm1 := moveS_on (by assumption) hb1)) | (go_at_call 104; with_reducible refine (hd1 _).mono ?_; rintro e w' ⟨rfl, rfl⟩) | (go_at_call 104; with_reducible refine (hd2 _).mono ?_; rintro e w' ⟨rfl, rfl⟩))
  obtain ⟨t1, t2⟩ := MoveIn.read hm1 (.int .i64 (x + stepM d s)) (.int .i64 (y + stepM d c))
  have hBf := (MoveIn.set (k := 1) (v := .int .i64 (y + stepM d c)) (MoveIn.set (k := 0) (v := .int .i64 (x + stepM d s)) hm1)).1
  generalize (World.setCell (World.setCell w1 ⟨w.heap.size + 1, 0, none⟩ (.int .i64 (x + stepM d s))) ⟨w.heap.size + 1, 1, none⟩ (.int .i64 (y + stepM d c))) = wf at t1 t2 hBf ⊢
  go_wp2
  refine bodyPost_ret (by simp [results, Tryz.results80, go_sem, t1, t2]; try rfl) rfl ?_
  exact ⟨rfl, hBf⟩

end Go.Proofs.YthjkkidcpidgdaaGreatDoor
