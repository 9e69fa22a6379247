/-
  Contracts of the point that divides a segment: the program's and the reference's. Under the conditions that each states.
-/
import Derived.Test.YthjkkidcpidgdaaGreatDoorBtwP
import Derived.Deep.RegionHeld3
import Derived.IntWalk
set_option linter.unusedVariables false
set_option linter.unnecessarySimpa false
set_option maxRecDepth 100000
set_option linter.unusedSimpArgs false
namespace Go.Proofs.YthjkkidcpidgdaaGreatDoor
open Go.RowKit BigFrame

theorem wp_atB {P : Program} {c : Code} {Q : Exit → Act → World → Prop} {a : Act} {W : World} (h : ∀ wf, wf = W → Code.wp P c Q a wf) : Code.wp P c Q a W := h W rfl
/-- A point in a variable. -/
def PtB (w : World) (g : Nat) (x y : Int) : Prop := g < w.heap.size ∧ w.cell? ⟨g, 0, none⟩ = some (.int .i64 x) ∧ w.cell? ⟨g, 1, none⟩ = some (.int .i64 y)
/-- Two points and the result's variable, in a world that has grown. -/
def In2 (w : World) (ax ay bx by_ : Int) (w' : World) : Prop := Below w.heap.size w w' ∧ PtB w' w.heap.size ax ay ∧ PtB w' (w.heap.size + 1) bx by_ ∧ w.heap.size + 2 < w'.heap.size ∧ ((w'.cell? ⟨w.heap.size + 2, 0, none⟩).isSome = true ∧ (w'.cell? ⟨w.heap.size + 2, 1, none⟩).isSome = true) ∧ w'.frozen? ⟨w.heap.size + 2, 0, none⟩ = false ∧ w'.frozen? ⟨w.heap.size + 2, 1, none⟩ = false
def heldB (w : World) (b o : Nat) : Value := (w.cell? ⟨b, o, none⟩).getD undef
theorem heldB_is {w : World} {b o : Nat} (h : (w.cell? ⟨b, o, none⟩).isSome = true) : w.cell? ⟨b, o, none⟩ = some (heldB w b o) := by
  obtain ⟨u, hu⟩ := Option.isSome_iff_exists.1 h
  unfold heldB; rw [hu]; rfl
theorem In2.s {w w1 : World} {ax ay bx by_ : Int} (h : In2 w ax ay bx by_ w1) : In2 w ax ay bx by_ w1 ∧ (w1).cell? ⟨w.heap.size, 0, none⟩ = some (.int .i64 ax) ∧ (w1).cell? ⟨w.heap.size, 1, none⟩ = some (.int .i64 ay) ∧ (w1).cell? ⟨w.heap.size + 1, 0, none⟩ = some (.int .i64 bx) ∧ (w1).cell? ⟨w.heap.size + 1, 1, none⟩ = some (.int .i64 by_) ∧ (w1).cell? ⟨w.heap.size + 2, 0, none⟩ = some (heldB w1 (w.heap.size + 2) 0) ∧ (w1).cell? ⟨w.heap.size + 2, 1, none⟩ = some (heldB w1 (w.heap.size + 2) 1) ∧ (w1).frozen? ⟨w.heap.size + 2, 0, none⟩ = false ∧ (w1).frozen? ⟨w.heap.size + 2, 1, none⟩ = false := ⟨h, h.2.1.2.1, h.2.1.2.2, h.2.2.1.2.1, h.2.2.1.2.2, heldB_is h.2.2.2.2.1.1, heldB_is h.2.2.2.2.1.2, h.2.2.2.2.2.1, h.2.2.2.2.2.2⟩
theorem In2.drew {w w1 : World} {ax ay bx by_ : Int} (h : In2 w ax ay bx by_ w1) : In2 w ax ay bx by_ w1.drew := by
  obtain ⟨h1, h2, h3, h4, h5, h6, h7⟩ := h
  exact ⟨h1.drew, h2, h3, h4, h5, h6, h7⟩
theorem In2.set {w w1 : World} {ax ay bx by_ : Int} {k : Nat} {v : Value} (h : In2 w ax ay bx by_ w1) : In2 w ax ay bx by_ (w1.setCell ⟨w.heap.size + 2, k, none⟩ v) := by
  obtain ⟨h1, ⟨h2, h2', h2''⟩, ⟨k2, k2', k2''⟩, h3, h4, h5, h6⟩ := h
  have hne : ∀ o, (⟨w.heap.size + 2, k, none⟩ : Addr) ≠ ⟨w.heap.size, o, none⟩ := fun o e => by simp at e
  have hne1 : ∀ o, (⟨w.heap.size + 2, k, none⟩ : Addr) ≠ ⟨w.heap.size + 1, o, none⟩ := fun o e => by simp at e
  refine ⟨h1.setCell (by simp) _, ⟨by simpa using h2, ?_, ?_⟩, ⟨by simpa using k2, ?_, ?_⟩, by simpa using h3, ⟨?_, ?_⟩, ?_, ?_⟩
  · rw [World.cell?_setCell_other _ _ _ _ (hne 0)]; exact h2'
  · rw [World.cell?_setCell_other _ _ _ _ (hne 1)]; exact h2''
  · rw [World.cell?_setCell_other _ _ _ _ (hne1 0)]; exact k2'
  · rw [World.cell?_setCell_other _ _ _ _ (hne1 1)]; exact k2''
  · by_cases hk : k = 0
    · subst hk
      obtain ⟨u, hu⟩ := Option.isSome_iff_exists.1 h4.1
      rw [World.cell?_setCell_same _ _ _ hu]; rfl
    · rw [World.cell?_setCell_other _ _ _ _ (fun e => hk (congrArg Addr.off e))]; exact h4.1
  · by_cases hk : k = 1
    · subst hk
      obtain ⟨u, hu⟩ := Option.isSome_iff_exists.1 h4.2
      rw [World.cell?_setCell_same _ _ _ hu]; rfl
    · rw [World.cell?_setCell_other _ _ _ _ (fun e => hk (congrArg Addr.off e))]; exact h4.2
  · simpa [go_sem] using h5
  · simpa [go_sem] using h6
theorem In2.read {w w1 : World} {ax ay bx by_ : Int} (h : In2 w ax ay bx by_ w1) (u v : Value) : ((w1.setCell ⟨w.heap.size + 2, 0, none⟩ u).setCell ⟨w.heap.size + 2, 1, none⟩ v).cell? ⟨w.heap.size + 2, 0, none⟩ = some u ∧ ((w1.setCell ⟨w.heap.size + 2, 0, none⟩ u).setCell ⟨w.heap.size + 2, 1, none⟩ v).cell? ⟨w.heap.size + 2, 1, none⟩ = some v := by
  obtain ⟨a, ha⟩ := Option.isSome_iff_exists.1 h.2.2.2.2.1.1
  obtain ⟨b, hb⟩ := Option.isSome_iff_exists.1 (h.set (k := 0) (v := u)).2.2.2.2.1.2
  constructor
  · rw [World.cell?_setCell_other _ _ _ _ (fun e => by simp at e), World.cell?_setCell_same _ _ _ ha]
  · rw [World.cell?_setCell_same _ _ _ hb]
end Go.Proofs.YthjkkidcpidgdaaGreatDoor
