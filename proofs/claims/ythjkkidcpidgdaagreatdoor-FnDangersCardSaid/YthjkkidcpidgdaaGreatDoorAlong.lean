/-
  Contracts of places along a line and of gates: the program's and the reference's. Under the conditions that each states.
-/
import Derived.Test.YthjkkidcpidgdaaGreatDoorLine
import Derived.Test.YthjkkidcpidgdaaGreatDoorGateM
import Derived.Test.YthjkkidcpidgdaaGreatDoorQt
import Derived.Deep.RegionHeld3
set_option linter.unusedVariables false
set_option linter.unnecessarySimpa false
set_option maxRecDepth 100000
set_option linter.unusedSimpArgs false
namespace Go.Proofs.YthjkkidcpidgdaaGreatDoor
open Go.RowKit BigFrame

theorem end_atA {P : Program} {f : Func} {post : Ending → World → Prop} {e : Exit} {a : Act} {W : World} (h : ∀ wf, wf = W → bodyPost P f post e a wf) : bodyPost P f post e a W := h W rfl
/-- Two cells that may be written. -/
def Ey (w : World) (g : Nat) : Prop := g < w.heap.size ∧ ((w.cell? ⟨g, 0, none⟩).isSome = true ∧ (w.cell? ⟨g, 1, none⟩).isSome = true) ∧ w.frozen? ⟨g, 0, none⟩ = false ∧ w.frozen? ⟨g, 1, none⟩ = false
theorem Ey.on {w w1 : World} {g : Nat} (h : Ey w g) (hb : Below w.heap.size w w1) : Ey w1 g := by
  obtain ⟨h1, ⟨h2, h3⟩, h4, h5⟩ := h
  obtain ⟨hc, hf⟩ := bcell hb
  exact ⟨Nat.lt_of_lt_of_le h1 hb.size, ⟨by rw [hc _ _ h1]; exact h2, by rw [hc _ _ h1]; exact h3⟩, (hf _ _ h1).trans h4, (hf _ _ h1).trans h5⟩
theorem Ey.set {w : World} {g k o : Nat} {v : Value} (h : Ey w g) : Ey (w.setCell ⟨k, o, none⟩ v) g := by
  obtain ⟨h1, ⟨h2, h3⟩, h4, h5⟩ := h
  refine ⟨by simpa using h1, ⟨?_, ?_⟩, by simpa [go_sem] using h4, by simpa [go_sem] using h5⟩
  · by_cases hk : (⟨k, o, none⟩ : Addr) = ⟨g, 0, none⟩
    · obtain ⟨u, hu⟩ := Option.isSome_iff_exists.1 h2
      rw [hk, World.cell?_setCell_same _ _ _ hu]; rfl
    · rw [World.cell?_setCell_other _ _ _ _ hk]; exact h2
  · by_cases hk : (⟨k, o, none⟩ : Addr) = ⟨g, 1, none⟩
    · obtain ⟨u, hu⟩ := Option.isSome_iff_exists.1 h3
      rw [hk, World.cell?_setCell_same _ _ _ hu]; rfl
    · rw [World.cell?_setCell_other _ _ _ _ hk]; exact h3
theorem Ey.read {w : World} {g : Nat} (h : Ey w g) (u v : Value) : ((w.setCell ⟨g, 0, none⟩ u).setCell ⟨g, 1, none⟩ v).cell? ⟨g, 0, none⟩ = some u ∧ ((w.setCell ⟨g, 0, none⟩ u).setCell ⟨g, 1, none⟩ v).cell? ⟨g, 1, none⟩ = some v := by
  obtain ⟨a, ha⟩ := Option.isSome_iff_exists.1 h.2.1.1
  obtain ⟨b, hb⟩ := Option.isSome_iff_exists.1 (h.set (k := g) (o := 0) (v := u)).2.1.2
  constructor
  · rw [World.cell?_setCell_other _ _ _ _ (fun e => by simp at e), World.cell?_setCell_same _ _ _ ha]
  · rw [World.cell?_setCell_same _ _ _ hb]
theorem Ey.new (w : World) (a b : Int) (t : TypeId) : Ey (w.alloc (.cells #[.int .i64 a, .int .i64 b] t)) w.heap.size := ⟨by simp, ⟨by simp, by simp⟩, by simp, by simp⟩
theorem PtB.on {w w1 : World} {g : Nat} {x y : Int} (h : PtB w g x y) (hb : Below w.heap.size w w1) : PtB w1 g x y := by
  obtain ⟨h1, h2, h3⟩ := h
  obtain ⟨hc, _⟩ := bcell hb
  exact ⟨Nat.lt_of_lt_of_le h1 hb.size, (hc _ _ h1).trans h2, (hc _ _ h1).trans h3⟩
theorem PtB.set {w : World} {g k o : Nat} {x y : Int} {v : Value} (h : PtB w g x y) (hne : k ≠ g) : PtB (w.setCell ⟨k, o, none⟩ v) g x y := by
  obtain ⟨h1, h2, h3⟩ := h
  refine ⟨by simpa using h1, ?_, ?_⟩
  · rw [World.cell?_setCell_other _ _ _ _ (fun e => hne (congrArg Addr.block e))]; exact h2
  · rw [World.cell?_setCell_other _ _ _ _ (fun e => hne (congrArg Addr.block e))]; exact h3
/-- Two points of a row and the result's variable, in a world that has grown. -/
def Pl (w : World) (b o1 o2 : Nat) (p a : RPoint) (w' : World) : Prop := Below w.heap.size w w' ∧ b < w.heap.size ∧ (w'.cell? ⟨b, o1, none⟩ = some (.int .i64 p.f0) ∧ w'.cell? ⟨b, o1 + 1, none⟩ = some (.int .i64 p.f1) ∧ w'.cell? ⟨b, o2, none⟩ = some (.int .i64 a.f0) ∧ w'.cell? ⟨b, o2 + 1, none⟩ = some (.int .i64 a.f1)) ∧ Ey w' w.heap.size
theorem Pl.on {w w1 w2 : World} {b o1 o2 : Nat} {p a : RPoint} (h : Pl w b o1 o2 p a w1) (hb : Below w1.heap.size w1 w2) : Pl w b o1 o2 p a w2 := by
  obtain ⟨h1, h2, ⟨c0, c1, c2, c3⟩, h4⟩ := h
  have hl := Nat.lt_of_lt_of_le h2 h1.size
  obtain ⟨hc, _⟩ := bcell hb
  exact ⟨bnext h1 hb, h2, ⟨(hc _ _ hl).trans c0, (hc _ _ hl).trans c1, (hc _ _ hl).trans c2, (hc _ _ hl).trans c3⟩, h4.on hb⟩
theorem Pl.drew {w w1 : World} {b o1 o2 : Nat} {p a : RPoint} (h : Pl w b o1 o2 p a w1) : Pl w b o1 o2 p a w1.drew := h.on ((Below.refl _ _).drew)
theorem Pl.set {w w1 : World} {b o1 o2 k : Nat} {p a : RPoint} {v : Value} (h : Pl w b o1 o2 p a w1) : Pl w b o1 o2 p a (w1.setCell ⟨w.heap.size, k, none⟩ v) := by
  obtain ⟨h1, h2, ⟨c0, c1, c2, c3⟩, h4⟩ := h
  have hne : ∀ o, (⟨w.heap.size, k, none⟩ : Addr) ≠ ⟨b, o, none⟩ := fun o e => by have := congrArg Addr.block e; simp at this; omega
  refine ⟨h1.setCell (by simp) _, h2, ⟨?_, ?_, ?_, ?_⟩, h4.set⟩
  · rw [World.cell?_setCell_other _ _ _ _ (hne _)]; exact c0
  · rw [World.cell?_setCell_other _ _ _ _ (hne _)]; exact c1
  · rw [World.cell?_setCell_other _ _ _ _ (hne _)]; exact c2
  · rw [World.cell?_setCell_other _ _ _ _ (hne _)]; exact c3
/-- Two points in variables and three results to be written, in a world that has grown. -/
def Al (w : World) (g1 g2 : Nat) (p a : RPoint) (w' : World) : Prop := Below w.heap.size w w' ∧ (w.heap.size + 3 < g1 ∧ w.heap.size + 3 < g2) ∧ PtB w' g1 p.f0 p.f1 ∧ PtB w' g2 a.f0 a.f1 ∧ Ey w' (w.heap.size + 1) ∧ Ey w' (w.heap.size + 2) ∧ Ey w' (w.heap.size + 3)
theorem Al.on {w w1 w2 : World} {g1 g2 : Nat} {p a : RPoint} (h : Al w g1 g2 p a w1) (hb : Below w1.heap.size w1 w2) : Al w g1 g2 p a w2 := by
  obtain ⟨h1, h2, h3, h4, h5, h6, h7⟩ := h
  exact ⟨bnext h1 hb, h2, h3.on hb, h4.on hb, h5.on hb, h6.on hb, h7.on hb⟩
theorem Al.drew {w w1 : World} {g1 g2 : Nat} {p a : RPoint} (h : Al w g1 g2 p a w1) : Al w g1 g2 p a w1.drew := h.on ((Below.refl _ _).drew)
theorem Al.set {w w1 : World} {g1 g2 i o : Nat} {p a : RPoint} {v : Value} (h : Al w g1 g2 p a w1) (hi : i ≤ 3) : Al w g1 g2 p a (w1.setCell ⟨w.heap.size + i, o, none⟩ v) := by
  obtain ⟨h1, h2, h3, h4, h5, h6, h7⟩ := h
  exact ⟨h1.setCell (by simp) _, h2, h3.set (by omega), h4.set (by omega), h5.set, h6.set, h7.set⟩
theorem Al.sets {w w1 : World} {g1 g2 : Nat} {p a : RPoint} {u v : Value} (h : Al w g1 g2 p a w1) (i : Nat) (hi : i ≤ 3) : Al w g1 g2 p a ((w1.setCell ⟨w.heap.size + i, 0, none⟩ u).setCell ⟨w.heap.size + i, 1, none⟩ v) := (h.set hi).set hi
theorem Al.s {w w1 : World} {g1 g2 : Nat} {p a : RPoint} (h : Al w g1 g2 p a w1) : (Al w g1 g2 p a w1 ∧ (w1).cell? ⟨g1, 0, none⟩ = some (.int .i64 p.f0) ∧ (w1).cell? ⟨g1, 1, none⟩ = some (.int .i64 p.f1) ∧ (w1).cell? ⟨g2, 0, none⟩ = some (.int .i64 a.f0) ∧ (w1).cell? ⟨g2, 1, none⟩ = some (.int .i64 a.f1) ∧ (w1).cell? ⟨w.heap.size + 1, 0, none⟩ = some (heldB w1 (w.heap.size + 1) 0) ∧ (w1).cell? ⟨w.heap.size + 1, 1, none⟩ = some (heldB w1 (w.heap.size + 1) 1) ∧ (w1).frozen? ⟨w.heap.size + 1, 0, none⟩ = false ∧ (w1).frozen? ⟨w.heap.size + 1, 1, none⟩ = false ∧ (w1).cell? ⟨w.heap.size + 2, 0, none⟩ = some (heldB w1 (w.heap.size + 2) 0) ∧ (w1).cell? ⟨w.heap.size + 2, 1, none⟩ = some (heldB w1 (w.heap.size + 2) 1) ∧ (w1).frozen? ⟨w.heap.size + 2, 0, none⟩ = false ∧ (w1).frozen? ⟨w.heap.size + 2, 1, none⟩ = false ∧ (w1).cell? ⟨w.heap.size + 3, 0, none⟩ = some (heldB w1 (w.heap.size + 3) 0) ∧ (w1).cell? ⟨w.heap.size + 3, 1, none⟩ = some (heldB w1 (w.heap.size + 3) 1) ∧ (w1).frozen? ⟨w.heap.size + 3, 0, none⟩ = false ∧ (w1).frozen? ⟨w.heap.size + 3, 1, none⟩ = false) := by
  obtain ⟨h1, h2, h3, h4, h5, h6, h7⟩ := id h
  exact ⟨h, h3.2.1, h3.2.2, h4.2.1, h4.2.2, heldB_is h5.2.1.1, heldB_is h5.2.1.2, h5.2.2.1, h5.2.2.2, heldB_is h6.2.1.1, heldB_is h6.2.1.2, h6.2.2.1, h6.2.2.2, heldB_is h7.2.1.1, heldB_is h7.2.1.2, h7.2.2.1, h7.2.2.2⟩
theorem Al.read {w w1 : World} {g1 g2 : Nat} {p a : RPoint} (h : Al w g1 g2 p a w1) (u1 v1 u2 v2 u3 v3 : Value) {wf : World} (hwf : wf = (((((w1.setCell ⟨w.heap.size + 1, 0, none⟩ u1).setCell ⟨w.heap.size + 1, 1, none⟩ v1).setCell ⟨w.heap.size + 2, 0, none⟩ u2).setCell ⟨w.heap.size + 2, 1, none⟩ v2).setCell ⟨w.heap.size + 3, 0, none⟩ u3).setCell ⟨w.heap.size + 3, 1, none⟩ v3) :
    (wf.cell? ⟨w.heap.size + 1, 0, none⟩ = some u1 ∧ wf.cell? ⟨w.heap.size + 1, 1, none⟩ = some v1 ∧ wf.cell? ⟨w.heap.size + 2, 0, none⟩ = some u2 ∧ wf.cell? ⟨w.heap.size + 2, 1, none⟩ = some v2 ∧ wf.cell? ⟨w.heap.size + 3, 0, none⟩ = some u3 ∧ wf.cell? ⟨w.heap.size + 3, 1, none⟩ = some v3) ∧ Below w.heap.size w wf := by
  have k1 := h.2.2.2.2.1.read u1 v1
  have h' := h.sets (u := u1) (v := v1) 1 (by omega)
  have k2 := h'.2.2.2.2.2.1.read u2 v2
  have h'' := h'.sets (u := u2) (v := v2) 2 (by omega)
  have k3 := h''.2.2.2.2.2.2.read u3 v3
  have h3 := h''.sets (u := u3) (v := v3) 3 (by omega)
  subst hwf
  have hne : ∀ (i j o o' : Nat), i ≠ j → (⟨w.heap.size + i, o, none⟩ : Addr) ≠ ⟨w.heap.size + j, o', none⟩ := fun i j o o' hij e => by have := congrArg Addr.block e; simp at this; omega
  refine ⟨⟨?_, ?_, ?_, ?_, k3.1, k3.2⟩, h3.1⟩
  · rw [World.cell?_setCell_other _ _ _ _ (hne 3 1 _ _ (by omega)), World.cell?_setCell_other _ _ _ _ (hne 3 1 _ _ (by omega)), World.cell?_setCell_other _ _ _ _ (hne 2 1 _ _ (by omega)), World.cell?_setCell_other _ _ _ _ (hne 2 1 _ _ (by omega))]; exact k1.1
  · rw [World.cell?_setCell_other _ _ _ _ (hne 3 1 _ _ (by omega)), World.cell?_setCell_other _ _ _ _ (hne 3 1 _ _ (by omega)), World.cell?_setCell_other _ _ _ _ (hne 2 1 _ _ (by omega)), World.cell?_setCell_other _ _ _ _ (hne 2 1 _ _ (by omega))]; exact k1.2
  · rw [World.cell?_setCell_other _ _ _ _ (hne 3 2 _ _ (by omega)), World.cell?_setCell_other _ _ _ _ (hne 3 2 _ _ (by omega))]; exact k2.1
  · rw [World.cell?_setCell_other _ _ _ _ (hne 3 2 _ _ (by omega)), World.cell?_setCell_other _ _ _ _ (hne 3 2 _ _ (by omega))]; exact k2.2
end Go.Proofs.YthjkkidcpidgdaaGreatDoor
