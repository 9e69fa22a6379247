/-
  A row of cells that is stored into a variable: what it reads as. Under the conditions that each states.
-/
import Derived.Test.YthjkkidcpidgdaaGreatDoorKit
set_option linter.unusedVariables false
set_option maxRecDepth 100000
set_option linter.unusedSimpArgs false
namespace Go.Proofs.YthjkkidcpidgdaaGreatDoor
open Go.RowKit BigFrame

theorem somes_set {w : World} {p q : Addr} {v : Value} (h : (w.cell? q).isSome = true) : ((w.setCell p v).cell? q).isSome = true := by
  by_cases e : p = q
  · subst e
    obtain ⟨u, hu⟩ := Option.isSome_iff_exists.1 h
    rw [World.cell?_setCell_same _ _ _ hu]; rfl
  · rw [World.cell?_setCell_other _ _ _ _ e]; exact h
def setN (w : World) (g o : Nat) : List Value → World
  | [] => w
  | v :: vs => setN (w.setCell ⟨g, o, none⟩ v) g (o + 1) vs
theorem setN_ahead (g : Nat) : ∀ (vs : List Value) (w : World) (o q : Nat), q < o → (setN w g o vs).cell? ⟨g, q, none⟩ = w.cell? ⟨g, q, none⟩
  | [], w, o, q, h => rfl
  | v :: vs, w, o, q, h => by
    have ih := setN_ahead g vs (w.setCell ⟨g, o, none⟩ v) (o + 1) q (by omega)
    show (setN (w.setCell ⟨g, o, none⟩ v) g (o + 1) vs).cell? ⟨g, q, none⟩ = _
    rw [ih, World.cell?_setCell_other _ _ _ _ (fun e => by have := congrArg Addr.off e; simp at this; omega)]
theorem setN_read (g : Nat) : ∀ (vs : List Value) (w : World) (o : Nat), (∀ k, k < vs.length → (w.cell? ⟨g, o + k, none⟩).isSome = true) → ∀ (k : Nat) (u : Value), vs[k]? = some u → (setN w g o vs).cell? ⟨g, o + k, none⟩ = some u
  | [], w, o, h, k, u, hu => by simp at hu
  | v :: vs, w, o, h, 0, u, hu => by
    obtain ⟨x, hx⟩ := Option.isSome_iff_exists.1 (h 0 (by simp))
    simp at hu
    subst hu
    show (setN (w.setCell ⟨g, o, none⟩ v) g (o + 1) vs).cell? ⟨g, o + 0, none⟩ = _
    rw [setN_ahead g vs _ _ _ (by omega)]
    exact World.cell?_setCell_same _ _ _ hx
  | v :: vs, w, o, h, k + 1, u, hu => by
    have ih := setN_read g vs (w.setCell ⟨g, o, none⟩ v) (o + 1) (fun j hj => somes_set (by have := h (j + 1) (by simp; omega); rwa [Nat.add_assoc, Nat.add_comm 1 j])) k u (by simpa using hu)
    rw [Nat.add_assoc, Nat.add_comm 1 k] at ih
    exact ih
theorem setN_below {B g : Nat} (hg : B ≤ g) : ∀ (vs : List Value) {a w : World} (o : Nat), Below B a w → Below B a (setN w g o vs)
  | [], _, _, _, h => h
  | v :: vs, _, _, o, h => setN_below hg vs (o + 1) (h.setCell hg v)
/-- The first n cells of a block, to be written. -/
def En (w : World) (g n : Nat) : Prop := g < w.heap.size ∧ ∀ k, k < n → (w.cell? ⟨g, k, none⟩).isSome = true ∧ w.frozen? ⟨g, k, none⟩ = false
theorem En.on {w w1 : World} {g n : Nat} (h : En w g n) (hb : Below w.heap.size w w1) : En w1 g n := by
  obtain ⟨h1, h2⟩ := h
  obtain ⟨hc, hf⟩ := bcell hb
  exact ⟨Nat.lt_of_lt_of_le h1 hb.size, fun k hk => ⟨by rw [hc _ _ h1]; exact (h2 k hk).1, (hf _ _ h1).trans (h2 k hk).2⟩⟩
theorem En.at {w : World} {g n k : Nat} (h : En w g n) (hk : k < n) : (∃ u, w.cell? ⟨g, k, none⟩ = some u) ∧ w.frozen? ⟨g, k, none⟩ = false := ⟨Option.isSome_iff_exists.1 (h.2 k hk).1, (h.2 k hk).2⟩
theorem En.new (w : World) (cs : Array Value) (t : TypeId) : En (w.alloc (.cells cs t)) w.heap.size cs.size := by
  refine ⟨by simp, fun k hk => ⟨?_, by simp⟩⟩
  have : (w.alloc (.cells cs t)).heap[w.heap.size]? = some (.cells cs t) := heap_alloc_new w _
  simp only [World.cell?, this]
  simp [hk]
theorem En.read {w wf : World} {g : Nat} {vs : List Value} (h : En w g vs.length) (hwf : wf = setN w g 0 vs) : ∀ (k : Nat) (u : Value), vs[k]? = some u → wf.cell? ⟨g, k, none⟩ = some u := fun k u hu => by
  have := setN_read g vs w 0 (fun j hj => by rw [Nat.zero_add]; exact (h.2 j hj).1) k u hu
  rw [hwf]
  simpa using this
end Go.Proofs.YthjkkidcpidgdaaGreatDoor
