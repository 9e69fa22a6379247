/-
  Contracts of points that are drawn, two or three together. Each under the conditions that it states.
-/
import Derived.Test.YthjkkidcpidgdaaGreatDoorDraw2
import Derived.Test.YthjkkidcpidgdaaGreatDoorDraw3
import Derived.Test.YthjkkidcpidgdaaGreatDoorR8D
import Derived.Test.YthjkkidcpidgdaaGreatDoorMark
import Derived.Test.YthjkkidcpidgdaaGreatDoorBtw
import Derived.Deep.RegionHeld3
set_option linter.unusedVariables false
set_option linter.unnecessarySimpa false
set_option maxRecDepth 100000
set_option linter.unusedSimpArgs false
namespace Go.Proofs.YthjkkidcpidgdaaGreatDoor
open Go.RowKit BigFrame

theorem grown_setP {a w : World} {g b k : Nat} {v : Value} (h : a.grownBy w (some g)) (hb : a.heap.size ≤ b) : a.grownBy (w.setCell ⟨b, k, none⟩ v) (some g) :=
  h.andThen (Go.Lib.grownBy_setCell w b k v) (fun j e => by cases e; exact Or.inl hb)
theorem grown_al {a w : World} {row : Option Nat} (h : a.grownBy w row) (o : Obj) : a.grownBy (w.alloc o) row := Go.Lib.grownBy_allocR h _
theorem grown_on {a w w' : World} {row : Option Nat} (h : a.grownBy w row) (hb : Below w.heap.size w w') : a.grownBy w' row := Go.Lib.grownBy_below h hb
theorem grown_go {a w w' : World} {row : Option Nat} (h : a.grownBy w row) (h2 : w.grownBy w' row) : a.grownBy w' row := World.grownBy.trans h h2
/-- A point in a variable that may be written. -/
def Bp (w : World) (b : Nat) (x y : Int) : Prop := PtB w b x y ∧ Ey w b
theorem Bp.on {w w1 : World} {b : Nat} {x y : Int} (h : Bp w b x y) (hb : Below w.heap.size w w1) : Bp w1 b x y := ⟨h.1.on hb, h.2.on hb⟩
theorem Bp.far {w w' : World} {row : Option Nat} {b : Nat} {x y : Int} (h : Bp w b x y) (hg : w.grownBy w' row) (hne : row ≠ some b) : Bp w' b x y := ⟨h.1.far hg hne, h.2.far hg hne⟩
theorem Bp.new (w : World) (x y : Int) (t : TypeId) : Bp (w.alloc (.cells #[.int .i64 x, .int .i64 y] t)) w.heap.size x y := ⟨⟨by simp, by simp, by simp⟩, Ey.new w x y t⟩
theorem Bp.two {w : World} {b c : Nat} {x y : Int} {u v : Value} (h : Bp w b x y) (hne : c ≠ b) : Bp ((w.setCell ⟨c, 0, none⟩ u).setCell ⟨c, 1, none⟩ v) b x y := ⟨(h.1.set hne).set hne, h.2.set.set⟩
theorem Ey.two {w : World} {b : Nat} (h : Ey w b) (x y : Int) : Bp ((w.setCell ⟨b, 0, none⟩ (.int .i64 x)).setCell ⟨b, 1, none⟩ (.int .i64 y)) b x y := ⟨⟨by simpa using h.1, h.read _ _⟩, h.set.set⟩
theorem src_two {w : World} {B g K c : Nat} {u v : Value} (h : SrcAt w B g K) (hB : B ≤ c) (hne : c ≠ g) : SrcAt ((w.setCell ⟨c, 0, none⟩ u).setCell ⟨c, 1, none⟩ v) B g K := (h.setne hB hne).setne hB hne
theorem six_out {w wf : World} {r0 r1 r2 : Nat} (e0 : Ey w r0) (e1 : Ey w r1) (e2 : Ey w r2) (h01 : r1 ≠ r0) (h02 : r2 ≠ r0) (h12 : r2 ≠ r1) {a b c d e f : Int} (hw : wf = (((((w.setCell ⟨r0, 0, none⟩ (.int .i64 a)).setCell ⟨r0, 1, none⟩ (.int .i64 b)).setCell ⟨r1, 0, none⟩ (.int .i64 c)).setCell ⟨r1, 1, none⟩ (.int .i64 d)).setCell ⟨r2, 0, none⟩ (.int .i64 e)).setCell ⟨r2, 1, none⟩ (.int .i64 f)) : PtB wf r0 a b ∧ PtB wf r1 c d ∧ PtB wf r2 e f := by
  subst hw
  exact ⟨(((e0.two a b).two h01).two h02).1, ((e1.set.set.two c d).two h12).1, ((e2.set.set).set.set.two e f).1⟩
theorem c4_two {w : World} {b1 b2 c : Nat} {p q r s u v : Value} (m1 : c ≠ b1) (m2 : c ≠ b2) (h1 : w.cell? ⟨b1, 0, none⟩ = some p) (h2 : w.cell? ⟨b1, 1, none⟩ = some q) (h3 : w.cell? ⟨b2, 0, none⟩ = some r) (h4 : w.cell? ⟨b2, 1, none⟩ = some s) : ((w.setCell ⟨c, 0, none⟩ u).setCell ⟨c, 1, none⟩ v).cell? ⟨b1, 0, none⟩ = some p ∧ ((w.setCell ⟨c, 0, none⟩ u).setCell ⟨c, 1, none⟩ v).cell? ⟨b1, 1, none⟩ = some q ∧ ((w.setCell ⟨c, 0, none⟩ u).setCell ⟨c, 1, none⟩ v).cell? ⟨b2, 0, none⟩ = some r ∧ ((w.setCell ⟨c, 0, none⟩ u).setCell ⟨c, 1, none⟩ v).cell? ⟨b2, 1, none⟩ = some s := by
  have n : ∀ (b k o : Nat), c ≠ b → (⟨c, k, none⟩ : Addr) ≠ ⟨b, o, none⟩ := fun b k o h e => h (congrArg Addr.block e)
  refine ⟨?_, ?_, ?_, ?_⟩
  · rw [World.cell?_setCell_other _ _ _ _ (n b1 1 0 m1), World.cell?_setCell_other _ _ _ _ (n b1 0 0 m1)]; exact h1
  · rw [World.cell?_setCell_other _ _ _ _ (n b1 1 1 m1), World.cell?_setCell_other _ _ _ _ (n b1 0 1 m1)]; exact h2
  · rw [World.cell?_setCell_other _ _ _ _ (n b2 1 0 m2), World.cell?_setCell_other _ _ _ _ (n b2 0 0 m2)]; exact h3
  · rw [World.cell?_setCell_other _ _ _ _ (n b2 1 1 m2), World.cell?_setCell_other _ _ _ _ (n b2 0 1 m2)]; exact h4
theorem PtB.drewB {w : World} {g : Nat} {x y : Int} (h : PtB w g x y) : PtB w.drew g x y := h.on ((Below.refl _ _).drew)
def c1B (x : Int) : Prop := -1 ≤ x ∧ x ≤ 200001
theorem infoPtN : (Tryz.prog.info? 34).map (fun i => (i.zero, i.size, i.bytes)) = some (some (.agg #[.int .i64 0, .int .i64 0]), 2, 16) := by kernel_rfl
def z2 : Array Value := #[.int .i64 0, .int .i64 0]
theorem made_zero (n : Nat) : ∀ (j : Nat) (u : Value), (flat RPoint.cells (List.replicate n (⟨0, 0⟩ : RPoint)))[j]? = some u → (madeCells z2 (n * 2))[j]? = some u := by
  intro j u hu
  have hl : (flat RPoint.cells (List.replicate n (⟨0, 0⟩ : RPoint))).length = n * 2 := by rw [flat_len RPoint.len, List.length_replicate]
  have hj : j < n * 2 := by rw [← hl]; exact (List.getElem?_eq_some_iff.1 hu).1
  have hm := List.mem_of_getElem? hu
  obtain ⟨a, ha, hx⟩ := List.mem_flatMap.1 hm
  obtain ⟨_, rfl⟩ := List.mem_replicate.1 ha
  have hu0 : u = .int .i64 0 := by simp [RPoint.cells] at hx; exact hx
  subst hu0
  rw [Array.getElem?_eq_getElem (by rw [size_madeCells]; exact hj)]
  simp only [madeCells, Array.getElem_map, Array.getElem_range]
  have e : j % z2.size = 0 ∨ j % z2.size = 1 := by change j % 2 = 0 ∨ j % 2 = 1; omega
  rcases e with e | e <;> rw [e] <;> rfl
theorem rs_made (w : World) (n : Nat) (t : TypeId) : Rs (w.alloc (.cells (madeCells z2 (n * 2)) t)) w.heap.size t 2 (.slice (some ⟨w.heap.size, 0, none⟩) n n) n (flat RPoint.cells (List.replicate n (⟨0, 0⟩ : RPoint))) := by
  refine ⟨by rw [flat_len RPoint.len, List.length_replicate], .inr ⟨_, _, n * 2, rfl, Nat.le_refl _, madeCells z2 (n * 2), heap_alloc_new w _, size_madeCells _ _, by rw [flat_len RPoint.len, List.length_replicate]; exact Nat.le_refl _, made_zero n⟩⟩
def c1L (P : List RPoint) : Prop := ∀ p ∈ P, c1B p.f0 ∧ c1B p.f1
end Go.Proofs.YthjkkidcpidgdaaGreatDoor
