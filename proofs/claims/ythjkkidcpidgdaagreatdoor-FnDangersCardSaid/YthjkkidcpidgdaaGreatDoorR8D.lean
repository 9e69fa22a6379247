/-
  Contract of the channel that a law's bytes choose. Under the conditions that it states.
-/
import Derived.Test.YthjkkidcpidgdaaGreatDoorR8C
set_option linter.unusedVariables false
set_option linter.unnecessarySimpa false
set_option maxRecDepth 100000
set_option linter.unusedSimpArgs false
namespace Go.Proofs.YthjkkidcpidgdaaGreatDoor
open Go.RowKit BigFrame

def names3 : List ByteArray := [⟨#[109, 97, 105, 110]⟩, ⟨#[110, 111, 114, 116, 104]⟩, ⟨#[105, 110, 110, 101, 114]⟩]
theorem names3_ok : ∀ nm ∈ names3, nameM nm = true ∧ nm.size ≤ 10 := by decide
theorem infoPtR : (Tryz.prog.info? 34).map (fun i => (i.zero, i.size, i.bytes)) = some (some (.agg #[.int .i64 0, .int .i64 0]), 2, 16) := by kernel_rfl
theorem keep_c {a b : World} {p o : Nat} {u : Value} (h : a.cell? ⟨p, o, none⟩ = some u) (hp : p < a.heap.size) (hb : Below a.heap.size a b) : b.cell? ⟨p, o, none⟩ = some u := ((bcell hb).1 p o hp).trans h
theorem two_keepR {w : World} {g k o : Nat} {u v z : Value} (hne : k ≠ g) (h : w.cell? ⟨g, o, none⟩ = some z) : ((w.setCell ⟨k, 0, none⟩ u).setCell ⟨k, 1, none⟩ v).cell? ⟨g, o, none⟩ = some z := by
  rw [World.cell?_setCell_other _ _ _ _ (fun e => hne (congrArg Addr.block e)), World.cell?_setCell_other _ _ _ _ (fun e => hne (congrArg Addr.block e))]; exact h
theorem grown_two (w : World) (k : Nat) (u v : Value) : w.grownBy ((w.setCell ⟨k, 0, none⟩ u).setCell ⟨k, 1, none⟩ v) (some k) := Go.Lib.grownBy_setB (Go.Lib.grownBy_setB (World.grownBy.refl w (some k)) 0 u) 1 v
theorem grown_new {a w w' : World} {g k : Nat} (h : a.grownBy w (some g)) (hg : w.grownBy w' (some k)) (hk : a.heap.size ≤ k) : a.grownBy w' (some g) :=
  ⟨hg.os.trans h.os, hg.tape.trans h.tape, hg.output.trans h.output, Nat.le_trans h.size hg.size, fun j hj hne => (hg.block j (Nat.lt_of_lt_of_le hj h.size) (fun e => by have := Option.some.inj e; omega)).trans (h.block j hj hne)⟩
theorem keep_one {w : World} {g k i o : Nat} {u z : Value} (hne : k ≠ g) (h : w.cell? ⟨g, o, none⟩ = some z) : (w.setCell ⟨k, i, none⟩ u).cell? ⟨g, o, none⟩ = some z := by
  rw [World.cell?_setCell_other _ _ _ _ (fun e => hne (congrArg Addr.block e))]; exact h
theorem thenB {K : Act → World → Prop} {Q : Exit → Act → World → Prop} {a : Act} {W : World} (h : ∀ wf, wf = W → Exit.then K Q .normal a wf) : Exit.then K Q .normal a W := h W rfl
theorem owns_ne {w w' : World} {B : Nat} {e : TypeId} {sz : Nat} {v : Value} {n : Nat} {xs : List Value} {row : Option Nat} (h : w.ownsRow B e sz v n xs) (hg : w.grownBy w' row) (hne : ∀ k, v.ownBlock = some k → row ≠ some k) : w'.ownsRow B e sz v n xs := by
  refine World.ownsRow.kept h hg ?_
  cases hv : v.ownBlock with
  | none => exact .inl rfl
  | some k => exact .inr (fun e2 => hne k hv e2.symm)
theorem grown_row {a w w' : World} {g : Nat} {row : Option Nat} (h : a.grownBy w (some g)) (hg : w.grownBy w' row) (hk : ∀ k, row = some k → a.heap.size ≤ k) : a.grownBy w' (some g) :=
  ⟨hg.os.trans h.os, hg.tape.trans h.tape, hg.output.trans h.output, Nat.le_trans h.size hg.size, fun j hj hne => (hg.block j (Nat.lt_of_lt_of_le hj h.size) (fun e => by have := hk j e.symm; omega)).trans (h.block j hj hne)⟩
theorem ey_new {w w' : World} {g : Nat} {a b : Int} {t : TypeId} (hg : ((w.alloc (.cells #[.int .i64 a, .int .i64 b] t)).drew).grownBy w' (some g)) (hne : (some g : Option Nat) ≠ some w.heap.size) : Ey w' w.heap.size := ((Ey.new w a b t).on ((Below.refl _ _).drew)).far hg hne
theorem Ey.pt {w : World} {g : Nat} (h : Ey w g) (u v : Int) : PtB ((w.setCell ⟨g, 0, none⟩ (.int .i64 u)).setCell ⟨g, 1, none⟩ (.int .i64 v)) g u v := ⟨by simpa using h.1, h.read _ _⟩
theorem owns_nil' (w : World) (B : Nat) (e : TypeId) (sz : Nat) : w.ownsRow B e sz (.slice none 0 0) 0 [] := ⟨by simp, .inl ⟨rfl, rfl⟩⟩
end Go.Proofs.YthjkkidcpidgdaaGreatDoor
