/-
  Contracts of rows of rows of numbers: the copies that the laws make, their equality, their size; how many rows hold a number: the program's and the reference's. Each under the conditions that it states.
-/
import Derived.Test.YthjkkidcpidgdaaInts
set_option linter.unusedVariables false
set_option linter.unnecessarySimpa false
set_option maxRecDepth 100000
set_option linter.unusedSimpArgs false
namespace Go.Proofs.Ythjkkidcpidgdaa
open Go.RowKit BigFrame Go.Deep

/-- A row in memory: where it lies, its room, its numbers. -/
structure Row where
  A : Option Addr
  c : Nat
  L : List Int
instance : Inhabited Row := ⟨⟨none, 0, []⟩⟩
def Row.cells (r : Row) : List Value := [.slice r.A r.L.length r.c]
theorem Row.len (r : Row) : r.cells.length = 1 := rfl
def Row.num (r : Row) : Nat := r.L.length
def Row.ok (w : World) (B : Nat) (r : Row) : Prop := Sl w B r.A (ints r.L) ∧ (∀ a ∈ r.L, IntKind.i64.has a) ∧ r.L.length ≤ maxLen
theorem Row.ok_below {w w' : World} {B : Nat} {r : Row} (h : r.ok w B) (hb : Below B w w') : r.ok w' B := ⟨h.1.below hb, h.2⟩
/-- Numbers that a copy holds. -/
def lists (R : List Row) : List (List Int) := R.map Row.L

section
variable {H : Type} {enc : TypeId × Value → H} {P : Program} {w : World} {spare : Nat → Bool} {held : Bool}
theorem trod_one_int {i : TypeId} (hi : P.underlying i = some (.int .i64)) {m : Nat} {c : List Value} {y : DataW H × List MemPlace} {b : Nat} (h : DataW.trod enc P w b spare held m i c = some y) : ∃ a : Int, c = [.int .i64 a] ∧ IntKind.i64.has a := by
  have h' := h
  obtain ⟨z, e, _, q⟩ := DataW.trod_int hi h'
  exact ⟨z, e, by simpa [Lit.wf, IntKind.has] using q⟩
theorem flat_int (L : List Int) : flat (fun a : Int => [Value.int .i64 a]) L = ints L := by
  induction L with
  | nil => rfl
  | cons a L ih => rw [flat_cons, ih]; rfl
theorem open_row {t i : TypeId} {fuel : Nat} {cs : List Value} {x : DataW H × List MemPlace} (ht : P.underlying t = some (.slice i)) (hi : P.underlying i = some (.int .i64)) (hC : P.cellsOf i = 1) (h : DataW.trod enc P w 0 spare held fuel t cs = some x) :
    ∃ (A : Option Addr) (c : Nat) (L : List Int), cs = [.slice A L.length c] ∧ Sl w w.heap.size A (ints L) ∧ (∀ a ∈ L, IntKind.i64.has a) ∧ L.length ≤ maxLen := by
  obtain ⟨A, c, L, e, hs, hb, hl⟩ := open_flat (fun a : Int => [Value.int .i64 a]) IntKind.i64.has (fun _ => rfl) (by decide) ht hC (fun _ _ _ h => trod_one_int hi h) h
  exact ⟨A, c, L, e, by rw [← flat_int]; exact hs, hb, hl⟩
theorem open_rows {t e i : TypeId} {fuel : Nat} {cs : List Value} {x : DataW H × List MemPlace} (ht : P.underlying t = some (.slice e)) (he : P.underlying e = some (.slice i)) (hi : P.underlying i = some (.int .i64)) (hC : P.cellsOf e = 1) (hD : P.cellsOf i = 1) (h : DataW.trod enc P w 0 spare held fuel t cs = some x) :
    ∃ (A : Option Addr) (c : Nat) (R : List Row), cs = [.slice A R.length c] ∧ Sl w w.heap.size A (flat Row.cells R) ∧ (∀ r ∈ R, r.ok w w.heap.size) ∧ R.length ≤ maxLen :=
  open_flat Row.cells (Row.ok w w.heap.size) Row.len (by decide) ht hC (fun _ _ _ h => by
    obtain ⟨A, c, L, e, hs, hb, hl⟩ := open_row he hi hD h
    exact ⟨⟨A, c, L⟩, e, hs, hb, hl⟩) h
end


end Go.Proofs.Ythjkkidcpidgdaa
