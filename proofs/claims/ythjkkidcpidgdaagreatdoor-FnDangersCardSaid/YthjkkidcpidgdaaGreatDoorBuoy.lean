/-
  Contracts of the side of a channel and of lists of buoys: the program's and the reference's. Under the conditions that each states.
-/
import Derived.Test.YthjkkidcpidgdaaGreatDoorNear
set_option linter.unusedVariables false
set_option linter.unnecessarySimpa false
set_option maxRecDepth 100000
set_option linter.unusedSimpArgs false
namespace Go.Proofs.YthjkkidcpidgdaaGreatDoor
open Go.RowKit BigFrame

theorem cell_onN {w w' : World} {n k : Nat} {v : Value} (hb : Below w.heap.size w w') (h : w.cell? ⟨n, k, none⟩ = some v) (hn : n < w.heap.size) : w'.cell? ⟨n, k, none⟩ = some v := ((bcell hb).1 n k hn).trans h
/-- The side of piece k of a line on which a place is; of the nearest piece. -/
def segS (P : List RPoint) (x y : Int) (k : Nat) : Int := sideM (crossM (P.getD k default).f0 (P.getD k default).f1 (P.getD (k + 1) default).f0 (P.getD (k + 1) default).f1 x y)
def chanS (P : List RPoint) (x y : Int) : Int := segS P x y (nearTo P x y (P.length - 2)).1
theorem chanS_is {P : List RPoint} {x y n : Int} {k : Nat} {p a : RPoint} (h : nearTo P x y (P.length - 2) = (k, n)) (hp : P.getD k default = p) (ha : P.getD (k + 1) default = a) : chanS P x y = sideM (crossM p.f0 p.f1 a.f0 a.f1 x y) := by unfold chanS segS; rw [h, hp, ha]
end Go.Proofs.YthjkkidcpidgdaaGreatDoor
