/-
  Contracts of sines and bearings: the program's and the reference's. Each under the conditions that it states.
-/
import Derived.Test.YtbikppndhidbpaaDoorLeading
import Derived.Test.YtbikppndhidbpaaDoorAngle
import Derived.Test.YtbikppndhidbpaaDoorSine
set_option linter.unusedVariables false
set_option maxRecDepth 100000
set_option linter.unusedSimpArgs false
namespace Go.Proofs.YtbikppndhidbpaaDoor
open Go.RowKit BigFrame

def tabArr : Array Value := (tabM.map (Value.int .i64)).toArray
theorem tabArr_get {k : Nat} (hk : k < 91) : tabArr[k]? = some (.int .i64 (tq k)) := by
  have h : (tabM.map (Value.int .i64))[k]? = some (.int .i64 (tq k)) := by
    rw [List.getElem?_map, List.getElem?_eq_getElem (by rw [tabM_len]; exact hk)]
    simp [tq, List.getD, List.getElem?_eq_getElem (show k < tabM.length by rw [tabM_len]; exact hk)]
  simpa [tabArr] using h

/-- A point in a variable. -/
def Pt (w : World) (g : Nat) (x y : Int) : Prop := g < w.heap.size ∧ w.cell? ⟨g, 0, none⟩ = some (.int .i64 x) ∧ w.cell? ⟨g, 1, none⟩ = some (.int .i64 y)
theorem Pt.below {w w' : World} {g B : Nat} {x y : Int} (h : Pt w g x y) (hg : g < B) (hb : Below B w w') : Pt w' g x y :=
  ⟨Nat.lt_of_lt_of_le h.1 hb.size, (hb.cell (p := ⟨g, 0, none⟩) hg).trans h.2.1, (hb.cell (p := ⟨g, 1, none⟩) hg).trans h.2.2⟩
theorem Pt.on {w w' : World} {g : Nat} {x y : Int} (h : Pt w g x y) (hb : Below w.heap.size w w') : Pt w' g x y := h.below h.1 hb
end Go.Proofs.YtbikppndhidbpaaDoor
