/-
  Contracts of lists of points: the program's and the reference's. Each under the conditions that it states.
-/
import Derived.Test.YtbikppndhidbpaaPlaces
set_option linter.unusedVariables false
set_option maxRecDepth 100000
set_option linter.unusedSimpArgs false
namespace Go.Proofs.Ytbikppndhidbpaa
open Go.RowKit BigFrame

/-- The cells of a list of points. -/
def pcells (L : List (Int × Int)) : List Value := L.flatMap fun p => [.int .i64 p.1, .int .i64 p.2]
theorem pcells_get : ∀ (L : List (Int × Int)) (k : Nat) (h : k < L.length), (pcells L)[k * 2]? = some (.int .i64 L[k].1) ∧ (pcells L)[k * 2 + 1]? = some (.int .i64 L[k].2)
  | [], k, h => by simp at h
  | p :: L, 0, h => by simp [pcells]
  | p :: L, k + 1, h => by
    have ih := pcells_get L k (by simpa using h)
    have e : (k + 1) * 2 = k * 2 + 1 + 1 := by omega
    have c : pcells (p :: L) = .int .i64 p.1 :: .int .i64 p.2 :: pcells L := rfl
    rw [c, e]
    simpa using ih
theorem Sl.point {w : World} {B : Nat} {A : Option Addr} {L : List (Int × Int)} (h : Sl w B A (pcells L)) {k : Nat} (hk : k < L.length) :
    ∃ b o : Nat, A = some ⟨b, o, none⟩ ∧ b < B ∧ w.cell? ⟨b, o + k * 2, none⟩ = some (.int .i64 L[k].1) ∧ w.cell? ⟨b, o + k * 2 + 1, none⟩ = some (.int .i64 L[k].2) := by
  obtain ⟨g1, g2⟩ := pcells_get L k hk
  obtain ⟨b, o, e, hb, hc⟩ := h (by intro e; rw [e] at g1; simp at g1)
  exact ⟨b, o, e, hb, hc _ _ g1, hc _ _ g2⟩
def vPoints (L : List (Int × Int)) : Bool := L.all fun p => vPoint p.1 p.2
theorem vPoints_take {L : List (Int × Int)} {k : Nat} (hk : k < L.length) (h : vPoints (L.take k) = true) (hv : vPoint L[k].1 L[k].2 = true) : vPoints (L.take (k + 1)) = true := by
  unfold vPoints at *
  rw [List.take_succ_eq_append_getElem hk, List.all_append, h]
  simp [hv]
theorem vPoints_no {L : List (Int × Int)} {k : Nat} (hk : k < L.length) (hv : vPoint L[k].1 L[k].2 = false) : vPoints L = false := by
  unfold vPoints
  rw [List.all_eq_false]
  exact ⟨L[k], List.getElem_mem hk, by simp [hv]⟩

def vPoint2 (x1 y1 x2 y2 : Int) : Bool := vPoint x1 y1 && vPoint x2 y2

end Go.Proofs.Ytbikppndhidbpaa
