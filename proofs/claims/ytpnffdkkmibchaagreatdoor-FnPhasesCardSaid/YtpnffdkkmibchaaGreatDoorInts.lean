/-
  Contracts of rows of numbers and of rows of such rows: the copies that the laws make, their equality, their size. Each under the conditions that it states.
-/
import Derived.Test.YtpnffdkkmibchaaGreatDoorBase
import Derived.Test.YtpnffdkkmibchaaGreatDoorRow
set_option linter.unusedVariables false
set_option linter.unnecessarySimpa false
set_option maxRecDepth 100000
set_option linter.unusedSimpArgs false
namespace Go.Proofs.YtpnffdkkmibchaaGreatDoor
open Go.RowKit BigFrame

def ints (L : List Int) : List Value := L.map (Value.int .i64)
theorem ints_len (L : List Int) : (ints L).length = L.length := by simp [ints]
theorem ints_at {L : List Int} {k : Nat} (h : k < L.length) : (ints L)[k]? = some (.int .i64 L[k]) := by
  unfold ints; rw [List.getElem?_map, List.getElem?_eq_getElem h]; rfl
theorem ints_snoc {L : List Int} {k : Nat} (h : k < L.length) : ints (L.take (k + 1)) = ints (L.take k) ++ [.int .i64 L[k]] := by
  unfold ints; rw [List.take_succ_eq_append_getElem h, List.map_append]; rfl
theorem Sl.int {w : World} {B : Nat} {A : Option Addr} {L : List Int} (h : Sl w B A (ints L)) {k : Nat} (hk : k < L.length) : ∃ b o : Nat, A = some ⟨b, o, none⟩ ∧ b < B ∧ w.cell? ⟨b, o + k, none⟩ = some (.int .i64 L[k]) := by
  obtain ⟨b, o, e, hb, hc⟩ := h (by intro e; have := ints_len L; rw [e] at this; simp at this; omega)
  exact ⟨b, o, e, hb, hc k _ (ints_at hk)⟩

end Go.Proofs.YtpnffdkkmibchaaGreatDoor
