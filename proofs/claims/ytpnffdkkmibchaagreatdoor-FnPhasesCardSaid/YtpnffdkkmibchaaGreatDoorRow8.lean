/-
  Rows of bytes that came in. Under the conditions that each states.
-/
import Derived.Test.YtpnffdkkmibchaaGreatDoorFlat
set_option linter.unusedVariables false
set_option linter.unnecessarySimpa false
set_option maxRecDepth 100000
set_option linter.unusedSimpArgs false
namespace Go.Proofs.YtpnffdkkmibchaaGreatDoor
open Go.RowKit BigFrame Go.Deep

def bytesL (L : List Int) : List Value := L.map (Value.int .u8)
section
variable {H : Type} {enc : TypeId × Value → H} {P : Program} {w : World} {spare : Nat → Bool} {held : Bool}
theorem trod_one_u8 {i : TypeId} (hi : P.underlying i = some (.int .u8)) {m : Nat} {c : List Value} {y : DataW H × List MemPlace} {b : Nat} (h : DataW.trod enc P w b spare held m i c = some y) : ∃ a : Int, c = [.int .u8 a] ∧ IntKind.u8.has a := by
  have h' := h
  obtain ⟨z, e, _, q⟩ := DataW.trod_int hi h'
  exact ⟨z, e, by simpa [Lit.wf, IntKind.has] using q⟩
theorem flat_u8 (L : List Int) : flat (fun a : Int => [Value.int .u8 a]) L = bytesL L := by
  induction L with
  | nil => rfl
  | cons a L ih => rw [flat_cons, ih]; rfl
theorem open_row8 {t i : TypeId} {fuel : Nat} {cs : List Value} {x : DataW H × List MemPlace} (ht : P.underlying t = some (.slice i)) (hi : P.underlying i = some (.int .u8)) (hC : P.cellsOf i = 1) (h : DataW.trod enc P w 0 spare held fuel t cs = some x) :
    ∃ (A : Option Addr) (c : Nat) (L : List Int), cs = [.slice A L.length c] ∧ Sl w w.heap.size A (bytesL L) ∧ (∀ a ∈ L, IntKind.u8.has a) ∧ L.length ≤ maxLen := by
  obtain ⟨A, c, L, e, hs, hb, hl⟩ := open_flat (fun a : Int => [Value.int .u8 a]) IntKind.u8.has (fun _ => rfl) (by decide) ht hC (fun _ _ _ h => trod_one_u8 hi h) h
  exact ⟨A, c, L, e, by rw [← flat_u8]; exact hs, hb, hl⟩
end
end Go.Proofs.YtpnffdkkmibchaaGreatDoor
