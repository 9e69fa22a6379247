/-
  Contracts of drawn angles: the source out of a text, an angle, two angles. Each under the conditions that it states.
-/
import Derived.Test.YtpnffdkkmibchaaGreatDoorDraw
set_option linter.unusedVariables false
set_option linter.unnecessarySimpa false
set_option maxRecDepth 100000
set_option linter.unusedSimpArgs false
namespace Go.Proofs.YtpnffdkkmibchaaGreatDoor
open Go.RowKit BigFrame

theorem src_from (L : List Int) (A : Option Addr) (c B : Nat) (w : World) (hs : Sl w B A (L.map (Value.int .u8))) (hB : B ≤ w.heap.size) (hu : ∀ z ∈ L, IntKind.u8.has z) (hl : L.length ≤ 1048576) :
    Calls Tryz.prog 19 #[.slice A L.length c] w fun e w' => e = .returned (.pointer (some ⟨w.heap.size, 0, none⟩)) ∧ Below w.heap.size w w' ∧ SrcAt w' B w.heap.size 0 := by
  have hs' := Lib.hid hs
  have hu' := Lib.hid hu
  clear hs hu
  go_enter Tryz.func19, Tryz.ntmps19
  go_wp2
  go_ret
  exact ⟨rfl, by go_grown, hB, by simp, by omega, A, c, L, 0, 0, by simp [go_sem], by simp [go_sem], by simp [go_sem], by simp [go_sem], by simp [go_sem], hs'.out.below (by go_grown), hu'.out, hl, Nat.le_refl _, by simp [IntKind.has, IntKind.min, IntKind.max, IntKind.signed, IntKind.bits]⟩

end Go.Proofs.YtpnffdkkmibchaaGreatDoor
