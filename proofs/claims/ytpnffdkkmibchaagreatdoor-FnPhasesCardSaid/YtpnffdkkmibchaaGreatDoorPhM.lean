/-
  Contract of a shift of phases that are not valid. Under the conditions that it states.
-/
import Derived.Test.YtpnffdkkmibchaaGreatDoorPhA
set_option linter.unusedVariables false
set_option linter.unnecessarySimpa false
set_option maxRecDepth 100000
set_option linter.unusedSimpArgs false
namespace Go.Proofs.YtpnffdkkmibchaaGreatDoor
open Go.RowKit BigFrame Go.Deep

theorem impl_Shift0 (P : List RPhase) (A : Option Addr) (c B : Nat) (t : Int) (w : World) (hs : Sl w B A (flat RPhase.cells P)) (hB : B ≤ w.heap.size) (hok : ∀ a ∈ P, a.ok) (hl : P.length ≤ 1048576) (hv : vPhases P = false) :
    Calls Tryz.prog 6 #[.slice A P.length c, .int .i64 t] w fun e w' => e = .returned (.tuple #[.slice none 0 0, .int .i64 1]) ∧ Below w.heap.size w w' := by
  have hV := Lib.hid (fun w (h1 : Sl w B A (flat RPhase.cells P)) (h2 : B ≤ w.heap.size) => show Calls Tryz.prog 22 #[.slice A P.length c] w fun e w' => e = .returned (.bool false) ∧ Below w.heap.size w w' by have h := impl_PhOk P A c B w h1 h2 hok hl; rwa [hv] at h)
  have hs' := Lib.hid hs
  clear hs hv hok
  go_enter Tryz.func6, Tryz.ntmps6
  go_wp2_with fail
  refine (hV.out _ hs'.out hB).mono ?_
  rintro e w1 ⟨rfl, hb1⟩
  go_wp2_with fail
  go_ret2
  exact ⟨rfl, hb1⟩
end Go.Proofs.YtpnffdkkmibchaaGreatDoor
