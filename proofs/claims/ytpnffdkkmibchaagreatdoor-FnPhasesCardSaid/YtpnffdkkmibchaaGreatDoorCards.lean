/-
  DERIVED. GIVEN WITH THE SEED: THE CARDS: each row of YtpnffdkkmibchaaGreatDoorRows.lean that lists a variable, with what it lists TIED to the program's text (the seventh form; the later family's looks); each row that meets fmt, with fmt's text TOLD by the authors' own Lean function (tested against real Go, not proved from fmt's source: count such statements apart). THE CARD IS WHAT COUNTS. Prove the row's statement (the work); the ties are given (YtpnffdkkmibchaaGreatDoorTie.lean); close each card by the builder's one call (the guide's Derived/Test/ToyasCard.lean, 'card_holds'). Laid BY PROGRAM, IN A SANDBOX (cutbox-door.mjs). By AI agents, Wed Nov 11 2026. No macro, syntax, notation, axiom, sorry.
-/
import Derived.Test.YtpnffdkkmibchaaGreatDoorRows
import GoSem.ClaimSeven
namespace Go.Proofs.YtpnffdkkmibchaaGreatDoor
namespace Rows

/-- THE TIED CARD OF 'laws.FnPhases'. -/
def fnPhasesCard : Claim7 := { stood := { row := fnPhasesRow, standIns := [], harness := (true, "d2d01d0b68fb398f74a9b5eb5ce5d9889b11bc7e5c4d4e4e9d4bfbecc577d967"), looks := true }, kinds := [], alts := [], laidByText := true, laidKinds := [.data, .data, .data, .data, .sentinel, .sentinel, .pinned], laidTests := true, laidLooks := .later }
def FnPhasesCardSaid : Prop := Claim7.holds Tryz.pinned (.plain (OpenSpec.ofChange fnPhasesSpec)) fnPhasesCard

/-- THE SECOND FORM's CARD OF 'laws.FnPhases'. -/
def fnPhasesUptoCard : Claim7 := { stood := { row := fnPhasesUptoRow, standIns := [], harness := (true, "d2d01d0b68fb398f74a9b5eb5ce5d9889b11bc7e5c4d4e4e9d4bfbecc577d967"), looks := true }, kinds := [], alts := [], laidByText := true, laidKinds := [.data, .data, .data, .data, .sentinel, .sentinel, .pinned], laidTests := true, laidLooks := .later }
def FnPhasesUptoCardSaid : Prop := Claim7.holds Tryz.pinned (.plain (OpenSpec.upto fnPhasesSpec)) fnPhasesUptoCard
end Rows
end Go.Proofs.YtpnffdkkmibchaaGreatDoor
