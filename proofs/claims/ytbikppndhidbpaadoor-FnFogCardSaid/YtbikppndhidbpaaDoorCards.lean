/-
  DERIVED. GIVEN WITH THE SEED: THE CARDS: each row of YtbikppndhidbpaaDoorRows.lean that lists a variable, with what it lists TIED to the program's text (the seventh form; the later family's looks); each row that meets fmt, with fmt's text TOLD by the authors' own Lean function (tested against real Go, not proved from fmt's source: count such statements apart). THE CARD IS WHAT COUNTS. Prove the row's statement (the work); the ties are given (YtbikppndhidbpaaDoorTie.lean); close each card by the builder's one call (the guide's Derived/Test/ToyasCard.lean, 'card_holds'). Laid BY PROGRAM, IN A SANDBOX (cutbox-door.mjs). By AI agents, Wed Nov 11 2026. No macro, syntax, notation, axiom, sorry.
-/
import Derived.Test.YtbikppndhidbpaaDoorRows
import GoSem.ClaimSeven
namespace Go.Proofs.YtbikppndhidbpaaDoor
namespace Rows

/-- THE TIED CARD OF 'laws.FnMorse'. -/
def fnMorseCard : Claim7 := { stood := { row := fnMorseRow, standIns := [], harness := (true, "e54f5df195bea41d14e2fbc87614cac5e33ca53fba120000ed3c95be4f5f1514"), looks := true }, kinds := [], alts := [], laidByText := true, laidKinds := [.data, .pinned], laidTests := true, laidLooks := .later }
def FnMorseCardSaid : Prop := Claim7.holds Tryd.pinned (.plain (OpenSpec.ofChange fnMorseSpec)) fnMorseCard

/-- THE TIED CARD OF 'laws.FnPlaces'. -/
def fnPlacesCard : Claim7 := { stood := { row := fnPlacesRow, standIns := [], harness := (true, "e54f5df195bea41d14e2fbc87614cac5e33ca53fba120000ed3c95be4f5f1514"), looks := true }, kinds := [], alts := [], laidByText := true, laidKinds := [.data, .data, .data, .sentinel, .sentinel], laidTests := true, laidLooks := .later }
def FnPlacesCardSaid : Prop := Claim7.holds Tryd.pinned (.plain (OpenSpec.ofChange fnPlacesSpec)) fnPlacesCard

/-- THE TIED CARD OF 'laws.FnFog'. -/
def fnFogCard : Claim7 := { stood := { row := fnFogRow, standIns := [], harness := (true, "e54f5df195bea41d14e2fbc87614cac5e33ca53fba120000ed3c95be4f5f1514"), looks := true }, kinds := [], alts := [], laidByText := true, laidKinds := [.data, .data, .data, .data, .sentinel, .sentinel, .pinned], laidTests := true, laidLooks := .later }
def FnFogCardSaid : Prop := Claim7.holds Tryd.pinned (.plain (OpenSpec.ofChange fnFogSpec)) fnFogCard

/-- THE TIED CARD OF 'laws.FnChannel'. -/
def fnChannelCard : Claim7 := { stood := { row := fnChannelRow, standIns := [], harness := (true, "e54f5df195bea41d14e2fbc87614cac5e33ca53fba120000ed3c95be4f5f1514"), looks := true }, kinds := [], alts := [], laidByText := true, laidKinds := [.data, .data, .data, .data, .sentinel, .sentinel, .pinned], laidTests := true, laidLooks := .later }
def FnChannelCardSaid : Prop := Claim7.holds Tryd.pinned (.plain (OpenSpec.ofChange fnChannelSpec)) fnChannelCard

/-- THE SECOND FORM's CARD OF 'laws.FnMorse'. -/
def fnMorseUptoCard : Claim7 := { stood := { row := fnMorseUptoRow, standIns := [], harness := (true, "e54f5df195bea41d14e2fbc87614cac5e33ca53fba120000ed3c95be4f5f1514"), looks := true }, kinds := [], alts := [], laidByText := true, laidKinds := [.data, .pinned], laidTests := true, laidLooks := .later }
def FnMorseUptoCardSaid : Prop := Claim7.holds Tryd.pinned (.plain (OpenSpec.upto fnMorseSpec)) fnMorseUptoCard

/-- THE SECOND FORM's CARD OF 'laws.FnPlaces'. -/
def fnPlacesUptoCard : Claim7 := { stood := { row := fnPlacesUptoRow, standIns := [], harness := (true, "e54f5df195bea41d14e2fbc87614cac5e33ca53fba120000ed3c95be4f5f1514"), looks := true }, kinds := [], alts := [], laidByText := true, laidKinds := [.data, .data, .data, .sentinel, .sentinel], laidTests := true, laidLooks := .later }
def FnPlacesUptoCardSaid : Prop := Claim7.holds Tryd.pinned (.plain (OpenSpec.upto fnPlacesSpec)) fnPlacesUptoCard

/-- THE SECOND FORM's CARD OF 'laws.FnFog'. -/
def fnFogUptoCard : Claim7 := { stood := { row := fnFogUptoRow, standIns := [], harness := (true, "e54f5df195bea41d14e2fbc87614cac5e33ca53fba120000ed3c95be4f5f1514"), looks := true }, kinds := [], alts := [], laidByText := true, laidKinds := [.data, .data, .data, .data, .sentinel, .sentinel, .pinned], laidTests := true, laidLooks := .later }
def FnFogUptoCardSaid : Prop := Claim7.holds Tryd.pinned (.plain (OpenSpec.upto fnFogSpec)) fnFogUptoCard

/-- THE SECOND FORM's CARD OF 'laws.FnChannel'. -/
def fnChannelUptoCard : Claim7 := { stood := { row := fnChannelUptoRow, standIns := [], harness := (true, "e54f5df195bea41d14e2fbc87614cac5e33ca53fba120000ed3c95be4f5f1514"), looks := true }, kinds := [], alts := [], laidByText := true, laidKinds := [.data, .data, .data, .data, .sentinel, .sentinel, .pinned], laidTests := true, laidLooks := .later }
def FnChannelUptoCardSaid : Prop := Claim7.holds Tryd.pinned (.plain (OpenSpec.upto fnChannelSpec)) fnChannelUptoCard
end Rows
end Go.Proofs.YtbikppndhidbpaaDoor
