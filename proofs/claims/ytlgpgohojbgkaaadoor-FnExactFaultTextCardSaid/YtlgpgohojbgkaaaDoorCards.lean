/-
  DERIVED. GIVEN WITH THE SEED: THE CARDS: each row of YtlgpgohojbgkaaaDoorRows.lean that lists a variable, with what it lists TIED to the program's text (the seventh form; the later family's looks); each row that meets fmt, with fmt's text TOLD by the authors' own Lean function (tested against real Go, not proved from fmt's source: count such statements apart). THE CARD IS WHAT COUNTS. Prove the row's statement (the work); the ties are given (YtlgpgohojbgkaaaDoorTie.lean); close each card by the builder's one call (the guide's Derived/Test/ToyasCard.lean, 'card_holds'). Laid BY PROGRAM, IN A SANDBOX (cutbox-door.mjs). By AI agents, Wed Nov 11 2026. No macro, syntax, notation, axiom, sorry.
-/
import Derived.Test.YtlgpgohojbgkaaaDoorRows
import GoSem.ClaimSeven
namespace Go.Proofs.YtlgpgohojbgkaaaDoor
namespace Rows

/-- THE TIED CARD OF 'laws.FnExactFaultText'. -/
def fnExactFaultTextCard : Claim7 := { stood := { row := fnExactFaultTextRow, standIns := [], harness := (true, "5071906fd05b8f218cdc652544452a051fd326819706c99f5e79965e5702fabb"), looks := true }, kinds := [], alts := [], laidByText := true, laidKinds := [.data, .data, .data], laidTests := true, laidLooks := .later }
def FnExactFaultTextCardSaid : Prop := Claim7.holds Tryd.pinned (.plain (OpenSpec.ofChange fnExactFaultTextSpec)) fnExactFaultTextCard

/-- THE TIED CARD OF 'laws.FnExactLeadingText'. -/
def fnExactLeadingTextCard : Claim7 := { stood := { row := fnExactLeadingTextRow, standIns := [], harness := (true, "5071906fd05b8f218cdc652544452a051fd326819706c99f5e79965e5702fabb"), looks := true }, kinds := [], alts := [], laidByText := true, laidKinds := [.data, .data, .data], laidTests := true, laidLooks := .later }
def FnExactLeadingTextCardSaid : Prop := Claim7.holds Tryd.pinned (.plain (OpenSpec.ofChange fnExactLeadingTextSpec)) fnExactLeadingTextCard

/-- THE TIED CARD OF 'laws.FnExactDangerText'. -/
def fnExactDangerTextCard : Claim7 := { stood := { row := fnExactDangerTextRow, standIns := [], harness := (true, "5071906fd05b8f218cdc652544452a051fd326819706c99f5e79965e5702fabb"), looks := true }, kinds := [], alts := [], laidByText := true, laidKinds := [.data, .data, .data], laidTests := true, laidLooks := .later }
def FnExactDangerTextCardSaid : Prop := Claim7.holds Tryd.pinned (.plain (OpenSpec.ofChange fnExactDangerTextSpec)) fnExactDangerTextCard

/-- THE TIED CARD OF 'laws.FnExactStationText'. -/
def fnExactStationTextCard : Claim7 := { stood := { row := fnExactStationTextRow, standIns := [], harness := (true, "5071906fd05b8f218cdc652544452a051fd326819706c99f5e79965e5702fabb"), looks := true }, kinds := [], alts := [], laidByText := true, laidKinds := [.data, .data, .data], laidTests := true, laidLooks := .later }
def FnExactStationTextCardSaid : Prop := Claim7.holds Tryd.pinned (.plain (OpenSpec.ofChange fnExactStationTextSpec)) fnExactStationTextCard

/-- THE TIED CARD OF 'laws.FnPlaces'. -/
def fnPlacesCard : Claim7 := { stood := { row := fnPlacesRow, standIns := [], harness := (true, "5071906fd05b8f218cdc652544452a051fd326819706c99f5e79965e5702fabb"), looks := true }, kinds := [], alts := [], laidByText := true, laidKinds := [.data, .data, .data, .sentinel, .sentinel], laidTests := true, laidLooks := .later }
def FnPlacesCardSaid : Prop := Claim7.holds Tryd.pinned (.plain (OpenSpec.ofChange fnPlacesSpec)) fnPlacesCard

/-- THE TIED CARD OF 'laws.FnFog'. -/
def fnFogCard : Claim7 := { stood := { row := fnFogRow, standIns := [], harness := (true, "5071906fd05b8f218cdc652544452a051fd326819706c99f5e79965e5702fabb"), looks := true }, kinds := [], alts := [], laidByText := true, laidKinds := [.data, .data, .data, .data, .sentinel, .sentinel, .pinned], laidTests := true, laidLooks := .later }
def FnFogCardSaid : Prop := Claim7.holds Tryd.pinned (.plain (OpenSpec.ofChange fnFogSpec)) fnFogCard

/-- THE SECOND FORM's CARD OF 'laws.FnExactFaultText'. -/
def fnExactFaultTextUptoCard : Claim7 := { stood := { row := fnExactFaultTextUptoRow, standIns := [], harness := (true, "5071906fd05b8f218cdc652544452a051fd326819706c99f5e79965e5702fabb"), looks := true }, kinds := [], alts := [], laidByText := true, laidKinds := [.data, .data, .data], laidTests := true, laidLooks := .later }
def FnExactFaultTextUptoCardSaid : Prop := Claim7.holds Tryd.pinned (.plain (OpenSpec.upto fnExactFaultTextSpec)) fnExactFaultTextUptoCard

/-- THE SECOND FORM's CARD OF 'laws.FnExactLeadingText'. -/
def fnExactLeadingTextUptoCard : Claim7 := { stood := { row := fnExactLeadingTextUptoRow, standIns := [], harness := (true, "5071906fd05b8f218cdc652544452a051fd326819706c99f5e79965e5702fabb"), looks := true }, kinds := [], alts := [], laidByText := true, laidKinds := [.data, .data, .data], laidTests := true, laidLooks := .later }
def FnExactLeadingTextUptoCardSaid : Prop := Claim7.holds Tryd.pinned (.plain (OpenSpec.upto fnExactLeadingTextSpec)) fnExactLeadingTextUptoCard

/-- THE SECOND FORM's CARD OF 'laws.FnExactDangerText'. -/
def fnExactDangerTextUptoCard : Claim7 := { stood := { row := fnExactDangerTextUptoRow, standIns := [], harness := (true, "5071906fd05b8f218cdc652544452a051fd326819706c99f5e79965e5702fabb"), looks := true }, kinds := [], alts := [], laidByText := true, laidKinds := [.data, .data, .data], laidTests := true, laidLooks := .later }
def FnExactDangerTextUptoCardSaid : Prop := Claim7.holds Tryd.pinned (.plain (OpenSpec.upto fnExactDangerTextSpec)) fnExactDangerTextUptoCard

/-- THE SECOND FORM's CARD OF 'laws.FnExactStationText'. -/
def fnExactStationTextUptoCard : Claim7 := { stood := { row := fnExactStationTextUptoRow, standIns := [], harness := (true, "5071906fd05b8f218cdc652544452a051fd326819706c99f5e79965e5702fabb"), looks := true }, kinds := [], alts := [], laidByText := true, laidKinds := [.data, .data, .data], laidTests := true, laidLooks := .later }
def FnExactStationTextUptoCardSaid : Prop := Claim7.holds Tryd.pinned (.plain (OpenSpec.upto fnExactStationTextSpec)) fnExactStationTextUptoCard

/-- THE SECOND FORM's CARD OF 'laws.FnPlaces'. -/
def fnPlacesUptoCard : Claim7 := { stood := { row := fnPlacesUptoRow, standIns := [], harness := (true, "5071906fd05b8f218cdc652544452a051fd326819706c99f5e79965e5702fabb"), looks := true }, kinds := [], alts := [], laidByText := true, laidKinds := [.data, .data, .data, .sentinel, .sentinel], laidTests := true, laidLooks := .later }
def FnPlacesUptoCardSaid : Prop := Claim7.holds Tryd.pinned (.plain (OpenSpec.upto fnPlacesSpec)) fnPlacesUptoCard

/-- THE SECOND FORM's CARD OF 'laws.FnFog'. -/
def fnFogUptoCard : Claim7 := { stood := { row := fnFogUptoRow, standIns := [], harness := (true, "5071906fd05b8f218cdc652544452a051fd326819706c99f5e79965e5702fabb"), looks := true }, kinds := [], alts := [], laidByText := true, laidKinds := [.data, .data, .data, .data, .sentinel, .sentinel, .pinned], laidTests := true, laidLooks := .later }
def FnFogUptoCardSaid : Prop := Claim7.holds Tryd.pinned (.plain (OpenSpec.upto fnFogSpec)) fnFogUptoCard
end Rows
end Go.Proofs.YtlgpgohojbgkaaaDoor
