/-
  DERIVED. GIVEN WITH THE SEED: THE CARDS: each row of YtlolkngklfabfaaDoorRows.lean that lists a variable, with what it lists TIED to the program's text (the seventh form; the later family's looks); each row that meets fmt, with fmt's text TOLD by the authors' own Lean function (tested against real Go, not proved from fmt's source: count such statements apart). THE CARD IS WHAT COUNTS. Prove the row's statement (the work); the ties are given (YtlolkngklfabfaaDoorTie.lean); close each card by the builder's one call (the guide's Derived/Test/ToyasCard.lean, 'card_holds'). Laid BY PROGRAM, IN A SANDBOX (cutbox-door.mjs). By AI agents, Wed Nov 11 2026. No macro, syntax, notation, axiom, sorry.
-/
import Derived.Test.YtlolkngklfabfaaDoorRows
import GoSem.ClaimSeven
namespace Go.Proofs.YtlolkngklfabfaaDoor
namespace Rows

/-- THE TIED CARD OF 'laws.FnExactReadFault'. -/
def fnExactReadFaultCard : Claim7 := { stood := { row := fnExactReadFaultRow, standIns := [], harness := (true, "45b96a5e8dfd957f5c94c1e4d35eac3eda632ca058f13002aff17f858640a35d"), looks := true }, kinds := [], alts := [], laidByText := true, laidKinds := [.data, .data, .data, .data, .sentinel, .sentinel, .pinned], laidTests := true, laidLooks := .later }
def FnExactReadFaultCardSaid : Prop := Claim7.holds Tryd.pinned (.plain (OpenSpec.ofChange fnExactReadFaultSpec)) fnExactReadFaultCard

/-- THE TIED CARD OF 'laws.FnExactReadStation'. -/
def fnExactReadStationCard : Claim7 := { stood := { row := fnExactReadStationRow, standIns := [], harness := (true, "45b96a5e8dfd957f5c94c1e4d35eac3eda632ca058f13002aff17f858640a35d"), looks := true }, kinds := [], alts := [], laidByText := true, laidKinds := [.data, .data, .data, .data, .sentinel, .sentinel, .pinned], laidTests := true, laidLooks := .later }
def FnExactReadStationCardSaid : Prop := Claim7.holds Tryd.pinned (.plain (OpenSpec.ofChange fnExactReadStationSpec)) fnExactReadStationCard

/-- THE TIED CARD OF 'laws.FnBasics'. -/
def fnBasicsCard : Claim7 := { stood := { row := fnBasicsRow, standIns := [], harness := (true, "45b96a5e8dfd957f5c94c1e4d35eac3eda632ca058f13002aff17f858640a35d"), looks := true }, kinds := [], alts := [], laidByText := true, laidKinds := [.data, .data, .data, .data, .sentinel, .sentinel, .pinned], laidTests := true, laidLooks := .later }
def FnBasicsCardSaid : Prop := Claim7.holds Tryd.pinned (.plain (OpenSpec.ofChange fnBasicsSpec)) fnBasicsCard

/-- THE TIED CARD OF 'laws.FnExactReadChannel'. -/
def fnExactReadChannelCard : Claim7 := { stood := { row := fnExactReadChannelRow, standIns := [], harness := (true, "45b96a5e8dfd957f5c94c1e4d35eac3eda632ca058f13002aff17f858640a35d"), looks := true }, kinds := [], alts := [], laidByText := true, laidKinds := [.data, .data, .data, .data, .sentinel, .sentinel, .pinned], laidTests := true, laidLooks := .later }
def FnExactReadChannelCardSaid : Prop := Claim7.holds Tryd.pinned (.plain (OpenSpec.ofChange fnExactReadChannelSpec)) fnExactReadChannelCard

/-- THE SECOND FORM's CARD OF 'laws.FnExactReadFault'. -/
def fnExactReadFaultUptoCard : Claim7 := { stood := { row := fnExactReadFaultUptoRow, standIns := [], harness := (true, "45b96a5e8dfd957f5c94c1e4d35eac3eda632ca058f13002aff17f858640a35d"), looks := true }, kinds := [], alts := [], laidByText := true, laidKinds := [.data, .data, .data, .data, .sentinel, .sentinel, .pinned], laidTests := true, laidLooks := .later }
def FnExactReadFaultUptoCardSaid : Prop := Claim7.holds Tryd.pinned (.plain (OpenSpec.upto fnExactReadFaultSpec)) fnExactReadFaultUptoCard

/-- THE SECOND FORM's CARD OF 'laws.FnExactReadStation'. -/
def fnExactReadStationUptoCard : Claim7 := { stood := { row := fnExactReadStationUptoRow, standIns := [], harness := (true, "45b96a5e8dfd957f5c94c1e4d35eac3eda632ca058f13002aff17f858640a35d"), looks := true }, kinds := [], alts := [], laidByText := true, laidKinds := [.data, .data, .data, .data, .sentinel, .sentinel, .pinned], laidTests := true, laidLooks := .later }
def FnExactReadStationUptoCardSaid : Prop := Claim7.holds Tryd.pinned (.plain (OpenSpec.upto fnExactReadStationSpec)) fnExactReadStationUptoCard

/-- THE SECOND FORM's CARD OF 'laws.FnBasics'. -/
def fnBasicsUptoCard : Claim7 := { stood := { row := fnBasicsUptoRow, standIns := [], harness := (true, "45b96a5e8dfd957f5c94c1e4d35eac3eda632ca058f13002aff17f858640a35d"), looks := true }, kinds := [], alts := [], laidByText := true, laidKinds := [.data, .data, .data, .data, .sentinel, .sentinel, .pinned], laidTests := true, laidLooks := .later }
def FnBasicsUptoCardSaid : Prop := Claim7.holds Tryd.pinned (.plain (OpenSpec.upto fnBasicsSpec)) fnBasicsUptoCard

/-- THE SECOND FORM's CARD OF 'laws.FnExactReadChannel'. -/
def fnExactReadChannelUptoCard : Claim7 := { stood := { row := fnExactReadChannelUptoRow, standIns := [], harness := (true, "45b96a5e8dfd957f5c94c1e4d35eac3eda632ca058f13002aff17f858640a35d"), looks := true }, kinds := [], alts := [], laidByText := true, laidKinds := [.data, .data, .data, .data, .sentinel, .sentinel, .pinned], laidTests := true, laidLooks := .later }
def FnExactReadChannelUptoCardSaid : Prop := Claim7.holds Tryd.pinned (.plain (OpenSpec.upto fnExactReadChannelSpec)) fnExactReadChannelUptoCard
end Rows
end Go.Proofs.YtlolkngklfabfaaDoor
