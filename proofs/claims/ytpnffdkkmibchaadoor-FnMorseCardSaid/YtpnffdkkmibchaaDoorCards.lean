/-
  DERIVED. GIVEN WITH THE SEED: THE CARDS: each row of YtpnffdkkmibchaaDoorRows.lean that lists a variable, with what it lists TIED to the program's text (the seventh form; the later family's looks); each row that meets fmt, with fmt's text TOLD by the authors' own Lean function (tested against real Go, not proved from fmt's source: count such statements apart). THE CARD IS WHAT COUNTS. Prove the row's statement (the work); the ties are given (YtpnffdkkmibchaaDoorTie.lean); close each card by the builder's one call (the guide's Derived/Test/ToyasCard.lean, 'card_holds'). Laid BY PROGRAM, IN A SANDBOX (cutbox-door.mjs). By AI agents, Wed Nov 11 2026. No macro, syntax, notation, axiom, sorry.
-/
import Derived.Test.YtpnffdkkmibchaaDoorRows
import GoSem.ClaimSeven
namespace Go.Proofs.YtpnffdkkmibchaaDoor
namespace Rows

/-- THE TIED CARD OF 'laws.FnMorse'. -/
def fnMorseCard : Claim7 := { stood := { row := fnMorseRow, standIns := [], harness := (true, "91e57c36c76285d80b35c66e80f3bf2d3e3d21169d53f1d910aff363be915755"), looks := false }, kinds := [], alts := [], laidByText := true, laidKinds := [.data, .pinned], laidTests := true, laidLooks := .later }
def FnMorseCardSaid : Prop := Claim7.holds Tryd.pinned (.plain (OpenSpec.ofChange fnMorseSpec)) fnMorseCard

/-- THE SECOND FORM's CARD OF 'laws.FnMorse'. -/
def fnMorseUptoCard : Claim7 := { stood := { row := fnMorseUptoRow, standIns := [], harness := (true, "91e57c36c76285d80b35c66e80f3bf2d3e3d21169d53f1d910aff363be915755"), looks := false }, kinds := [], alts := [], laidByText := true, laidKinds := [.data, .pinned], laidTests := true, laidLooks := .later }
def FnMorseUptoCardSaid : Prop := Claim7.holds Tryd.pinned (.plain (OpenSpec.upto fnMorseSpec)) fnMorseUptoCard
end Rows
end Go.Proofs.YtpnffdkkmibchaaDoor
