/-
  No cell of these rows narrows 'for every input' (looked for: loops, veiled, ifaces, maps, wideKeys, modest, calm, conditions, laid).
  DERIVED. THE GIVEN ROWS OF THIS SEAT. 7 by the template 'for every input the law returns true; each argument reads behind the call as it read before'; 0 by the template 'total and deterministic' (their statements: YtkfgoopmdechaaaTotals.lean).
  GIVEN WITH THE SEED: the statements are not yours to turn. If you find one false, say at which input.
  Laid BY PROGRAM, IN A SANDBOX (cutbox-rows.mjs): the forced cells as the released guide's own fill.sh prints them over the translation 0c23748986edec88… (all of the seat's roots in one cut). By AI agents, Wed Nov 11 2026. No macro, syntax, notation, axiom, sorry.
-/
import Derived.Test.YtkfgoopmdechaaaChecked
import GoSem.Claim
import GoSem.ClaimJoined
import GoSem.ClaimMapViews
import Derived.JoinedTies
import Derived.KernelRfl
namespace Go.Proofs.Ytkfgoopmdechaaa
/- THE CELL 'sum', in the pinned program and in every row, IS THE sha256 OF THE DUMP (.gsa) THAT YtkfgoopmdechaaaProg.lean LOADS. Nothing in Lean hashes anything: it is a label: what it is worth is what the hold of that sum in a sandbox is worth. -/
noncomputable def Try.pinned : Pinned := { name := "ytkfgoopmdechaaa", sum := "0c23748986edec8811b24bd89cad85a866edc541d15410b7586d56ffc9d9dc3f", checked := Try.checked }
namespace Rows
def none {H : Type} : Left H := { results := [], args := [] }

/-- 'laws.FnExactTimesSent': WHATEVER THE INPUT: true; the input reads as it did. -/
def fnExactTimesSentSpec : ChangeSpec := { name := "fnExactTimesSent", fn := fun _ => fun
  | [d1, d2] => { results := [.lit (.bool true)], args := [d1, d2] }
  | _ => none }
def fnExactTimesSentRow : OpenClaim := { program := "ytkfgoopmdechaaa", sum := "0c23748986edec8811b24bd89cad85a866edc541d15410b7586d56ffc9d9dc3f", func := "loop.example/g00953/laws.FnExactTimesSent", spec := "fnExactTimesSent", apart := false }
def FnExactTimesSentSaid : Prop := fnExactTimesSentRow.holds Try.pinned (OpenSpec.ofChange fnExactTimesSentSpec)

/-- ITS FALSE NEIGHBOUR: 'it returns false'. Refute it at one input. -/
def fnExactTimesSentWrong : ChangeSpec := { name := "fnExactTimesSent", fn := fun _ => fun
  | [d1, d2] => { results := [.lit (.bool false)], args := [d1, d2] }
  | _ => none }
def FnExactTimesSentWrongFalsely : Prop := fnExactTimesSentRow.holds Try.pinned (OpenSpec.ofChange fnExactTimesSentWrong)

/-- 'laws.FnExactSameWarnings': WHATEVER THE INPUT: true; the input reads as it did. -/
def fnExactSameWarningsSpec : ChangeSpec := { name := "fnExactSameWarnings", fn := fun _ => fun
  | [d1, d2] => { results := [.lit (.bool true)], args := [d1, d2] }
  | _ => none }
def fnExactSameWarningsRow : OpenClaim := { program := "ytkfgoopmdechaaa", sum := "0c23748986edec8811b24bd89cad85a866edc541d15410b7586d56ffc9d9dc3f", func := "loop.example/g00953/laws.FnExactSameWarnings", spec := "fnExactSameWarnings", apart := false }
def FnExactSameWarningsSaid : Prop := fnExactSameWarningsRow.holds Try.pinned (OpenSpec.ofChange fnExactSameWarningsSpec)

/-- ITS FALSE NEIGHBOUR: 'it returns false'. Refute it at one input. -/
def fnExactSameWarningsWrong : ChangeSpec := { name := "fnExactSameWarnings", fn := fun _ => fun
  | [d1, d2] => { results := [.lit (.bool false)], args := [d1, d2] }
  | _ => none }
def FnExactSameWarningsWrongFalsely : Prop := fnExactSameWarningsRow.holds Try.pinned (OpenSpec.ofChange fnExactSameWarningsWrong)

/-- 'laws.FnExactValidPairs': WHATEVER THE INPUT: true; the input reads as it did. -/
def fnExactValidPairsSpec : ChangeSpec := { name := "fnExactValidPairs", fn := fun _ => fun
  | [d1, d2] => { results := [.lit (.bool true)], args := [d1, d2] }
  | _ => none }
def fnExactValidPairsRow : OpenClaim := { program := "ytkfgoopmdechaaa", sum := "0c23748986edec8811b24bd89cad85a866edc541d15410b7586d56ffc9d9dc3f", func := "loop.example/g00953/laws.FnExactValidPairs", spec := "fnExactValidPairs", apart := false }
def FnExactValidPairsSaid : Prop := fnExactValidPairsRow.holds Try.pinned (OpenSpec.ofChange fnExactValidPairsSpec)

/-- ITS FALSE NEIGHBOUR: 'it returns false'. Refute it at one input. -/
def fnExactValidPairsWrong : ChangeSpec := { name := "fnExactValidPairs", fn := fun _ => fun
  | [d1, d2] => { results := [.lit (.bool false)], args := [d1, d2] }
  | _ => none }
def FnExactValidPairsWrongFalsely : Prop := fnExactValidPairsRow.holds Try.pinned (OpenSpec.ofChange fnExactValidPairsWrong)

/-- 'laws.FnExactValidWarnings': WHATEVER THE INPUT: true; the input reads as it did. -/
def fnExactValidWarningsSpec : ChangeSpec := { name := "fnExactValidWarnings", fn := fun _ => fun
  | [d] => { results := [.lit (.bool true)], args := [d] }
  | _ => none }
def fnExactValidWarningsRow : OpenClaim := { program := "ytkfgoopmdechaaa", sum := "0c23748986edec8811b24bd89cad85a866edc541d15410b7586d56ffc9d9dc3f", func := "loop.example/g00953/laws.FnExactValidWarnings", spec := "fnExactValidWarnings", apart := false }
def FnExactValidWarningsSaid : Prop := fnExactValidWarningsRow.holds Try.pinned (OpenSpec.ofChange fnExactValidWarningsSpec)

/-- ITS FALSE NEIGHBOUR: 'it returns false'. Refute it at one input. -/
def fnExactValidWarningsWrong : ChangeSpec := { name := "fnExactValidWarnings", fn := fun _ => fun
  | [d] => { results := [.lit (.bool false)], args := [d] }
  | _ => none }
def FnExactValidWarningsWrongFalsely : Prop := fnExactValidWarningsRow.holds Try.pinned (OpenSpec.ofChange fnExactValidWarningsWrong)

/-- 'laws.FnExactValidObservation': WHATEVER THE INPUT: true; the input reads as it did. -/
def fnExactValidObservationSpec : ChangeSpec := { name := "fnExactValidObservation", fn := fun _ => fun
  | [d] => { results := [.lit (.bool true)], args := [d] }
  | _ => none }
def fnExactValidObservationRow : OpenClaim := { program := "ytkfgoopmdechaaa", sum := "0c23748986edec8811b24bd89cad85a866edc541d15410b7586d56ffc9d9dc3f", func := "loop.example/g00953/laws.FnExactValidObservation", spec := "fnExactValidObservation", inPlace := ["internal/bytealg.IndexByteString", "internal/bytealg.IndexString"], named := ["internal/bytealg.MaxLen"], apart := false }
def FnExactValidObservationSaid : Prop := fnExactValidObservationRow.holds Try.pinned (OpenSpec.ofChange fnExactValidObservationSpec)

/-- ITS FALSE NEIGHBOUR: 'it returns false'. Refute it at one input. -/
def fnExactValidObservationWrong : ChangeSpec := { name := "fnExactValidObservation", fn := fun _ => fun
  | [d] => { results := [.lit (.bool false)], args := [d] }
  | _ => none }
def FnExactValidObservationWrongFalsely : Prop := fnExactValidObservationRow.holds Try.pinned (OpenSpec.ofChange fnExactValidObservationWrong)

/-- 'laws.FnExactCancelWarning': WHATEVER THE INPUT: true; the input reads as it did. -/
def fnExactCancelWarningSpec : ChangeSpec := { name := "fnExactCancelWarning", fn := fun _ => fun
  | [d1, d2, d3] => { results := [.lit (.bool true)], args := [d1, d2, d3] }
  | _ => none }
def fnExactCancelWarningRow : OpenClaim := { program := "ytkfgoopmdechaaa", sum := "0c23748986edec8811b24bd89cad85a866edc541d15410b7586d56ffc9d9dc3f", func := "loop.example/g00953/laws.FnExactCancelWarning", spec := "fnExactCancelWarning", apart := false }
def FnExactCancelWarningSaid : Prop := fnExactCancelWarningRow.holds Try.pinned (OpenSpec.ofChange fnExactCancelWarningSpec)

/-- ITS FALSE NEIGHBOUR: 'it returns false'. Refute it at one input. -/
def fnExactCancelWarningWrong : ChangeSpec := { name := "fnExactCancelWarning", fn := fun _ => fun
  | [d1, d2, d3] => { results := [.lit (.bool false)], args := [d1, d2, d3] }
  | _ => none }
def FnExactCancelWarningWrongFalsely : Prop := fnExactCancelWarningRow.holds Try.pinned (OpenSpec.ofChange fnExactCancelWarningWrong)

/-- 'laws.FnExactSameNotices': WHATEVER THE INPUT: true; the input reads as it did. -/
def fnExactSameNoticesSpec : ChangeSpec := { name := "fnExactSameNotices", fn := fun _ => fun
  | [d1, d2] => { results := [.lit (.bool true)], args := [d1, d2] }
  | _ => none }
def fnExactSameNoticesRow : OpenClaim := { program := "ytkfgoopmdechaaa", sum := "0c23748986edec8811b24bd89cad85a866edc541d15410b7586d56ffc9d9dc3f", func := "loop.example/g00953/laws.FnExactSameNotices", spec := "fnExactSameNotices", unfollowed := true, recurses := true, apart := false }
def FnExactSameNoticesSaid : Prop := fnExactSameNoticesRow.holds Try.pinned (OpenSpec.ofChange fnExactSameNoticesSpec)

/-- ITS FALSE NEIGHBOUR: 'it returns false'. Refute it at one input. -/
def fnExactSameNoticesWrong : ChangeSpec := { name := "fnExactSameNotices", fn := fun _ => fun
  | [d1, d2] => { results := [.lit (.bool false)], args := [d1, d2] }
  | _ => none }
def FnExactSameNoticesWrongFalsely : Prop := fnExactSameNoticesRow.holds Try.pinned (OpenSpec.ofChange fnExactSameNoticesWrong)

/- THE SECOND FORM. 'bulk': how many values and letters a reading holds, each counted each time it is reached (what is shared counts as often as it is met; a slice's spare places count too). A statement '..UptoSaid' is the law's where the arguments, and the package variables that the reading takes, are together of bulk at most 1048576: NARROWER than '..Said'. Prove '..Said' where nothing that the law and all that it calls make is longer than what came in: it says more and counts as full. Else prove '..UptoSaid'. A law counts once. -/
mutual
def uptoBulk {H : Type} : DataW H → Nat
  | .lit (.string bytes) => bytes.length + 1
  | .lit _ => 1
  | .nil => 1
  | .ptr d => uptoBulk d + 1
  | .slice elems spare => uptoBulkAll elems + uptoBulkAll spare + 1
  | .agg parts => uptoBulkAll parts + 1
  | .iface _ d => uptoBulk d + 1
  | .map entries => uptoBulkEntries entries + 1
  | .held _ => 1
def uptoBulkAll {H : Type} : List (DataW H) → Nat
  | [] => 0
  | d :: r => uptoBulk d + uptoBulkAll r
def uptoBulkEntries {H : Type} : List (Lit × DataW H) → Nat
  | [] => 0
  | x :: r => uptoBulkEntry x + uptoBulkEntries r
def uptoBulkEntry {H : Type} : Lit × DataW H → Nat
  | (.string bytes, d) => bytes.length + uptoBulk d + 1
  | (_, d) => uptoBulk d + 1
 end
def uptoSmall : (H : Type) → List (DataW H) → Bool := fun _ ds => decide (uptoBulkAll ds ≤ 1048576)
def OpenSpec.upto (s : _root_.Go.ChangeSpec) : _root_.Go.OpenSpec := { _root_.Go.OpenSpec.ofChange s with cond := some uptoSmall }

/-- 'laws.FnExactTimesSent', WHERE WHAT IT READS IS OF BULK AT MOST 1048576: true; the input reads as it did. -/
def fnExactTimesSentUptoRow : OpenClaim := { program := "ytkfgoopmdechaaa", sum := "0c23748986edec8811b24bd89cad85a866edc541d15410b7586d56ffc9d9dc3f", func := "loop.example/g00953/laws.FnExactTimesSent", spec := "fnExactTimesSent", apart := false, narrowed := true }
def FnExactTimesSentUptoSaid : Prop := fnExactTimesSentUptoRow.holds Try.pinned (OpenSpec.upto fnExactTimesSentSpec)

/-- 'laws.FnExactSameWarnings', WHERE WHAT IT READS IS OF BULK AT MOST 1048576: true; the input reads as it did. -/
def fnExactSameWarningsUptoRow : OpenClaim := { program := "ytkfgoopmdechaaa", sum := "0c23748986edec8811b24bd89cad85a866edc541d15410b7586d56ffc9d9dc3f", func := "loop.example/g00953/laws.FnExactSameWarnings", spec := "fnExactSameWarnings", apart := false, narrowed := true }
def FnExactSameWarningsUptoSaid : Prop := fnExactSameWarningsUptoRow.holds Try.pinned (OpenSpec.upto fnExactSameWarningsSpec)

/-- 'laws.FnExactValidPairs', WHERE WHAT IT READS IS OF BULK AT MOST 1048576: true; the input reads as it did. -/
def fnExactValidPairsUptoRow : OpenClaim := { program := "ytkfgoopmdechaaa", sum := "0c23748986edec8811b24bd89cad85a866edc541d15410b7586d56ffc9d9dc3f", func := "loop.example/g00953/laws.FnExactValidPairs", spec := "fnExactValidPairs", apart := false, narrowed := true }
def FnExactValidPairsUptoSaid : Prop := fnExactValidPairsUptoRow.holds Try.pinned (OpenSpec.upto fnExactValidPairsSpec)

/-- 'laws.FnExactValidWarnings', WHERE WHAT IT READS IS OF BULK AT MOST 1048576: true; the input reads as it did. -/
def fnExactValidWarningsUptoRow : OpenClaim := { program := "ytkfgoopmdechaaa", sum := "0c23748986edec8811b24bd89cad85a866edc541d15410b7586d56ffc9d9dc3f", func := "loop.example/g00953/laws.FnExactValidWarnings", spec := "fnExactValidWarnings", apart := false, narrowed := true }
def FnExactValidWarningsUptoSaid : Prop := fnExactValidWarningsUptoRow.holds Try.pinned (OpenSpec.upto fnExactValidWarningsSpec)

/-- 'laws.FnExactValidObservation', WHERE WHAT IT READS IS OF BULK AT MOST 1048576: true; the input reads as it did. -/
def fnExactValidObservationUptoRow : OpenClaim := { program := "ytkfgoopmdechaaa", sum := "0c23748986edec8811b24bd89cad85a866edc541d15410b7586d56ffc9d9dc3f", func := "loop.example/g00953/laws.FnExactValidObservation", spec := "fnExactValidObservation", inPlace := ["internal/bytealg.IndexByteString", "internal/bytealg.IndexString"], named := ["internal/bytealg.MaxLen"], apart := false, narrowed := true }
def FnExactValidObservationUptoSaid : Prop := fnExactValidObservationUptoRow.holds Try.pinned (OpenSpec.upto fnExactValidObservationSpec)

/-- 'laws.FnExactCancelWarning', WHERE WHAT IT READS IS OF BULK AT MOST 1048576: true; the input reads as it did. -/
def fnExactCancelWarningUptoRow : OpenClaim := { program := "ytkfgoopmdechaaa", sum := "0c23748986edec8811b24bd89cad85a866edc541d15410b7586d56ffc9d9dc3f", func := "loop.example/g00953/laws.FnExactCancelWarning", spec := "fnExactCancelWarning", apart := false, narrowed := true }
def FnExactCancelWarningUptoSaid : Prop := fnExactCancelWarningUptoRow.holds Try.pinned (OpenSpec.upto fnExactCancelWarningSpec)

/-- 'laws.FnExactSameNotices', WHERE WHAT IT READS IS OF BULK AT MOST 1048576: true; the input reads as it did. -/
def fnExactSameNoticesUptoRow : OpenClaim := { program := "ytkfgoopmdechaaa", sum := "0c23748986edec8811b24bd89cad85a866edc541d15410b7586d56ffc9d9dc3f", func := "loop.example/g00953/laws.FnExactSameNotices", spec := "fnExactSameNotices", unfollowed := true, recurses := true, apart := false, narrowed := true }
def FnExactSameNoticesUptoSaid : Prop := fnExactSameNoticesUptoRow.holds Try.pinned (OpenSpec.upto fnExactSameNoticesSpec)

end Rows
end Go.Proofs.Ytkfgoopmdechaaa
