/-
  No cell of these rows narrows 'for every input' (looked for: loops, veiled, ifaces, maps, wideKeys, modest, calm, conditions, laid).
  DERIVED. THE GIVEN ROWS OF THIS SEAT. 9 by the template 'for every input the law returns true; each argument reads behind the call as it read before'; 0 by the template 'total and deterministic' (their statements: YtnikdafbnkedkaaTotals.lean).
  GIVEN WITH THE SEED: the statements are not yours to turn. If you find one false, say at which input.
  Laid BY PROGRAM, IN A SANDBOX (cutbox-rows.mjs): the forced cells as the released guide's own fill.sh prints them over the translation 881000003a6428f6… (all of the seat's roots in one cut). By AI agents, Wed Nov 11 2026. No macro, syntax, notation, axiom, sorry.
-/
import Derived.Test.YtnikdafbnkedkaaChecked
import GoSem.Claim
import GoSem.ClaimJoined
import GoSem.ClaimMapViews
import Derived.JoinedTies
import Derived.KernelRfl
namespace Go.Proofs.Ytnikdafbnkedkaa
/- THE CELL 'sum', in the pinned program and in every row, IS THE sha256 OF THE DUMP (.gsa) THAT YtnikdafbnkedkaaProg.lean LOADS. Nothing in Lean hashes anything: it is a label: what it is worth is what the hold of that sum in a sandbox is worth. -/
noncomputable def Try.pinned : Pinned := { name := "ytnikdafbnkedkaa", sum := "881000003a6428f67409aa7c4bfe535ebe54398785185e28a3d2b7ce10583fb1", checked := Try.checked }
namespace Rows
def none {H : Type} : Left H := { results := [], args := [] }

/-- 'laws.FnBearings': WHATEVER THE INPUT: true; the input reads as it did. -/
def fnBearingsSpec : ChangeSpec := { name := "fnBearings", fn := fun _ => fun
  | [d1, d2] => { results := [.lit (.bool true)], args := [d1, d2] }
  | _ => none }
def fnBearingsRow : OpenClaim := { program := "ytnikdafbnkedkaa", sum := "881000003a6428f67409aa7c4bfe535ebe54398785185e28a3d2b7ce10583fb1", func := "loop.example/g00953/laws.FnBearings", spec := "fnBearings", unfollowed := true, recurses := true, apart := false }
def FnBearingsSaid : Prop := fnBearingsRow.holds Try.pinned (OpenSpec.ofChange fnBearingsSpec)

/-- ITS FALSE NEIGHBOUR: 'it returns false'. Refute it at one input. -/
def fnBearingsWrong : ChangeSpec := { name := "fnBearings", fn := fun _ => fun
  | [d1, d2] => { results := [.lit (.bool false)], args := [d1, d2] }
  | _ => none }
def FnBearingsWrongFalsely : Prop := fnBearingsRow.holds Try.pinned (OpenSpec.ofChange fnBearingsWrong)

/-- 'laws.FnExactAddDanger': WHATEVER THE INPUT: true; the input reads as it did. -/
def fnExactAddDangerSpec : ChangeSpec := { name := "fnExactAddDanger", fn := fun _ => fun
  | [d1, d2] => { results := [.lit (.bool true)], args := [d1, d2] }
  | _ => none }
def fnExactAddDangerRow : OpenClaim := { program := "ytnikdafbnkedkaa", sum := "881000003a6428f67409aa7c4bfe535ebe54398785185e28a3d2b7ce10583fb1", func := "loop.example/g00953/laws.FnExactAddDanger", spec := "fnExactAddDanger", inPlace := ["slices.overlaps[loop.example/g00953/impl.Danger]"], apart := false }
def FnExactAddDangerSaid : Prop := fnExactAddDangerRow.holds Try.pinned (OpenSpec.ofChange fnExactAddDangerSpec)

/-- ITS FALSE NEIGHBOUR: 'it returns false'. Refute it at one input. -/
def fnExactAddDangerWrong : ChangeSpec := { name := "fnExactAddDanger", fn := fun _ => fun
  | [d1, d2] => { results := [.lit (.bool false)], args := [d1, d2] }
  | _ => none }
def FnExactAddDangerWrongFalsely : Prop := fnExactAddDangerRow.holds Try.pinned (OpenSpec.ofChange fnExactAddDangerWrong)

/-- 'laws.FnExactCancelWarning': WHATEVER THE INPUT: true; the input reads as it did. -/
def fnExactCancelWarningSpec : ChangeSpec := { name := "fnExactCancelWarning", fn := fun _ => fun
  | [d1, d2, d3] => { results := [.lit (.bool true)], args := [d1, d2, d3] }
  | _ => none }
def fnExactCancelWarningRow : OpenClaim := { program := "ytnikdafbnkedkaa", sum := "881000003a6428f67409aa7c4bfe535ebe54398785185e28a3d2b7ce10583fb1", func := "loop.example/g00953/laws.FnExactCancelWarning", spec := "fnExactCancelWarning", apart := false }
def FnExactCancelWarningSaid : Prop := fnExactCancelWarningRow.holds Try.pinned (OpenSpec.ofChange fnExactCancelWarningSpec)

/-- ITS FALSE NEIGHBOUR: 'it returns false'. Refute it at one input. -/
def fnExactCancelWarningWrong : ChangeSpec := { name := "fnExactCancelWarning", fn := fun _ => fun
  | [d1, d2, d3] => { results := [.lit (.bool false)], args := [d1, d2, d3] }
  | _ => none }
def FnExactCancelWarningWrongFalsely : Prop := fnExactCancelWarningRow.holds Try.pinned (OpenSpec.ofChange fnExactCancelWarningWrong)

/-- 'laws.FnExactClearanceOf': WHATEVER THE INPUT: true; the input reads as it did. -/
def fnExactClearanceOfSpec : ChangeSpec := { name := "fnExactClearanceOf", fn := fun _ => fun
  | [d1, d2] => { results := [.lit (.bool true)], args := [d1, d2] }
  | _ => none }
def fnExactClearanceOfRow : OpenClaim := { program := "ytnikdafbnkedkaa", sum := "881000003a6428f67409aa7c4bfe535ebe54398785185e28a3d2b7ce10583fb1", func := "loop.example/g00953/laws.FnExactClearanceOf", spec := "fnExactClearanceOf", apart := false }
def FnExactClearanceOfSaid : Prop := fnExactClearanceOfRow.holds Try.pinned (OpenSpec.ofChange fnExactClearanceOfSpec)

/-- ITS FALSE NEIGHBOUR: 'it returns false'. Refute it at one input. -/
def fnExactClearanceOfWrong : ChangeSpec := { name := "fnExactClearanceOf", fn := fun _ => fun
  | [d1, d2] => { results := [.lit (.bool false)], args := [d1, d2] }
  | _ => none }
def FnExactClearanceOfWrongFalsely : Prop := fnExactClearanceOfRow.holds Try.pinned (OpenSpec.ofChange fnExactClearanceOfWrong)

/-- 'laws.FnExactDangersAt': WHATEVER THE INPUT: true; the input reads as it did. -/
def fnExactDangersAtSpec : ChangeSpec := { name := "fnExactDangersAt", fn := fun _ => fun
  | [d1, d2] => { results := [.lit (.bool true)], args := [d1, d2] }
  | _ => none }
def fnExactDangersAtRow : OpenClaim := { program := "ytnikdafbnkedkaa", sum := "881000003a6428f67409aa7c4bfe535ebe54398785185e28a3d2b7ce10583fb1", func := "loop.example/g00953/laws.FnExactDangersAt", spec := "fnExactDangersAt", unfollowed := true, recurses := true, apart := false }
def FnExactDangersAtSaid : Prop := fnExactDangersAtRow.holds Try.pinned (OpenSpec.ofChange fnExactDangersAtSpec)

/-- ITS FALSE NEIGHBOUR: 'it returns false'. Refute it at one input. -/
def fnExactDangersAtWrong : ChangeSpec := { name := "fnExactDangersAt", fn := fun _ => fun
  | [d1, d2] => { results := [.lit (.bool false)], args := [d1, d2] }
  | _ => none }
def FnExactDangersAtWrongFalsely : Prop := fnExactDangersAtRow.holds Try.pinned (OpenSpec.ofChange fnExactDangersAtWrong)

/-- 'laws.FnExactDangersOn': WHATEVER THE INPUT: true; the input reads as it did. -/
def fnExactDangersOnSpec : ChangeSpec := { name := "fnExactDangersOn", fn := fun _ => fun
  | [d1, d2, d3] => { results := [.lit (.bool true)], args := [d1, d2, d3] }
  | _ => none }
def fnExactDangersOnRow : OpenClaim := { program := "ytnikdafbnkedkaa", sum := "881000003a6428f67409aa7c4bfe535ebe54398785185e28a3d2b7ce10583fb1", func := "loop.example/g00953/laws.FnExactDangersOn", spec := "fnExactDangersOn", unfollowed := true, recurses := true, apart := false }
def FnExactDangersOnSaid : Prop := fnExactDangersOnRow.holds Try.pinned (OpenSpec.ofChange fnExactDangersOnSpec)

/-- ITS FALSE NEIGHBOUR: 'it returns false'. Refute it at one input. -/
def fnExactDangersOnWrong : ChangeSpec := { name := "fnExactDangersOn", fn := fun _ => fun
  | [d1, d2, d3] => { results := [.lit (.bool false)], args := [d1, d2, d3] }
  | _ => none }
def FnExactDangersOnWrongFalsely : Prop := fnExactDangersOnRow.holds Try.pinned (OpenSpec.ofChange fnExactDangersOnWrong)

/-- 'laws.FnExactFixSpread': WHATEVER THE INPUT: true; the input reads as it did. -/
def fnExactFixSpreadSpec : ChangeSpec := { name := "fnExactFixSpread", fn := fun _ => fun
  | [d1, d2] => { results := [.lit (.bool true)], args := [d1, d2] }
  | _ => none }
def fnExactFixSpreadRow : OpenClaim := { program := "ytnikdafbnkedkaa", sum := "881000003a6428f67409aa7c4bfe535ebe54398785185e28a3d2b7ce10583fb1", func := "loop.example/g00953/laws.FnExactFixSpread", spec := "fnExactFixSpread", recurses := true, apart := false }
def FnExactFixSpreadSaid : Prop := fnExactFixSpreadRow.holds Try.pinned (OpenSpec.ofChange fnExactFixSpreadSpec)

/-- ITS FALSE NEIGHBOUR: 'it returns false'. Refute it at one input. -/
def fnExactFixSpreadWrong : ChangeSpec := { name := "fnExactFixSpread", fn := fun _ => fun
  | [d1, d2] => { results := [.lit (.bool false)], args := [d1, d2] }
  | _ => none }
def FnExactFixSpreadWrongFalsely : Prop := fnExactFixSpreadRow.holds Try.pinned (OpenSpec.ofChange fnExactFixSpreadWrong)

/-- 'laws.FnExactSameNotices': WHATEVER THE INPUT: true; the input reads as it did. -/
def fnExactSameNoticesSpec : ChangeSpec := { name := "fnExactSameNotices", fn := fun _ => fun
  | [d1, d2] => { results := [.lit (.bool true)], args := [d1, d2] }
  | _ => none }
def fnExactSameNoticesRow : OpenClaim := { program := "ytnikdafbnkedkaa", sum := "881000003a6428f67409aa7c4bfe535ebe54398785185e28a3d2b7ce10583fb1", func := "loop.example/g00953/laws.FnExactSameNotices", spec := "fnExactSameNotices", unfollowed := true, recurses := true, apart := false }
def FnExactSameNoticesSaid : Prop := fnExactSameNoticesRow.holds Try.pinned (OpenSpec.ofChange fnExactSameNoticesSpec)

/-- ITS FALSE NEIGHBOUR: 'it returns false'. Refute it at one input. -/
def fnExactSameNoticesWrong : ChangeSpec := { name := "fnExactSameNotices", fn := fun _ => fun
  | [d1, d2] => { results := [.lit (.bool false)], args := [d1, d2] }
  | _ => none }
def FnExactSameNoticesWrongFalsely : Prop := fnExactSameNoticesRow.holds Try.pinned (OpenSpec.ofChange fnExactSameNoticesWrong)

/-- 'laws.FnLeading': WHATEVER THE INPUT: true; the input reads as it did. -/
def fnLeadingSpec : ChangeSpec := { name := "fnLeading", fn := fun _ => fun
  | [d1, d2] => { results := [.lit (.bool true)], args := [d1, d2] }
  | _ => none }
def fnLeadingRow : OpenClaim := { program := "ytnikdafbnkedkaa", sum := "881000003a6428f67409aa7c4bfe535ebe54398785185e28a3d2b7ce10583fb1", func := "loop.example/g00953/laws.FnLeading", spec := "fnLeading", apart := false }
def FnLeadingSaid : Prop := fnLeadingRow.holds Try.pinned (OpenSpec.ofChange fnLeadingSpec)

/-- ITS FALSE NEIGHBOUR: 'it returns false'. Refute it at one input. -/
def fnLeadingWrong : ChangeSpec := { name := "fnLeading", fn := fun _ => fun
  | [d1, d2] => { results := [.lit (.bool false)], args := [d1, d2] }
  | _ => none }
def FnLeadingWrongFalsely : Prop := fnLeadingRow.holds Try.pinned (OpenSpec.ofChange fnLeadingWrong)

/- THE SECOND FORM. 'bulk': how many values and letters a reading holds, each counted each time it is reached (what is shared counts as often as it is met; a slice's spare places count too). A statement '..UptoSaid' is the law's where the arguments, and the package variables that the reading takes, are together of bulk at most 1048576: NARROWER than '..Said'. Prove '..Said' where nothing that the law and all that it calls make is longer than what came in: it says more and counts as full. Else prove '..UptoSaid'. A law counts once. -/
mutual
def uptoBulk {H : Type} : DataW H → Nat
  | .lit (.string bytes) => bytes.length + 1
  | .lit _ => 1
  | .nil => 1
  | .ptr d => uptoBulk d + 1
  | .slice elems spare => uptoBulkAll elems + uptoBulkAll spare + 1
  | .agg parts => uptoBulkAll parts + 1
  | .iface _ d => uptoBulk d + 1
  | .map entries => uptoBulkEntries entries + 1
  | .held _ => 1
def uptoBulkAll {H : Type} : List (DataW H) → Nat
  | [] => 0
  | d :: r => uptoBulk d + uptoBulkAll r
def uptoBulkEntries {H : Type} : List (Lit × DataW H) → Nat
  | [] => 0
  | x :: r => uptoBulkEntry x + uptoBulkEntries r
def uptoBulkEntry {H : Type} : Lit × DataW H → Nat
  | (.string bytes, d) => bytes.length + uptoBulk d + 1
  | (_, d) => uptoBulk d + 1
 end
def uptoSmall : (H : Type) → List (DataW H) → Bool := fun _ ds => decide (uptoBulkAll ds ≤ 1048576)
def OpenSpec.upto (s : _root_.Go.ChangeSpec) : _root_.Go.OpenSpec := { _root_.Go.OpenSpec.ofChange s with cond := some uptoSmall }

/-- 'laws.FnBearings', WHERE WHAT IT READS IS OF BULK AT MOST 1048576: true; the input reads as it did. -/
def fnBearingsUptoRow : OpenClaim := { program := "ytnikdafbnkedkaa", sum := "881000003a6428f67409aa7c4bfe535ebe54398785185e28a3d2b7ce10583fb1", func := "loop.example/g00953/laws.FnBearings", spec := "fnBearings", unfollowed := true, recurses := true, apart := false, narrowed := true }
def FnBearingsUptoSaid : Prop := fnBearingsUptoRow.holds Try.pinned (OpenSpec.upto fnBearingsSpec)

/-- 'laws.FnExactAddDanger', WHERE WHAT IT READS IS OF BULK AT MOST 1048576: true; the input reads as it did. -/
def fnExactAddDangerUptoRow : OpenClaim := { program := "ytnikdafbnkedkaa", sum := "881000003a6428f67409aa7c4bfe535ebe54398785185e28a3d2b7ce10583fb1", func := "loop.example/g00953/laws.FnExactAddDanger", spec := "fnExactAddDanger", inPlace := ["slices.overlaps[loop.example/g00953/impl.Danger]"], apart := false, narrowed := true }
def FnExactAddDangerUptoSaid : Prop := fnExactAddDangerUptoRow.holds Try.pinned (OpenSpec.upto fnExactAddDangerSpec)

/-- 'laws.FnExactCancelWarning', WHERE WHAT IT READS IS OF BULK AT MOST 1048576: true; the input reads as it did. -/
def fnExactCancelWarningUptoRow : OpenClaim := { program := "ytnikdafbnkedkaa", sum := "881000003a6428f67409aa7c4bfe535ebe54398785185e28a3d2b7ce10583fb1", func := "loop.example/g00953/laws.FnExactCancelWarning", spec := "fnExactCancelWarning", apart := false, narrowed := true }
def FnExactCancelWarningUptoSaid : Prop := fnExactCancelWarningUptoRow.holds Try.pinned (OpenSpec.upto fnExactCancelWarningSpec)

/-- 'laws.FnExactClearanceOf', WHERE WHAT IT READS IS OF BULK AT MOST 1048576: true; the input reads as it did. -/
def fnExactClearanceOfUptoRow : OpenClaim := { program := "ytnikdafbnkedkaa", sum := "881000003a6428f67409aa7c4bfe535ebe54398785185e28a3d2b7ce10583fb1", func := "loop.example/g00953/laws.FnExactClearanceOf", spec := "fnExactClearanceOf", apart := false, narrowed := true }
def FnExactClearanceOfUptoSaid : Prop := fnExactClearanceOfUptoRow.holds Try.pinned (OpenSpec.upto fnExactClearanceOfSpec)

/-- 'laws.FnExactDangersAt', WHERE WHAT IT READS IS OF BULK AT MOST 1048576: true; the input reads as it did. -/
def fnExactDangersAtUptoRow : OpenClaim := { program := "ytnikdafbnkedkaa", sum := "881000003a6428f67409aa7c4bfe535ebe54398785185e28a3d2b7ce10583fb1", func := "loop.example/g00953/laws.FnExactDangersAt", spec := "fnExactDangersAt", unfollowed := true, recurses := true, apart := false, narrowed := true }
def FnExactDangersAtUptoSaid : Prop := fnExactDangersAtUptoRow.holds Try.pinned (OpenSpec.upto fnExactDangersAtSpec)

/-- 'laws.FnExactDangersOn', WHERE WHAT IT READS IS OF BULK AT MOST 1048576: true; the input reads as it did. -/
def fnExactDangersOnUptoRow : OpenClaim := { program := "ytnikdafbnkedkaa", sum := "881000003a6428f67409aa7c4bfe535ebe54398785185e28a3d2b7ce10583fb1", func := "loop.example/g00953/laws.FnExactDangersOn", spec := "fnExactDangersOn", unfollowed := true, recurses := true, apart := false, narrowed := true }
def FnExactDangersOnUptoSaid : Prop := fnExactDangersOnUptoRow.holds Try.pinned (OpenSpec.upto fnExactDangersOnSpec)

/-- 'laws.FnExactFixSpread', WHERE WHAT IT READS IS OF BULK AT MOST 1048576: true; the input reads as it did. -/
def fnExactFixSpreadUptoRow : OpenClaim := { program := "ytnikdafbnkedkaa", sum := "881000003a6428f67409aa7c4bfe535ebe54398785185e28a3d2b7ce10583fb1", func := "loop.example/g00953/laws.FnExactFixSpread", spec := "fnExactFixSpread", recurses := true, apart := false, narrowed := true }
def FnExactFixSpreadUptoSaid : Prop := fnExactFixSpreadUptoRow.holds Try.pinned (OpenSpec.upto fnExactFixSpreadSpec)

/-- 'laws.FnExactSameNotices', WHERE WHAT IT READS IS OF BULK AT MOST 1048576: true; the input reads as it did. -/
def fnExactSameNoticesUptoRow : OpenClaim := { program := "ytnikdafbnkedkaa", sum := "881000003a6428f67409aa7c4bfe535ebe54398785185e28a3d2b7ce10583fb1", func := "loop.example/g00953/laws.FnExactSameNotices", spec := "fnExactSameNotices", unfollowed := true, recurses := true, apart := false, narrowed := true }
def FnExactSameNoticesUptoSaid : Prop := fnExactSameNoticesUptoRow.holds Try.pinned (OpenSpec.upto fnExactSameNoticesSpec)

/-- 'laws.FnLeading', WHERE WHAT IT READS IS OF BULK AT MOST 1048576: true; the input reads as it did. -/
def fnLeadingUptoRow : OpenClaim := { program := "ytnikdafbnkedkaa", sum := "881000003a6428f67409aa7c4bfe535ebe54398785185e28a3d2b7ce10583fb1", func := "loop.example/g00953/laws.FnLeading", spec := "fnLeading", apart := false, narrowed := true }
def FnLeadingUptoSaid : Prop := fnLeadingUptoRow.holds Try.pinned (OpenSpec.upto fnLeadingSpec)

end Rows
end Go.Proofs.Ytnikdafbnkedkaa
