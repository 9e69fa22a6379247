/-
  No cell of these rows narrows 'for every input' (looked for: loops, veiled, ifaces, maps, wideKeys, modest, calm, conditions, laid).
  DERIVED. THE GIVEN ROWS OF THIS SEAT. 11 by the template 'for every input the law returns true; each argument reads behind the call as it read before'; 0 by the template 'total and deterministic' (their statements: YtekfpclkdijleaaTotals.lean).
  GIVEN WITH THE SEED: the statements are not yours to turn. If you find one false, say at which input.
  Laid BY PROGRAM, IN A SANDBOX (cutbox-rows.mjs): the forced cells as the released guide's own fill.sh prints them over the translation 461a3b48a66242c3… (all of the seat's roots in one cut). By AI agents, Wed Nov 11 2026. No macro, syntax, notation, axiom, sorry.
-/
import Derived.Test.YtekfpclkdijleaaChecked
import GoSem.Claim
import GoSem.ClaimJoined
import GoSem.ClaimMapViews
import Derived.JoinedTies
import Derived.KernelRfl
namespace Go.Proofs.Ytekfpclkdijleaa
/- THE CELL 'sum', in the pinned program and in every row, IS THE sha256 OF THE DUMP (.gsa) THAT YtekfpclkdijleaaProg.lean LOADS. Nothing in Lean hashes anything: it is a label: what it is worth is what the hold of that sum in a sandbox is worth. -/
noncomputable def Try.pinned : Pinned := { name := "ytekfpclkdijleaa", sum := "461a3b48a66242c379c798c0590639244b045f674f4eba3ae9da34522cf6bc12", checked := Try.checked }
namespace Rows
def none {H : Type} : Left H := { results := [], args := [] }

/-- 'laws.FnLeading': WHATEVER THE INPUT: true; the input reads as it did. -/
def fnLeadingSpec : ChangeSpec := { name := "fnLeading", fn := fun _ => fun
  | [d1, d2] => { results := [.lit (.bool true)], args := [d1, d2] }
  | _ => none }
def fnLeadingRow : OpenClaim := { program := "ytekfpclkdijleaa", sum := "461a3b48a66242c379c798c0590639244b045f674f4eba3ae9da34522cf6bc12", func := "loop.example/g00953/laws.FnLeading", spec := "fnLeading", apart := false }
def FnLeadingSaid : Prop := fnLeadingRow.holds Try.pinned (OpenSpec.ofChange fnLeadingSpec)

/-- ITS FALSE NEIGHBOUR: 'it returns false'. Refute it at one input. -/
def fnLeadingWrong : ChangeSpec := { name := "fnLeading", fn := fun _ => fun
  | [d1, d2] => { results := [.lit (.bool false)], args := [d1, d2] }
  | _ => none }
def FnLeadingWrongFalsely : Prop := fnLeadingRow.holds Try.pinned (OpenSpec.ofChange fnLeadingWrong)

/-- 'laws.FnExactValidLeading': WHATEVER THE INPUT: true; the input reads as it did. -/
def fnExactValidLeadingSpec : ChangeSpec := { name := "fnExactValidLeading", fn := fun _ => fun
  | [d] => { results := [.lit (.bool true)], args := [d] }
  | _ => none }
def fnExactValidLeadingRow : OpenClaim := { program := "ytekfpclkdijleaa", sum := "461a3b48a66242c379c798c0590639244b045f674f4eba3ae9da34522cf6bc12", func := "loop.example/g00953/laws.FnExactValidLeading", spec := "fnExactValidLeading", apart := false }
def FnExactValidLeadingSaid : Prop := fnExactValidLeadingRow.holds Try.pinned (OpenSpec.ofChange fnExactValidLeadingSpec)

/-- ITS FALSE NEIGHBOUR: 'it returns false'. Refute it at one input. -/
def fnExactValidLeadingWrong : ChangeSpec := { name := "fnExactValidLeading", fn := fun _ => fun
  | [d] => { results := [.lit (.bool false)], args := [d] }
  | _ => none }
def FnExactValidLeadingWrongFalsely : Prop := fnExactValidLeadingRow.holds Try.pinned (OpenSpec.ofChange fnExactValidLeadingWrong)

/-- 'laws.FnExactOffLine': WHATEVER THE INPUT: true; the input reads as it did. -/
def fnExactOffLineSpec : ChangeSpec := { name := "fnExactOffLine", fn := fun _ => fun
  | [d1, d2] => { results := [.lit (.bool true)], args := [d1, d2] }
  | _ => none }
def fnExactOffLineRow : OpenClaim := { program := "ytekfpclkdijleaa", sum := "461a3b48a66242c379c798c0590639244b045f674f4eba3ae9da34522cf6bc12", func := "loop.example/g00953/laws.FnExactOffLine", spec := "fnExactOffLine", apart := false }
def FnExactOffLineSaid : Prop := fnExactOffLineRow.holds Try.pinned (OpenSpec.ofChange fnExactOffLineSpec)

/-- ITS FALSE NEIGHBOUR: 'it returns false'. Refute it at one input. -/
def fnExactOffLineWrong : ChangeSpec := { name := "fnExactOffLine", fn := fun _ => fun
  | [d1, d2] => { results := [.lit (.bool false)], args := [d1, d2] }
  | _ => none }
def FnExactOffLineWrongFalsely : Prop := fnExactOffLineRow.holds Try.pinned (OpenSpec.ofChange fnExactOffLineWrong)

/-- 'laws.FnExactBandAt': WHATEVER THE INPUT: true; the input reads as it did. -/
def fnExactBandAtSpec : ChangeSpec := { name := "fnExactBandAt", fn := fun _ => fun
  | [d1, d2, d3] => { results := [.lit (.bool true)], args := [d1, d2, d3] }
  | _ => none }
def fnExactBandAtRow : OpenClaim := { program := "ytekfpclkdijleaa", sum := "461a3b48a66242c379c798c0590639244b045f674f4eba3ae9da34522cf6bc12", func := "loop.example/g00953/laws.FnExactBandAt", spec := "fnExactBandAt", apart := false }
def FnExactBandAtSaid : Prop := fnExactBandAtRow.holds Try.pinned (OpenSpec.ofChange fnExactBandAtSpec)

/-- ITS FALSE NEIGHBOUR: 'it returns false'. Refute it at one input. -/
def fnExactBandAtWrong : ChangeSpec := { name := "fnExactBandAt", fn := fun _ => fun
  | [d1, d2, d3] => { results := [.lit (.bool false)], args := [d1, d2, d3] }
  | _ => none }
def FnExactBandAtWrongFalsely : Prop := fnExactBandAtRow.holds Try.pinned (OpenSpec.ofChange fnExactBandAtWrong)

/-- 'laws.FnExactAheadOf': WHATEVER THE INPUT: true; the input reads as it did. -/
def fnExactAheadOfSpec : ChangeSpec := { name := "fnExactAheadOf", fn := fun _ => fun
  | [d1, d2] => { results := [.lit (.bool true)], args := [d1, d2] }
  | _ => none }
def fnExactAheadOfRow : OpenClaim := { program := "ytekfpclkdijleaa", sum := "461a3b48a66242c379c798c0590639244b045f674f4eba3ae9da34522cf6bc12", func := "loop.example/g00953/laws.FnExactAheadOf", spec := "fnExactAheadOf", apart := false }
def FnExactAheadOfSaid : Prop := fnExactAheadOfRow.holds Try.pinned (OpenSpec.ofChange fnExactAheadOfSpec)

/-- ITS FALSE NEIGHBOUR: 'it returns false'. Refute it at one input. -/
def fnExactAheadOfWrong : ChangeSpec := { name := "fnExactAheadOf", fn := fun _ => fun
  | [d1, d2] => { results := [.lit (.bool false)], args := [d1, d2] }
  | _ => none }
def FnExactAheadOfWrongFalsely : Prop := fnExactAheadOfRow.holds Try.pinned (OpenSpec.ofChange fnExactAheadOfWrong)

/-- 'laws.FnExactSteerOf': WHATEVER THE INPUT: true; the input reads as it did. -/
def fnExactSteerOfSpec : ChangeSpec := { name := "fnExactSteerOf", fn := fun _ => fun
  | [d] => { results := [.lit (.bool true)], args := [d] }
  | _ => none }
def fnExactSteerOfRow : OpenClaim := { program := "ytekfpclkdijleaa", sum := "461a3b48a66242c379c798c0590639244b045f674f4eba3ae9da34522cf6bc12", func := "loop.example/g00953/laws.FnExactSteerOf", spec := "fnExactSteerOf", unfollowed := true, recurses := true, apart := false }
def FnExactSteerOfSaid : Prop := fnExactSteerOfRow.holds Try.pinned (OpenSpec.ofChange fnExactSteerOfSpec)

/-- ITS FALSE NEIGHBOUR: 'it returns false'. Refute it at one input. -/
def fnExactSteerOfWrong : ChangeSpec := { name := "fnExactSteerOf", fn := fun _ => fun
  | [d] => { results := [.lit (.bool false)], args := [d] }
  | _ => none }
def FnExactSteerOfWrongFalsely : Prop := fnExactSteerOfRow.holds Try.pinned (OpenSpec.ofChange fnExactSteerOfWrong)

/-- 'laws.FnExactOpenOf': WHATEVER THE INPUT: true; the input reads as it did. -/
def fnExactOpenOfSpec : ChangeSpec := { name := "fnExactOpenOf", fn := fun _ => fun
  | [d1, d2] => { results := [.lit (.bool true)], args := [d1, d2] }
  | _ => none }
def fnExactOpenOfRow : OpenClaim := { program := "ytekfpclkdijleaa", sum := "461a3b48a66242c379c798c0590639244b045f674f4eba3ae9da34522cf6bc12", func := "loop.example/g00953/laws.FnExactOpenOf", spec := "fnExactOpenOf", apart := false }
def FnExactOpenOfSaid : Prop := fnExactOpenOfRow.holds Try.pinned (OpenSpec.ofChange fnExactOpenOfSpec)

/-- ITS FALSE NEIGHBOUR: 'it returns false'. Refute it at one input. -/
def fnExactOpenOfWrong : ChangeSpec := { name := "fnExactOpenOf", fn := fun _ => fun
  | [d1, d2] => { results := [.lit (.bool false)], args := [d1, d2] }
  | _ => none }
def FnExactOpenOfWrongFalsely : Prop := fnExactOpenOfRow.holds Try.pinned (OpenSpec.ofChange fnExactOpenOfWrong)

/-- 'laws.FnExactInLine': WHATEVER THE INPUT: true; the input reads as it did. -/
def fnExactInLineSpec : ChangeSpec := { name := "fnExactInLine", fn := fun _ => fun
  | [d1, d2, d3] => { results := [.lit (.bool true)], args := [d1, d2, d3] }
  | _ => none }
def fnExactInLineRow : OpenClaim := { program := "ytekfpclkdijleaa", sum := "461a3b48a66242c379c798c0590639244b045f674f4eba3ae9da34522cf6bc12", func := "loop.example/g00953/laws.FnExactInLine", spec := "fnExactInLine", apart := false }
def FnExactInLineSaid : Prop := fnExactInLineRow.holds Try.pinned (OpenSpec.ofChange fnExactInLineSpec)

/-- ITS FALSE NEIGHBOUR: 'it returns false'. Refute it at one input. -/
def fnExactInLineWrong : ChangeSpec := { name := "fnExactInLine", fn := fun _ => fun
  | [d1, d2, d3] => { results := [.lit (.bool false)], args := [d1, d2, d3] }
  | _ => none }
def FnExactInLineWrongFalsely : Prop := fnExactInLineRow.holds Try.pinned (OpenSpec.ofChange fnExactInLineWrong)

/-- 'laws.FnExactRearAbove': WHATEVER THE INPUT: true; the input reads as it did. -/
def fnExactRearAboveSpec : ChangeSpec := { name := "fnExactRearAbove", fn := fun _ => fun
  | [d1, d2, d3] => { results := [.lit (.bool true)], args := [d1, d2, d3] }
  | _ => none }
def fnExactRearAboveRow : OpenClaim := { program := "ytekfpclkdijleaa", sum := "461a3b48a66242c379c798c0590639244b045f674f4eba3ae9da34522cf6bc12", func := "loop.example/g00953/laws.FnExactRearAbove", spec := "fnExactRearAbove", apart := false }
def FnExactRearAboveSaid : Prop := fnExactRearAboveRow.holds Try.pinned (OpenSpec.ofChange fnExactRearAboveSpec)

/-- ITS FALSE NEIGHBOUR: 'it returns false'. Refute it at one input. -/
def fnExactRearAboveWrong : ChangeSpec := { name := "fnExactRearAbove", fn := fun _ => fun
  | [d1, d2, d3] => { results := [.lit (.bool false)], args := [d1, d2, d3] }
  | _ => none }
def FnExactRearAboveWrongFalsely : Prop := fnExactRearAboveRow.holds Try.pinned (OpenSpec.ofChange fnExactRearAboveWrong)

/-- 'laws.FnExactDesignLeading': WHATEVER THE INPUT: true; the input reads as it did. -/
def fnExactDesignLeadingSpec : ChangeSpec := { name := "fnExactDesignLeading", fn := fun _ => fun
  | [d1, d2, d3, d4, d5] => { results := [.lit (.bool true)], args := [d1, d2, d3, d4, d5] }
  | _ => none }
def fnExactDesignLeadingRow : OpenClaim := { program := "ytekfpclkdijleaa", sum := "461a3b48a66242c379c798c0590639244b045f674f4eba3ae9da34522cf6bc12", func := "loop.example/g00953/laws.FnExactDesignLeading", spec := "fnExactDesignLeading", recurses := true, apart := false }
def FnExactDesignLeadingSaid : Prop := fnExactDesignLeadingRow.holds Try.pinned (OpenSpec.ofChange fnExactDesignLeadingSpec)

/-- ITS FALSE NEIGHBOUR: 'it returns false'. Refute it at one input. -/
def fnExactDesignLeadingWrong : ChangeSpec := { name := "fnExactDesignLeading", fn := fun _ => fun
  | [d1, d2, d3, d4, d5] => { results := [.lit (.bool false)], args := [d1, d2, d3, d4, d5] }
  | _ => none }
def FnExactDesignLeadingWrongFalsely : Prop := fnExactDesignLeadingRow.holds Try.pinned (OpenSpec.ofChange fnExactDesignLeadingWrong)

/-- 'laws.FnExactLeastRear': WHATEVER THE INPUT: true; the input reads as it did. -/
def fnExactLeastRearSpec : ChangeSpec := { name := "fnExactLeastRear", fn := fun _ => fun
  | [d1, d2, d3] => { results := [.lit (.bool true)], args := [d1, d2, d3] }
  | _ => none }
def fnExactLeastRearRow : OpenClaim := { program := "ytekfpclkdijleaa", sum := "461a3b48a66242c379c798c0590639244b045f674f4eba3ae9da34522cf6bc12", func := "loop.example/g00953/laws.FnExactLeastRear", spec := "fnExactLeastRear", apart := false }
def FnExactLeastRearSaid : Prop := fnExactLeastRearRow.holds Try.pinned (OpenSpec.ofChange fnExactLeastRearSpec)

/-- ITS FALSE NEIGHBOUR: 'it returns false'. Refute it at one input. -/
def fnExactLeastRearWrong : ChangeSpec := { name := "fnExactLeastRear", fn := fun _ => fun
  | [d1, d2, d3] => { results := [.lit (.bool false)], args := [d1, d2, d3] }
  | _ => none }
def FnExactLeastRearWrongFalsely : Prop := fnExactLeastRearRow.holds Try.pinned (OpenSpec.ofChange fnExactLeastRearWrong)

/- THE SECOND FORM. 'bulk': how many values and letters a reading holds, each counted each time it is reached (what is shared counts as often as it is met; a slice's spare places count too). A statement '..UptoSaid' is the law's where the arguments, and the package variables that the reading takes, are together of bulk at most 1048576: NARROWER than '..Said'. Prove '..Said' where nothing that the law and all that it calls make is longer than what came in: it says more and counts as full. Else prove '..UptoSaid'. A law counts once. -/
mutual
def uptoBulk {H : Type} : DataW H → Nat
  | .lit (.string bytes) => bytes.length + 1
  | .lit _ => 1
  | .nil => 1
  | .ptr d => uptoBulk d + 1
  | .slice elems spare => uptoBulkAll elems + uptoBulkAll spare + 1
  | .agg parts => uptoBulkAll parts + 1
  | .iface _ d => uptoBulk d + 1
  | .map entries => uptoBulkEntries entries + 1
  | .held _ => 1
def uptoBulkAll {H : Type} : List (DataW H) → Nat
  | [] => 0
  | d :: r => uptoBulk d + uptoBulkAll r
def uptoBulkEntries {H : Type} : List (Lit × DataW H) → Nat
  | [] => 0
  | x :: r => uptoBulkEntry x + uptoBulkEntries r
def uptoBulkEntry {H : Type} : Lit × DataW H → Nat
  | (.string bytes, d) => bytes.length + uptoBulk d + 1
  | (_, d) => uptoBulk d + 1
 end
def uptoSmall : (H : Type) → List (DataW H) → Bool := fun _ ds => decide (uptoBulkAll ds ≤ 1048576)
def OpenSpec.upto (s : _root_.Go.ChangeSpec) : _root_.Go.OpenSpec := { _root_.Go.OpenSpec.ofChange s with cond := some uptoSmall }

/-- 'laws.FnLeading', WHERE WHAT IT READS IS OF BULK AT MOST 1048576: true; the input reads as it did. -/
def fnLeadingUptoRow : OpenClaim := { program := "ytekfpclkdijleaa", sum := "461a3b48a66242c379c798c0590639244b045f674f4eba3ae9da34522cf6bc12", func := "loop.example/g00953/laws.FnLeading", spec := "fnLeading", apart := false, narrowed := true }
def FnLeadingUptoSaid : Prop := fnLeadingUptoRow.holds Try.pinned (OpenSpec.upto fnLeadingSpec)

/-- 'laws.FnExactValidLeading', WHERE WHAT IT READS IS OF BULK AT MOST 1048576: true; the input reads as it did. -/
def fnExactValidLeadingUptoRow : OpenClaim := { program := "ytekfpclkdijleaa", sum := "461a3b48a66242c379c798c0590639244b045f674f4eba3ae9da34522cf6bc12", func := "loop.example/g00953/laws.FnExactValidLeading", spec := "fnExactValidLeading", apart := false, narrowed := true }
def FnExactValidLeadingUptoSaid : Prop := fnExactValidLeadingUptoRow.holds Try.pinned (OpenSpec.upto fnExactValidLeadingSpec)

/-- 'laws.FnExactOffLine', WHERE WHAT IT READS IS OF BULK AT MOST 1048576: true; the input reads as it did. -/
def fnExactOffLineUptoRow : OpenClaim := { program := "ytekfpclkdijleaa", sum := "461a3b48a66242c379c798c0590639244b045f674f4eba3ae9da34522cf6bc12", func := "loop.example/g00953/laws.FnExactOffLine", spec := "fnExactOffLine", apart := false, narrowed := true }
def FnExactOffLineUptoSaid : Prop := fnExactOffLineUptoRow.holds Try.pinned (OpenSpec.upto fnExactOffLineSpec)

/-- 'laws.FnExactBandAt', WHERE WHAT IT READS IS OF BULK AT MOST 1048576: true; the input reads as it did. -/
def fnExactBandAtUptoRow : OpenClaim := { program := "ytekfpclkdijleaa", sum := "461a3b48a66242c379c798c0590639244b045f674f4eba3ae9da34522cf6bc12", func := "loop.example/g00953/laws.FnExactBandAt", spec := "fnExactBandAt", apart := false, narrowed := true }
def FnExactBandAtUptoSaid : Prop := fnExactBandAtUptoRow.holds Try.pinned (OpenSpec.upto fnExactBandAtSpec)

/-- 'laws.FnExactAheadOf', WHERE WHAT IT READS IS OF BULK AT MOST 1048576: true; the input reads as it did. -/
def fnExactAheadOfUptoRow : OpenClaim := { program := "ytekfpclkdijleaa", sum := "461a3b48a66242c379c798c0590639244b045f674f4eba3ae9da34522cf6bc12", func := "loop.example/g00953/laws.FnExactAheadOf", spec := "fnExactAheadOf", apart := false, narrowed := true }
def FnExactAheadOfUptoSaid : Prop := fnExactAheadOfUptoRow.holds Try.pinned (OpenSpec.upto fnExactAheadOfSpec)

/-- 'laws.FnExactSteerOf', WHERE WHAT IT READS IS OF BULK AT MOST 1048576: true; the input reads as it did. -/
def fnExactSteerOfUptoRow : OpenClaim := { program := "ytekfpclkdijleaa", sum := "461a3b48a66242c379c798c0590639244b045f674f4eba3ae9da34522cf6bc12", func := "loop.example/g00953/laws.FnExactSteerOf", spec := "fnExactSteerOf", unfollowed := true, recurses := true, apart := false, narrowed := true }
def FnExactSteerOfUptoSaid : Prop := fnExactSteerOfUptoRow.holds Try.pinned (OpenSpec.upto fnExactSteerOfSpec)

/-- 'laws.FnExactOpenOf', WHERE WHAT IT READS IS OF BULK AT MOST 1048576: true; the input reads as it did. -/
def fnExactOpenOfUptoRow : OpenClaim := { program := "ytekfpclkdijleaa", sum := "461a3b48a66242c379c798c0590639244b045f674f4eba3ae9da34522cf6bc12", func := "loop.example/g00953/laws.FnExactOpenOf", spec := "fnExactOpenOf", apart := false, narrowed := true }
def FnExactOpenOfUptoSaid : Prop := fnExactOpenOfUptoRow.holds Try.pinned (OpenSpec.upto fnExactOpenOfSpec)

/-- 'laws.FnExactInLine', WHERE WHAT IT READS IS OF BULK AT MOST 1048576: true; the input reads as it did. -/
def fnExactInLineUptoRow : OpenClaim := { program := "ytekfpclkdijleaa", sum := "461a3b48a66242c379c798c0590639244b045f674f4eba3ae9da34522cf6bc12", func := "loop.example/g00953/laws.FnExactInLine", spec := "fnExactInLine", apart := false, narrowed := true }
def FnExactInLineUptoSaid : Prop := fnExactInLineUptoRow.holds Try.pinned (OpenSpec.upto fnExactInLineSpec)

/-- 'laws.FnExactRearAbove', WHERE WHAT IT READS IS OF BULK AT MOST 1048576: true; the input reads as it did. -/
def fnExactRearAboveUptoRow : OpenClaim := { program := "ytekfpclkdijleaa", sum := "461a3b48a66242c379c798c0590639244b045f674f4eba3ae9da34522cf6bc12", func := "loop.example/g00953/laws.FnExactRearAbove", spec := "fnExactRearAbove", apart := false, narrowed := true }
def FnExactRearAboveUptoSaid : Prop := fnExactRearAboveUptoRow.holds Try.pinned (OpenSpec.upto fnExactRearAboveSpec)

/-- 'laws.FnExactDesignLeading', WHERE WHAT IT READS IS OF BULK AT MOST 1048576: true; the input reads as it did. -/
def fnExactDesignLeadingUptoRow : OpenClaim := { program := "ytekfpclkdijleaa", sum := "461a3b48a66242c379c798c0590639244b045f674f4eba3ae9da34522cf6bc12", func := "loop.example/g00953/laws.FnExactDesignLeading", spec := "fnExactDesignLeading", recurses := true, apart := false, narrowed := true }
def FnExactDesignLeadingUptoSaid : Prop := fnExactDesignLeadingUptoRow.holds Try.pinned (OpenSpec.upto fnExactDesignLeadingSpec)

/-- 'laws.FnExactLeastRear', WHERE WHAT IT READS IS OF BULK AT MOST 1048576: true; the input reads as it did. -/
def fnExactLeastRearUptoRow : OpenClaim := { program := "ytekfpclkdijleaa", sum := "461a3b48a66242c379c798c0590639244b045f674f4eba3ae9da34522cf6bc12", func := "loop.example/g00953/laws.FnExactLeastRear", spec := "fnExactLeastRear", apart := false, narrowed := true }
def FnExactLeastRearUptoSaid : Prop := fnExactLeastRearUptoRow.holds Try.pinned (OpenSpec.upto fnExactLeastRearSpec)

end Rows
end Go.Proofs.Ytekfpclkdijleaa
