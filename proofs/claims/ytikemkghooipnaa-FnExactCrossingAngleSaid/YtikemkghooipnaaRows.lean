/-
  No cell of these rows narrows 'for every input' (looked for: loops, veiled, ifaces, maps, wideKeys, modest, calm, conditions, laid).
  DERIVED. THE GIVEN ROWS OF THIS SEAT. 6 by the template 'for every input the law returns true; each argument reads behind the call as it read before'; 0 by the template 'total and deterministic' (their statements: YtikemkghooipnaaTotals.lean).
  GIVEN WITH THE SEED: the statements are not yours to turn. If you find one false, say at which input.
  Laid BY PROGRAM, IN A SANDBOX (cutbox-rows.mjs): the forced cells as the released guide's own fill.sh prints them over the translation 0a74d8ac4db61522… (all of the seat's roots in one cut). By AI agents, Wed Nov 11 2026. No macro, syntax, notation, axiom, sorry.
-/
import Derived.Test.YtikemkghooipnaaChecked
import GoSem.Claim
import GoSem.ClaimJoined
import GoSem.ClaimMapViews
import Derived.JoinedTies
import Derived.KernelRfl
namespace Go.Proofs.Ytikemkghooipnaa
/- THE CELL 'sum', in the pinned program and in every row, IS THE sha256 OF THE DUMP (.gsa) THAT YtikemkghooipnaaProg.lean LOADS. Nothing in Lean hashes anything: it is a label: what it is worth is what the hold of that sum in a sandbox is worth. -/
noncomputable def Try.pinned : Pinned := { name := "ytikemkghooipnaa", sum := "0a74d8ac4db615226c89a2579dad29c4e5940a036f1fd9f97136587b5ed6fda2", checked := Try.checked }
namespace Rows
def none {H : Type} : Left H := { results := [], args := [] }

/-- 'laws.FnExactFaultName': WHATEVER THE INPUT: true; the input reads as it did. -/
def fnExactFaultNameSpec : ChangeSpec := { name := "fnExactFaultName", fn := fun _ => fun
  | [d] => { results := [.lit (.bool true)], args := [d] }
  | _ => none }
def fnExactFaultNameRow : OpenClaim := { program := "ytikemkghooipnaa", sum := "0a74d8ac4db615226c89a2579dad29c4e5940a036f1fd9f97136587b5ed6fda2", func := "loop.example/g00953/laws.FnExactFaultName", spec := "fnExactFaultName", apart := false }
def FnExactFaultNameSaid : Prop := fnExactFaultNameRow.holds Try.pinned (OpenSpec.ofChange fnExactFaultNameSpec)

/-- ITS FALSE NEIGHBOUR: 'it returns false'. Refute it at one input. -/
def fnExactFaultNameWrong : ChangeSpec := { name := "fnExactFaultName", fn := fun _ => fun
  | [d] => { results := [.lit (.bool false)], args := [d] }
  | _ => none }
def FnExactFaultNameWrongFalsely : Prop := fnExactFaultNameRow.holds Try.pinned (OpenSpec.ofChange fnExactFaultNameWrong)

/-- 'laws.FnExactNoticeName': WHATEVER THE INPUT: true; the input reads as it did. -/
def fnExactNoticeNameSpec : ChangeSpec := { name := "fnExactNoticeName", fn := fun _ => fun
  | [d] => { results := [.lit (.bool true)], args := [d] }
  | _ => none }
def fnExactNoticeNameRow : OpenClaim := { program := "ytikemkghooipnaa", sum := "0a74d8ac4db615226c89a2579dad29c4e5940a036f1fd9f97136587b5ed6fda2", func := "loop.example/g00953/laws.FnExactNoticeName", spec := "fnExactNoticeName", apart := false }
def FnExactNoticeNameSaid : Prop := fnExactNoticeNameRow.holds Try.pinned (OpenSpec.ofChange fnExactNoticeNameSpec)

/-- ITS FALSE NEIGHBOUR: 'it returns false'. Refute it at one input. -/
def fnExactNoticeNameWrong : ChangeSpec := { name := "fnExactNoticeName", fn := fun _ => fun
  | [d] => { results := [.lit (.bool false)], args := [d] }
  | _ => none }
def FnExactNoticeNameWrongFalsely : Prop := fnExactNoticeNameRow.holds Try.pinned (OpenSpec.ofChange fnExactNoticeNameWrong)

/-- 'laws.FnExactValidStation': WHATEVER THE INPUT: true; the input reads as it did. -/
def fnExactValidStationSpec : ChangeSpec := { name := "fnExactValidStation", fn := fun _ => fun
  | [d] => { results := [.lit (.bool true)], args := [d] }
  | _ => none }
def fnExactValidStationRow : OpenClaim := { program := "ytikemkghooipnaa", sum := "0a74d8ac4db615226c89a2579dad29c4e5940a036f1fd9f97136587b5ed6fda2", func := "loop.example/g00953/laws.FnExactValidStation", spec := "fnExactValidStation", apart := false }
def FnExactValidStationSaid : Prop := fnExactValidStationRow.holds Try.pinned (OpenSpec.ofChange fnExactValidStationSpec)

/-- ITS FALSE NEIGHBOUR: 'it returns false'. Refute it at one input. -/
def fnExactValidStationWrong : ChangeSpec := { name := "fnExactValidStation", fn := fun _ => fun
  | [d] => { results := [.lit (.bool false)], args := [d] }
  | _ => none }
def FnExactValidStationWrongFalsely : Prop := fnExactValidStationRow.holds Try.pinned (OpenSpec.ofChange fnExactValidStationWrong)

/-- 'laws.FnExactCategoryNeed': WHATEVER THE INPUT: true; the input reads as it did. -/
def fnExactCategoryNeedSpec : ChangeSpec := { name := "fnExactCategoryNeed", fn := fun _ => fun
  | [d] => { results := [.lit (.bool true)], args := [d] }
  | _ => none }
def fnExactCategoryNeedRow : OpenClaim := { program := "ytikemkghooipnaa", sum := "0a74d8ac4db615226c89a2579dad29c4e5940a036f1fd9f97136587b5ed6fda2", func := "loop.example/g00953/laws.FnExactCategoryNeed", spec := "fnExactCategoryNeed", apart := false }
def FnExactCategoryNeedSaid : Prop := fnExactCategoryNeedRow.holds Try.pinned (OpenSpec.ofChange fnExactCategoryNeedSpec)

/-- ITS FALSE NEIGHBOUR: 'it returns false'. Refute it at one input. -/
def fnExactCategoryNeedWrong : ChangeSpec := { name := "fnExactCategoryNeed", fn := fun _ => fun
  | [d] => { results := [.lit (.bool false)], args := [d] }
  | _ => none }
def FnExactCategoryNeedWrongFalsely : Prop := fnExactCategoryNeedRow.holds Try.pinned (OpenSpec.ofChange fnExactCategoryNeedWrong)

/-- 'laws.FnExactPriorityName': WHATEVER THE INPUT: true; the input reads as it did. -/
def fnExactPriorityNameSpec : ChangeSpec := { name := "fnExactPriorityName", fn := fun _ => fun
  | [d] => { results := [.lit (.bool true)], args := [d] }
  | _ => none }
def fnExactPriorityNameRow : OpenClaim := { program := "ytikemkghooipnaa", sum := "0a74d8ac4db615226c89a2579dad29c4e5940a036f1fd9f97136587b5ed6fda2", func := "loop.example/g00953/laws.FnExactPriorityName", spec := "fnExactPriorityName", apart := false }
def FnExactPriorityNameSaid : Prop := fnExactPriorityNameRow.holds Try.pinned (OpenSpec.ofChange fnExactPriorityNameSpec)

/-- ITS FALSE NEIGHBOUR: 'it returns false'. Refute it at one input. -/
def fnExactPriorityNameWrong : ChangeSpec := { name := "fnExactPriorityName", fn := fun _ => fun
  | [d] => { results := [.lit (.bool false)], args := [d] }
  | _ => none }
def FnExactPriorityNameWrongFalsely : Prop := fnExactPriorityNameRow.holds Try.pinned (OpenSpec.ofChange fnExactPriorityNameWrong)

/-- 'laws.FnExactCrossingAngle': WHATEVER THE INPUT: true; the input reads as it did. -/
def fnExactCrossingAngleSpec : ChangeSpec := { name := "fnExactCrossingAngle", fn := fun _ => fun
  | [d1, d2] => { results := [.lit (.bool true)], args := [d1, d2] }
  | _ => none }
def fnExactCrossingAngleRow : OpenClaim := { program := "ytikemkghooipnaa", sum := "0a74d8ac4db615226c89a2579dad29c4e5940a036f1fd9f97136587b5ed6fda2", func := "loop.example/g00953/laws.FnExactCrossingAngle", spec := "fnExactCrossingAngle", apart := false }
def FnExactCrossingAngleSaid : Prop := fnExactCrossingAngleRow.holds Try.pinned (OpenSpec.ofChange fnExactCrossingAngleSpec)

/-- ITS FALSE NEIGHBOUR: 'it returns false'. Refute it at one input. -/
def fnExactCrossingAngleWrong : ChangeSpec := { name := "fnExactCrossingAngle", fn := fun _ => fun
  | [d1, d2] => { results := [.lit (.bool false)], args := [d1, d2] }
  | _ => none }
def FnExactCrossingAngleWrongFalsely : Prop := fnExactCrossingAngleRow.holds Try.pinned (OpenSpec.ofChange fnExactCrossingAngleWrong)

/- THE SECOND FORM. 'bulk': how many values and letters a reading holds, each counted each time it is reached (what is shared counts as often as it is met; a slice's spare places count too). A statement '..UptoSaid' is the law's where the arguments, and the package variables that the reading takes, are together of bulk at most 1048576: NARROWER than '..Said'. Prove '..Said' where nothing that the law and all that it calls make is longer than what came in: it says more and counts as full. Else prove '..UptoSaid'. A law counts once. -/
mutual
def uptoBulk {H : Type} : DataW H → Nat
  | .lit (.string bytes) => bytes.length + 1
  | .lit _ => 1
  | .nil => 1
  | .ptr d => uptoBulk d + 1
  | .slice elems spare => uptoBulkAll elems + uptoBulkAll spare + 1
  | .agg parts => uptoBulkAll parts + 1
  | .iface _ d => uptoBulk d + 1
  | .map entries => uptoBulkEntries entries + 1
  | .held _ => 1
def uptoBulkAll {H : Type} : List (DataW H) → Nat
  | [] => 0
  | d :: r => uptoBulk d + uptoBulkAll r
def uptoBulkEntries {H : Type} : List (Lit × DataW H) → Nat
  | [] => 0
  | x :: r => uptoBulkEntry x + uptoBulkEntries r
def uptoBulkEntry {H : Type} : Lit × DataW H → Nat
  | (.string bytes, d) => bytes.length + uptoBulk d + 1
  | (_, d) => uptoBulk d + 1
 end
def uptoSmall : (H : Type) → List (DataW H) → Bool := fun _ ds => decide (uptoBulkAll ds ≤ 1048576)
def OpenSpec.upto (s : _root_.Go.ChangeSpec) : _root_.Go.OpenSpec := { _root_.Go.OpenSpec.ofChange s with cond := some uptoSmall }

/-- 'laws.FnExactFaultName', WHERE WHAT IT READS IS OF BULK AT MOST 1048576: true; the input reads as it did. -/
def fnExactFaultNameUptoRow : OpenClaim := { program := "ytikemkghooipnaa", sum := "0a74d8ac4db615226c89a2579dad29c4e5940a036f1fd9f97136587b5ed6fda2", func := "loop.example/g00953/laws.FnExactFaultName", spec := "fnExactFaultName", apart := false, narrowed := true }
def FnExactFaultNameUptoSaid : Prop := fnExactFaultNameUptoRow.holds Try.pinned (OpenSpec.upto fnExactFaultNameSpec)

/-- 'laws.FnExactNoticeName', WHERE WHAT IT READS IS OF BULK AT MOST 1048576: true; the input reads as it did. -/
def fnExactNoticeNameUptoRow : OpenClaim := { program := "ytikemkghooipnaa", sum := "0a74d8ac4db615226c89a2579dad29c4e5940a036f1fd9f97136587b5ed6fda2", func := "loop.example/g00953/laws.FnExactNoticeName", spec := "fnExactNoticeName", apart := false, narrowed := true }
def FnExactNoticeNameUptoSaid : Prop := fnExactNoticeNameUptoRow.holds Try.pinned (OpenSpec.upto fnExactNoticeNameSpec)

/-- 'laws.FnExactValidStation', WHERE WHAT IT READS IS OF BULK AT MOST 1048576: true; the input reads as it did. -/
def fnExactValidStationUptoRow : OpenClaim := { program := "ytikemkghooipnaa", sum := "0a74d8ac4db615226c89a2579dad29c4e5940a036f1fd9f97136587b5ed6fda2", func := "loop.example/g00953/laws.FnExactValidStation", spec := "fnExactValidStation", apart := false, narrowed := true }
def FnExactValidStationUptoSaid : Prop := fnExactValidStationUptoRow.holds Try.pinned (OpenSpec.upto fnExactValidStationSpec)

/-- 'laws.FnExactCategoryNeed', WHERE WHAT IT READS IS OF BULK AT MOST 1048576: true; the input reads as it did. -/
def fnExactCategoryNeedUptoRow : OpenClaim := { program := "ytikemkghooipnaa", sum := "0a74d8ac4db615226c89a2579dad29c4e5940a036f1fd9f97136587b5ed6fda2", func := "loop.example/g00953/laws.FnExactCategoryNeed", spec := "fnExactCategoryNeed", apart := false, narrowed := true }
def FnExactCategoryNeedUptoSaid : Prop := fnExactCategoryNeedUptoRow.holds Try.pinned (OpenSpec.upto fnExactCategoryNeedSpec)

/-- 'laws.FnExactPriorityName', WHERE WHAT IT READS IS OF BULK AT MOST 1048576: true; the input reads as it did. -/
def fnExactPriorityNameUptoRow : OpenClaim := { program := "ytikemkghooipnaa", sum := "0a74d8ac4db615226c89a2579dad29c4e5940a036f1fd9f97136587b5ed6fda2", func := "loop.example/g00953/laws.FnExactPriorityName", spec := "fnExactPriorityName", apart := false, narrowed := true }
def FnExactPriorityNameUptoSaid : Prop := fnExactPriorityNameUptoRow.holds Try.pinned (OpenSpec.upto fnExactPriorityNameSpec)

/-- 'laws.FnExactCrossingAngle', WHERE WHAT IT READS IS OF BULK AT MOST 1048576: true; the input reads as it did. -/
def fnExactCrossingAngleUptoRow : OpenClaim := { program := "ytikemkghooipnaa", sum := "0a74d8ac4db615226c89a2579dad29c4e5940a036f1fd9f97136587b5ed6fda2", func := "loop.example/g00953/laws.FnExactCrossingAngle", spec := "fnExactCrossingAngle", apart := false, narrowed := true }
def FnExactCrossingAngleUptoSaid : Prop := fnExactCrossingAngleUptoRow.holds Try.pinned (OpenSpec.upto fnExactCrossingAngleSpec)

end Rows
end Go.Proofs.Ytikemkghooipnaa
