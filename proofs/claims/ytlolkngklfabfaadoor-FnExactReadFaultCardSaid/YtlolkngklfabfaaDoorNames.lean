/-
  Contracts of the names: of faults, notices, priorities: the program's and the reference's. Under no condition: for every number.
-/
import Derived.Test.YtlolkngklfabfaaDoorBase
set_option linter.unusedVariables false
set_option maxRecDepth 100000
set_option linter.unusedSimpArgs false
namespace Go.Proofs.YtlolkngklfabfaaDoor
open Go.RowKit BigFrame

def faultNames : List ByteArray := [⟨#[]⟩, ⟨#[111, 117, 116]⟩, ⟨#[114, 104, 121, 116, 104, 109]⟩, ⟨#[112, 108, 97, 99, 101]⟩, ⟨#[115, 111, 117, 110, 100]⟩]
theorem impl_FaultName (n : Int) (w : World) :
    Calls Tryd.prog 58 #[.int .i64 n] w fun e w' => e = .returned (.string (pickS n faultNames)) ∧ Below w.heap.size w w' := by
  have hs := Sl.new w #[.string ⟨#[]⟩, .string ⟨#[111, 117, 116]⟩, .string ⟨#[114, 104, 121, 116, 104, 109]⟩, .string ⟨#[112, 108, 97, 99, 101]⟩, .string ⟨#[115, 111, 117, 110, 100]⟩] 9
  go_enter Tryd.func58, Tryd.ntmps58
  go_wp2_with fail
  refine (pick_any n faultNames _ _ _ _ hs (by decide)).mono ?_
  rintro e w' ⟨rfl, rfl⟩
  go_wp2_with fail
  go_ret
  exact ⟨ret_str rfl, by go_grown⟩

end Go.Proofs.YtlolkngklfabfaaDoor
