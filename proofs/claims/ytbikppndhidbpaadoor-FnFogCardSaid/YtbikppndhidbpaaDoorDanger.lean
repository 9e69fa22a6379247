/-
  Contracts of dangers: what makes one valid, the copy that the laws make, its length: the program's and the reference's. Each under the conditions that it states.
-/
import Derived.Test.YtbikppndhidbpaaDoorText1
set_option linter.unusedVariables false
set_option maxRecDepth 100000
set_option linter.unusedSimpArgs false
namespace Go.Proofs.YtbikppndhidbpaaDoor
open Go.RowKit BigFrame

def vDanger (s : ByteArray) (x y r : Int) : Bool := nameM s && (vPoint x y && inB r 1 20000)

end Go.Proofs.YtbikppndhidbpaaDoor
