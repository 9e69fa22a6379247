/-
  Plain words for the gates and the buoys of a channel, no program in sight. Under no condition.
-/
import Derived.Test.YthjkkidcpidgdaaGreatDoorGateP
import Derived.Test.YthjkkidcpidgdaaGreatDoorBuoy
set_option linter.unusedVariables false
set_option linter.unnecessarySimpa false
set_option maxRecDepth 100000
set_option linter.unusedSimpArgs false
namespace Go.Proofs.YthjkkidcpidgdaaGreatDoor
end Go.Proofs.YthjkkidcpidgdaaGreatDoor
