/-
  LeadingText: the program's function returns what the reference's returns, for all arguments. Under no condition; the library's table of powers of ten reads as its text lays it (the card ties it).
-/
import Derived.Test.YthjkkidcpidgdaaGreatDoorTexts
import Derived.Test.YthjkkidcpidgdaaGreatDoorTie
import Derived.Test.YthjkkidcpidgdaaGreatDoorCards
import Derived.LaidMore
import Derived.Lay
import Derived.SevenTiedAt
import Derived.Stop.LaidErr
import Derived.MakeChecks
set_option linter.unusedVariables false
set_option linter.unnecessarySimpa false
set_option maxRecDepth 100000
set_option linter.unusedSimpArgs false
namespace Go.Proofs.YthjkkidcpidgdaaGreatDoor
open Go.RowKit BigFrame

def leadT (x1 y1 x2 y2 lo hi : Int) : ByteArray := ptT x1 y1 ++ ⟨#[32]⟩ ++ ptT x2 y2 ++ ⟨#[32]⟩ ++ decT lo ++ ⟨#[32]⟩ ++ decT hi
def leadX (x1 y1 x2 y2 lo hi : Int) : ByteArray := if vLead x1 y1 x2 y2 lo hi then leadT x1 y1 x2 y2 lo hi else ⟨#[]⟩
end Go.Proofs.YthjkkidcpidgdaaGreatDoor
