import Derived.Test.YtmedpledgchipaaGreatDoorEx5
import Derived.Test.YtmedpledgchipaaGreatDoorHa2
import Derived.Lib.OthersKept
set_option linter.unusedSectionVars false
set_option linter.unusedVariables false
set_option linter.unusedSimpArgs false
set_option linter.unnecessarySimpa false
namespace Go.Av
open Go Go.RowKit
section
variable {g : Gh} {tm : List AV} {hp : Heap} {a : Array Value} {w : World}
end
section
variable {P : Program} {nb : Nat} {R : Rt} {k : List Item} {tm : List AV} {hp : Heap}
end
end Go.Av

