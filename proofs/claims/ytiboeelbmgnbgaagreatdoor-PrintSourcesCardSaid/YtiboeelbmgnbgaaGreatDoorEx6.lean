import Derived.Test.YtiboeelbmgnbgaaGreatDoorEx5
import Derived.Test.YtiboeelbmgnbgaaGreatDoorAv5
set_option linter.unusedSectionVars false
set_option linter.unusedVariables false
set_option linter.unusedSimpArgs false
set_option linter.unnecessarySimpa false
namespace Go.Av
open Go
section
variable [Lay] {P : Program} {nb : Nat} {R : Rt} {k1 k2 k : List Item} {tm : List AV} {hp hp' : Heap}
end
end Go.Av

