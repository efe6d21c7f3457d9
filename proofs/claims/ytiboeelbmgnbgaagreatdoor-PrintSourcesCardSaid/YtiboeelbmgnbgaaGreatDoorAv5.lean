import Derived.Test.YtiboeelbmgnbgaaGreatDoorAv4
set_option linter.unusedSectionVars false
set_option linter.unusedVariables false
set_option linter.unusedSimpArgs false
set_option linter.unnecessarySimpa false
namespace Go.Av
open Go
variable [Lay]
section
variable {P : Program} {nb : Nat} {all : List Oper} {o : Oper}
end
end Go.Av

namespace Go.Av
open Go
variable [Lay]
section
variable {P : Program} {nb : Nat} {R : Rt} {k : List Item} {ops : Array Oper}
end
end Go.Av

namespace Go.Av
open Go
variable [Lay]
section
variable {P : Program} {nb : Nat} {R : Rt} {k : List Item} {tm : List AV} {hp : Heap}
end
end Go.Av

