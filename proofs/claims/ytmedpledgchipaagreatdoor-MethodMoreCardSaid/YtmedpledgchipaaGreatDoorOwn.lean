import Derived.Test.YtmedpledgchipaaGreatDoorBu
import Derived.Test.YtmedpledgchipaaGreatDoorEx6
set_option linter.unusedSectionVars false
set_option linter.unusedVariables false
set_option linter.unusedSimpArgs false
set_option linter.unnecessarySimpa false
namespace Go.Av
open Go
section
variable [Lay] {P : Program} {f : FuncId} {fn : Func} {args : List AV}
end
end Go.Av
namespace Go.Av
open Go
variable [Lay]
end Go.Av

