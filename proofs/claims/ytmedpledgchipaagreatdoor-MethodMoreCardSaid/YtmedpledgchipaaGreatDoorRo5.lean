import Derived.Test.YtmedpledgchipaaGreatDoorRo3
import Derived.Test.YtmedpledgchipaaGreatDoorRo4
import Derived.LaidLaws
import Derived.Lib.LaidTab
set_option linter.unusedSectionVars false
set_option linter.unusedVariables false
set_option linter.unusedSimpArgs false
set_option linter.unnecessarySimpa false
namespace Go.Av
open Go Go.RowKit Go.WideShapes Go.ChangeShapes
end Go.Av

