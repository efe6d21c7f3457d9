import Derived.Test.YtiboeelbmgnbgaaGreatDoorL8
import Derived.KernelRfl
set_option linter.unusedSectionVars false
set_option linter.unusedVariables false
set_option linter.unusedSimpArgs false
set_option linter.unnecessarySimpa false
set_option maxRecDepth 100000
namespace Go.Cq
open Go Go.Av
theorem sure16 : zFh = some true := by kernel_rfl
end Go.Cq

