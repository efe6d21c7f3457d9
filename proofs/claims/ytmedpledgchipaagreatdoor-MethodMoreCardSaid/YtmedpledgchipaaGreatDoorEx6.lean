import Derived.Test.YtmedpledgchipaaGreatDoorEx5
import Derived.Test.YtmedpledgchipaaGreatDoorAv5
set_option linter.unusedSectionVars false
set_option linter.unusedVariables false
set_option linter.unusedSimpArgs false
set_option linter.unnecessarySimpa false
namespace Go.Av
open Go
section
variable [Lay] {P : Program} {nb : Nat} {R : Rt} {k1 k2 k : List Item} {tm : List AV} {hp hp' : Heap}
theorem range_opAt {ops : List Oper} : (List.range ops.length).map (opAt (List.toArray ops)) = ops := by
 apply List.ext_getElem?
 intro j
 by_cases hj : j < ops.length
 ·simp [List.getElem?_range hj, hj, opAt, Array.getD_eq_getD_getElem?]
 ·simp [hj]
end
end Go.Av

