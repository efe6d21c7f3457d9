import Derived.Test.YtmedpledgchipaaGreatDoorBu
import Derived.Test.YtmedpledgchipaaGreatDoorHa7
import Derived.Sort.EncStr
import Derived.Lib.SlicesCompact
set_option linter.unusedSectionVars false
set_option linter.unusedVariables false
set_option linter.unusedSimpArgs false
set_option linter.unnecessarySimpa false
namespace Go.Av
open Go Go.RowKit Go.Proofs Go.Sort
section
variable [Lay] {P : Program} {f : FuncId} {fn : Func}
theorem lput_all (l m : List AV) (h : m.length = l.length) : lput l 0 m = m := by
 apply List.ext_getElem?
 intro j
 rw [lput_get]
 split
 ·simp
 ·rw [List.getElem?_eq_none (by omega), List.getElem?_eq_none (by omega)]
end
end Go.Av

