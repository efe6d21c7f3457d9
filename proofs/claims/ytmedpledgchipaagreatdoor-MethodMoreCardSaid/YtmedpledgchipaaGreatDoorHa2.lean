import Derived.Test.YtmedpledgchipaaGreatDoorHa1
import Derived.Lib.UnsafeStr
import Derived.Shelf.Strings.Builder1
import Derived.Test.YtmedpledgchipaaGreatDoorEx4
set_option linter.unusedSectionVars false
set_option linter.unusedVariables false
set_option linter.unusedSimpArgs false
set_option linter.unnecessarySimpa false
namespace Go.Av
open Go Go.RowKit
section
variable [Lay] {P : Program} {f : FuncId} {fn : Func}
theorem Rel.slotsTo {g : Gh} {tm : List AV} {hp : Heap} {a : Array Value} {w : World} (h : Rel g tm hp a w) {r : AV} {v : Value} (hv : VR g r v) (hm : Meek r) : Rel g [r] hp #[v] w := by
 refine ⟨by simp, fun t => ?_, h.heap, h.locs, h.imms, h.owns, h.fzs⟩
 cases t with
 | zero => exact ⟨hv, Tail.meek hm⟩
 | succ t => exact ⟨.any _, Tail.meek (by intro l; simp [lget])⟩
end
end Go.Av

namespace Go.Av
open Go Go.RowKit
section
variable {g : Gh} {tm : List AV} {hp : Heap} {a : Array Value} {w : World}
end
end Go.Av

namespace Go.Proofs
open Go.RowKit Go.Shelf
section
variable {P : Program} {ρ : Ren}
end
end Go.Proofs

namespace Go.Av
open Go Go.RowKit Go.Proofs Go.Shelf
section
variable {g : Gh} {tm : List AV} {hp : Heap} {a : Array Value} {w : World}
end
section
variable [Lay] {P : Program} {ρ : Ren}
end
end Go.Av

