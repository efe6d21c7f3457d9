import Derived.Shelf.Bits.Mul64
import Derived.Ground.NamesProg
import Derived.Test.YtmedpledgchipaaGreatDoorProg
set_option linter.unusedSectionVars false
set_option linter.unusedVariables false
set_option linter.unusedSimpArgs false
set_option linter.unnecessarySimpa false
/-
 DERIVED: THE SHELF's CONTRACTS AT THIS DUMP, IN PLAIN WORDS (tools/lay-plain.mjs out of 'TryzShelf5.lean', which tools/lay-shelf.mjs wrote): THE SAME DECLARATIONS UNDER THE SAME NAMES: 'import', 'namespace', 'open', 'def', 'theorem' AND NOTHING ELSE: no command of the shelf's: FOR A HAND-IN. Each laying: the table of numbers ('.._ren') and one theorem, a field a fact of the dump's own or the kernel's comparison; each contract: ONE APPLICATION.
-/
namespace Go.Proofs
open Go.Shelf
def Tryz.laysMul_ren : Go.Shelf.Ren := ⟨fun | 212 => 143 | 263 => 150 | 264 => 151 | n => n, fun | 46 => 167 | 51 => 166 | 146 => 226 | 53 => 165 | 148 => 230 | n => n, fun | n => n⟩
theorem Tryz.laysMul : Go.Proofs.Lays.n212 Tryz.prog Tryz.laysMul_ren := {
 mixed := by kernel_rfl
 f212 := Tryz.func143.trans (congrArg some (by kernel_rfl))
 f263 := Tryz.func150.trans (congrArg some (by kernel_rfl))
 f264 := Tryz.func151.trans (congrArg some (by kernel_rfl))
 t46 := Tryz.underlying167
 a46 := Tryz.isAgg167
 z46 := Tryz.sizeOf167
 v46 := Tryz.zeroValue167
 t51 := Tryz.underlying166
 a51 := Tryz.isAgg166
 z51 := Tryz.sizeOf166
 v51 := Tryz.zeroValue166
 t53 := Tryz.underlying165
 a53 := Tryz.isAgg165
 z53 := Tryz.sizeOf165
 v53 := Tryz.zeroValue165
 t146 := Tryz.underlying226
 a146 := Tryz.isAgg226
 z146 := Tryz.sizeOf226
 v146 := Tryz.zeroValue226
 t148 := Tryz.underlying230
 a148 := Tryz.isAgg230
 z148 := Tryz.sizeOf230
 v148 := Tryz.zeroValue230 }
end Go.Proofs

