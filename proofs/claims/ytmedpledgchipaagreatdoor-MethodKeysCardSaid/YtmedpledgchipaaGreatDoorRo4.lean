import Derived.Test.YtmedpledgchipaaGreatDoorRo2
set_option linter.unusedSectionVars false
set_option linter.unusedVariables false
set_option linter.unusedSimpArgs false
set_option linter.unnecessarySimpa false
namespace Go.Av
open Go
def TyE (P : Program) (t : TypeId) (cs : List AV) : Prop := ∃ d, TyD P d t cs
section
variable {P : Program} {t e : TypeId} {cs : List AV}
theorem tye_str (hu : P.underlying t = some .string) (h : TyE P t cs) : ∃ s, cs = [.str s] ∧ s.length ≤ reachBytes := by
 obtain ⟨d, h⟩ := h
 cases d with
 | zero => exact h.elim
 | succ d => unfold TyD at h; rw [hu] at h; exact h
theorem one_eq' {x y : AV} (h : x.cells = [x]) (h2 : x.cells = [y]) : x = y := by
 rw [h] at h2; simpa using h2
end
end Go.Av

