import Derived.Test.YtmedpledgchipaaGreatDoorMEn
import Derived.Test.YtmedpledgchipaaGreatDoorRo4
import Derived.KernelRfl
set_option linter.unusedSectionVars false
set_option linter.unusedVariables false
set_option linter.unusedSimpArgs false
set_option linter.unnecessarySimpa false
set_option maxRecDepth 100000
set_option maxHeartbeats 4000000
namespace Go.Cq
open Go Go.Av Go.Proofs
theorem ty9 {cs : List AV} (h : TyE Tryz.prog 9 cs) : ∃ x : Str, cs = [.str x] ∧ (x.length ≤ 140737488351232) := tye_str Tryz.underlying9 h
theorem args_law09_MethodKeys {d : Nat} {avs : List AV} (h : TyAll Tryz.prog d Tryz.f6.params.toList avs) : ∃ (x0 : Str) (x1 : Str), avs = [.str x0, .str x1] ∧ (x0.length ≤ 140737488351232) ∧ (x1.length ≤ 140737488351232) := by
 rw [show Tryz.f6.params.toList = [9, 9] by kernel_rfl] at h
 match avs, h with
 | [a0, a1], h =>
  obtain ⟨⟨d0, s0⟩, ⟨d1, s1⟩, _⟩ := h
  rw [show isStr Tryz.prog 9 = false by kernel_rfl] at s0
  obtain ⟨y0, e0, k0⟩ := ty9 ⟨_, d0⟩
  obtain rfl := one_eq' s0 e0
  rw [show isStr Tryz.prog 9 = false by kernel_rfl] at s1
  obtain ⟨y1, e1, k1⟩ := ty9 ⟨_, d1⟩
  obtain rfl := one_eq' s1 e1
  exact ⟨y0, y1, rfl, k0, k1⟩
end Go.Cq

