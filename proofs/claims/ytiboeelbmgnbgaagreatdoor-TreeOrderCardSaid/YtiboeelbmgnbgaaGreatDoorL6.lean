import Derived.Test.YtiboeelbmgnbgaaGreatDoorLO
set_option linter.unusedSectionVars false
set_option linter.unusedVariables false
set_option linter.unusedSimpArgs false
set_option linter.unnecessarySimpa false
set_option maxRecDepth 100000
set_option linter.unusedVariables false
set_option linter.unusedSimpArgs false
namespace Go.Cq
open Go Go.Av
/-! ### The program's method -/
def giveM (m : ref14_Method) : tree_Method := tree_Method.mk m.Sel m.Args m.Temps (m.Nodes.map giveNode) m.Body
/-- A method that fits. -/
structure Fits (m : ref14_Method) : Prop where
  a : m.Args.length * 16 ≤ 140737488351232
  t : m.Temps.length * 16 ≤ 140737488351232
  b : m.Body.length * 8 ≤ 140737488351232
  n : m.Nodes.length * 80 ≤ 140737488351232
  l : ∀ z, z ∈ m.Nodes → z.L.length * 16 ≤ 140737488351232
  k : ∀ z, z ∈ m.Nodes → z.Kids.length * 8 ≤ 140737488351232
theorem app_nil {α : Type} {b : Nat} {m : List α} (hb : 0 < b) (h : m.length * b ≤ 140737488351232) : app b ([] : List α) m = some m := by
  have : m.length * 1 ≤ m.length * b := Nat.mul_le_mul_left _ hb
  exact app_of (by simp; omega) (by simpa using (by omega : m.length * b ≤ 140737488355328))
theorem give_l1 (m : ref14_Method) (hf : Fits m) : ∀ (r : List ref14_Node) (j q : Nat) (acc : List tree_Node), m.Nodes.drop j = r → j ≤ m.Nodes.length → r.length < q → acc.length = j → law14_giveMethod_l1 m q (j : Int) acc = some (acc ++ r.map giveNode) := by
  intro r
  induction r with
  | nil =>
    intro j q acc h hj hq ha
    obtain ⟨q, rfl⟩ : ∃ q', q = q' + 1 := ⟨q - 1, by simp at hq; omega⟩
    have : j = m.Nodes.length := by have : m.Nodes.length ≤ j := by simpa using h
                                    omega
    subst this
    simp only [law14_giveMethod_l1]
    rw [ge_len, ifF]; simp
  | cons n r ih =>
    intro j q acc h hj hq ha
    obtain ⟨e1, e2, e3⟩ := getDrop h
    obtain ⟨q, rfl⟩ : ∃ q', q = q' + 1 := ⟨q - 1, by simp at hq; omega⟩
    have hq' : r.length < q := by simp at hq; omega
    have hn := List.mem_of_getElem? e1
    have h80 := hf.n
    simp only [law14_giveMethod_l1]
    rw [lt_len e3, if_pos rfl, lAt_nat e1, bindS, app_nil (by decide) (hf.l n hn), bindS, app_nil (by decide) (hf.k n hn), bindS, app_of (by simp; omega) (by simp; omega), bindS, cks (by omega), bindS]
    have := ih (j+1) q (acc ++ [tree_Node.mk n.K n.S n.N n.L n.Kids]) e2 (by omega) hq' (by simp; omega)
    rw [this]
    simp [giveNode]
theorem give_eq (m : ref14_Method) (hf : Fits m) : law14_giveMethod m = some (giveM m) := by
  unfold law14_giveMethod
  have h80 := hf.n
  rw [app_nil (by decide) hf.a, bindS, app_nil (by decide) hf.t, bindS, app_nil (by decide) hf.b, bindS]
  have := give_l1 m hf m.Nodes 0 fuel [] rfl (Nat.zero_le _) (by unfold fuel; omega) rfl
  rw [show ((0 : Nat) : Int) = 0 from rfl] at this
  rw [this, bindS]
  rfl
end Go.Cq

set_option maxRecDepth 100000
set_option linter.unusedVariables false
set_option linter.unusedSimpArgs false
namespace Go.Cq
open Go Go.Av
end Go.Cq

set_option maxRecDepth 100000
set_option linter.unusedVariables false
set_option linter.unusedSimpArgs false
namespace Go.Cq
open Go Go.Av
end Go.Cq

set_option maxRecDepth 100000
set_option linter.unusedVariables false
set_option linter.unusedSimpArgs false
namespace Go.Cq
open Go Go.Av
end Go.Cq

set_option maxRecDepth 100000
set_option linter.unusedVariables false
set_option linter.unusedSimpArgs false
namespace Go.Cq
open Go Go.Av
end Go.Cq

