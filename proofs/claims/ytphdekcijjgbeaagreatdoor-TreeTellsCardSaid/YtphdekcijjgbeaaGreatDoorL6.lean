import Derived.Test.YtphdekcijjgbeaaGreatDoorLO
set_option linter.unusedSectionVars false
set_option linter.unusedVariables false
set_option linter.unusedSimpArgs false
set_option linter.unnecessarySimpa false
set_option maxRecDepth 100000
namespace Go.Cq
open Go Go.Av
def giveM (m : ref14_Method) : tree_Method := tree_Method.mk m.Sel m.Args m.Temps (m.Nodes.map giveNode) m.Body
structure Fits (m : ref14_Method) : Prop where
 a : m.Args.length * 16 ≤ 140737488351232
 t : m.Temps.length * 16 ≤ 140737488351232
 b : m.Body.length * 8 ≤ 140737488351232
 n : m.Nodes.length * 80 ≤ 140737488351232
 l : ∀ z, z ∈ m.Nodes → z.L.length * 16 ≤ 140737488351232
 k : ∀ z, z ∈ m.Nodes → z.Kids.length * 8 ≤ 140737488351232
theorem app_nil {α : Type} {b : Nat} {m : List α} (hb : 0 < b) (h : m.length * b ≤ 140737488351232) : app b ([] : List α) m = some m := by
 have : m.length * 1 ≤ m.length * b := Nat.mul_le_mul_left _ hb
 exact app_of (by simp; omega) (by simpa using (by omega : m.length * b ≤ 140737488355328))
theorem give_l1 (m : ref14_Method) (hf : Fits m) : ∀ (r : List ref14_Node) (j q : Nat) (acc : List tree_Node), m.Nodes.drop j = r → j ≤ m.Nodes.length → r.length < q → acc.length = j → law14_giveMethod_l1 m q (j : Int) acc = some (acc ++ r.map giveNode) := by
  intro r
  induction r with
  | nil =>
    intro j q acc h hj hq ha
    obtain ⟨q, rfl⟩ : ∃ q', q = q' + 1 := ⟨q - 1, by simp at hq; omega⟩
    have : j = m.Nodes.length := by have : m.Nodes.length ≤ j := by simpa using h
                                    omega
    subst this
    simp only [law14_giveMethod_l1]
    rw [ge_len, ifF]; simp
  | cons n r ih =>
    intro j q acc h hj hq ha
    obtain ⟨e1, e2, e3⟩ := getDrop h
    obtain ⟨q, rfl⟩ : ∃ q', q = q' + 1 := ⟨q - 1, by simp at hq; omega⟩
    have hq' : r.length < q := by simp at hq; omega
    have hn := List.mem_of_getElem? e1
    have h80 := hf.n
    simp only [law14_giveMethod_l1]
    rw [lt_len e3, if_pos rfl, lAt_nat e1, bindS, app_nil (by decide) (hf.l n hn), bindS, app_nil (by decide) (hf.k n hn), bindS, app_of (by simp; omega) (by simp; omega), bindS, cks (by omega), bindS]
    have := ih (j+1) q (acc ++ [tree_Node.mk n.K n.S n.N n.L n.Kids]) e2 (by omega) hq' (by simp; omega)
    rw [this]
    simp [giveNode]
theorem give_eq (m : ref14_Method) (hf : Fits m) : law14_giveMethod m = some (giveM m) := by
 unfold law14_giveMethod
 have h80 := hf.n
 rw [app_nil (by decide) hf.a, bindS, app_nil (by decide) hf.t, bindS, app_nil (by decide) hf.b, bindS]
 have := give_l1 m hf m.Nodes 0 fuel [] rfl (Nat.zero_le _) (by unfold fuel; omega) rfl
 rw [show ((0 : Nat) : Int) = 0 from rfl] at this
 rw [this, bindS]
 rfl
end Go.Cq

set_option maxRecDepth 100000
namespace Go.Cq
open Go Go.Av
theorem stands14_eq (k : Int) (n : tree_Node) (i : Nat) (h13 : n.K ≤ 13) (hk : n.Kids.length ≤ bigN) : ref14_stands k n.K (i : Int) (n.Kids.length : Int) = some (standsB k (placesB n i)) := by
  unfold ref14_stands standsB placesB
  have d0 : decide ((i : Int) = 0) = decide (i = 0) := by
    by_cases h : i = 0
    · rw [decide_eq_true h, decide_eq_true (by omega)]
    · rw [decide_eq_false h, decide_eq_false (by omega)]
  have d1 : decide ((0 : Int) < (i : Int)) = decide (0 < i) := by
    by_cases h : 0 < i
    · rw [decide_eq_true h, decide_eq_true (by omega)]
    · rw [decide_eq_false h, decide_eq_false (by omega)]
  have d2 : decide ((i : Int) = (n.Kids.length : Int) - 1) = decide (i + 1 = n.Kids.length) := by
    by_cases h : i + 1 = n.Kids.length
    · rw [decide_eq_true h, decide_eq_true (by omega)]
    · rw [decide_eq_false h, decide_eq_false (by omega)]
  rw [ck_of (by omega) (by unfold bigN at hk; omega), bindS, d0, d1, d2]
  by_cases h1 : k = 1
  · simp only [h1, decide_true, if_true]
    by_cases a : n.K = 9
    · simp [a]
    by_cases b : n.K = 10
    · simp [b]
    · by_cases c : n.K = 12 <;> simp [a, b, c]
  by_cases h3 : k = 13
  · simp only [h1, h3, decide_true, if_true, decide_false, if_false]
    by_cases c : n.K = 12
    · simp [c]
    · have e : decide ((12 : Int) ≤ n.K) = true → n.K = 13 := fun h => by have := of_decide_eq_true h; omega
      by_cases f : (12 : Int) ≤ n.K
      · have : n.K = 13 := by omega
        simp [this]
      · by_cases a : n.K = 9
        · simp [a]
        · by_cases b : n.K = 10 <;> simp [a, b, c, f]
  by_cases h2 : k = 11
  · simp only [h1, h2, h3, decide_true, if_true, decide_false, if_false]
    by_cases a : n.K = 9
    · simp [a]
    by_cases b : n.K = 10
    · simp [b]
    · by_cases c : n.K = 12 <;> simp [a, b, c]
  · simp only [h1, h2, h3, decide_true, if_true, decide_false, if_false]
    by_cases a : n.K = 9
    · simp [a]
    by_cases b : n.K = 10
    · simp [b]
    · by_cases c : n.K = 12 <;> simp [a, b, c]
theorem standsBody_eq (k : Int) (i len : Nat) (hl : len ≤ bigN) : ref14_stands k 99 (i : Int) (len : Int) = some (standsB k (bodyP len i)) := by
 unfold ref14_stands standsB bodyP
 have d2 : decide ((i : Int) = (len : Int) - 1) = decide (i + 1 = len) := by
  by_cases h : i + 1 = len
  ·rw [decide_eq_true h, decide_eq_true (by omega)]
  ·rw [decide_eq_false h, decide_eq_false (by omega)]
 rw [ck_of (by omega) (by unfold bigN at hl; omega), bindS, d2]
 by_cases h1 : k = 1
 ·simp [h1]
 by_cases h3 : k = 13
 ·simp [h3]
 by_cases h2 : k = 11
 ·simp [h2]
 ·simp [h1, h2, h3]
end Go.Cq

