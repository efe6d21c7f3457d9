import Derived.Test.YtphdekcijjgbeaaGreatDoorL7
set_option linter.unusedSectionVars false
set_option linter.unusedVariables false
set_option linter.unusedSimpArgs false
set_option linter.unnecessarySimpa false
set_option maxRecDepth 100000
namespace Go.Cq
open Go Go.Av
theorem bigTexts_l1 (l : List Str) : ∀ (r : List Str) (k q : Nat), l.drop k = r → k ≤ l.length → k ≤ 40 → 41 - k < q →
    ∃ b, law14_bigTexts_l1 l (fun _ => some (decide ((40 : Int) < (l.length : Int)))) q (k : Int) = some b ∧ (b = false → l.length ≤ 40 ∧ ∀ s, s ∈ r → s.length ≤ 1100) := by
  intro r
  induction r with
  | nil =>
    intro k q h hk h40 hq
    obtain ⟨q, rfl⟩ : ∃ q', q = q' + 1 := ⟨q - 1, by omega⟩
    have : k = l.length := by have : l.length ≤ k := by simpa using h
                              omega
    subst this
    simp only [law14_bigTexts_l1]
    rw [ge_len, Bool.false_and, ifF]
    exact ⟨_, rfl, fun h => ⟨by have := of_decide_eq_false h; omega, fun s hs => by simp at hs⟩⟩
  | cons x r ih =>
    intro k q h hk h40 hq
    obtain ⟨q, rfl⟩ : ∃ q', q = q' + 1 := ⟨q - 1, by omega⟩
    obtain ⟨e1, e2, e3⟩ := getDrop h
    simp only [law14_bigTexts_l1]
    rw [lt_len e3, Bool.true_and]
    by_cases hk40 : k < 40
    · rw [decide_eq_true (by omega), if_pos rfl, lAt_nat e1, bindS, cks (by omega), bindS]
      by_cases hx : x.length ≤ 1100
      · rw [decide_eq_false (by omega), ifF]
        obtain ⟨b, h1, h2⟩ := ih (k+1) q e2 (by omega) (by omega) (by omega)
        refine ⟨b, h1, fun hb => ⟨(h2 hb).1, fun s hs => ?_⟩⟩
        rcases List.mem_cons.1 hs with rfl | hs
        · exact hx
        · exact (h2 hb).2 s hs
      · rw [decide_eq_true (by omega), if_pos rfl]
        exact ⟨true, rfl, fun h => by cases h⟩
    · rw [decide_eq_false (by omega), ifF, decide_eq_true (by omega)]
      exact ⟨true, rfl, fun h => by cases h⟩
theorem bigTexts_eq (l : List Str) : ∃ b, law14_bigTexts l = some b ∧ (b = false → l.length ≤ 40 ∧ ∀ s, s ∈ l → s.length ≤ 1100) := by
 unfold law14_bigTexts
 rw [letK_e]
 exact bigTexts_l1 l l 0 fuel rfl (Nat.zero_le _) (Nat.zero_le _) (by unfold fuel; omega)
structure SmallN (n : ref14_Node) : Prop where
 s : n.S.length ≤ 1100
 l : n.L.length ≤ 40
 k : n.Kids.length ≤ 520
structure Small (m : ref14_Method) : Prop where
 s : m.Sel.length ≤ 1100
 a : m.Args.length ≤ 40
 t : m.Temps.length ≤ 40
 n : m.Nodes.length ≤ 520
 b : m.Body.length ≤ 520
 ns : ∀ n, n ∈ m.Nodes → SmallN n
theorem bigTree_l1 (m : ref14_Method) (hm : m.Nodes.length ≤ 520) : ∀ (r : List ref14_Node) (k q : Nat), m.Nodes.drop k = r → k ≤ m.Nodes.length → r.length < q →
    ∃ b, law14_bigTree_l1 m (fun _ => some false) q (k : Int) = some b ∧ (b = false → ∀ n, n ∈ r → SmallN n) := by
  intro r
  induction r with
  | nil =>
    intro k q h hk hq
    obtain ⟨q, rfl⟩ : ∃ q', q = q' + 1 := ⟨q - 1, by simp at hq; omega⟩
    have : k = m.Nodes.length := by have : m.Nodes.length ≤ k := by simpa using h
                                    omega
    subst this
    simp only [law14_bigTree_l1]
    rw [ge_len, ifF]
    exact ⟨_, rfl, fun h n hn => by simp at hn⟩
  | cons x r ih =>
    intro k q h hk hq
    obtain ⟨q, rfl⟩ : ∃ q', q = q' + 1 := ⟨q - 1, by simp at hq; omega⟩
    obtain ⟨e1, e2, e3⟩ := getDrop h
    obtain ⟨b2, g1, g2⟩ := bigTexts_eq x.L
    simp only [law14_bigTree_l1]
    rw [lt_len e3, if_pos rfl, lAt_nat e1, bindS, cks (by omega), bindS, g1]
    by_cases hs : x.S.length ≤ 1100
    · rw [decide_eq_false (by omega), ifF, bindS]
      cases b2 with
      | true => rw [if_pos rfl, bindS, if_pos rfl]; exact ⟨true, rfl, fun h => by cases h⟩
      | false =>
        rw [ifF, bindS]
        by_cases hk : x.Kids.length ≤ 520
        · rw [decide_eq_false (by omega), ifF]
          obtain ⟨b, h1, h2⟩ := ih (k+1) q e2 (by omega) (by simp at hq; omega)
          refine ⟨b, h1, fun hb n hn => ?_⟩
          rcases List.mem_cons.1 hn with rfl | hn
          · exact ⟨hs, (g2 rfl).1, hk⟩
          · exact h2 hb n hn
        · rw [decide_eq_true (by omega), if_pos rfl]; exact ⟨true, rfl, fun h => by cases h⟩
    · rw [decide_eq_true (by omega), if_pos rfl, bindS, if_pos rfl]; exact ⟨true, rfl, fun h => by cases h⟩
theorem bigTree_eq (m : ref14_Method) : ∃ b, law14_bigTree m = some b ∧ (b = false → Small m) := by
 obtain ⟨b1, g1, g2⟩ := bigTexts_eq m.Args
 obtain ⟨b2, g3, g4⟩ := bigTexts_eq m.Temps
 have no : ∀ {x : Option Bool}, x = some true → ∃ b, x = some b ∧ (b = false → Small m) := fun h => ⟨true, h, fun h => by cases h⟩
 unfold law14_bigTree
 rw [g1, g3]
 by_cases hs : m.Sel.length ≤ 1100
 ·rw [decide_eq_false (by omega), ifF, bindS]
  cases b1 with
  | true => exact no (by rw [if_pos rfl, bindS, if_pos rfl])
  | false =>
   rw [ifF, bindS]
   cases b2 with
   | true => exact no (by rw [if_pos rfl, bindS, if_pos rfl])
   | false =>
    rw [ifF]
    by_cases hn : m.Nodes.length ≤ 520
    ·rw [decide_eq_false (by omega), ifF, bindS]
     by_cases hb : m.Body.length ≤ 520
     ·rw [decide_eq_false (by omega), ifF, letK_e]
      obtain ⟨b, h1, h2⟩ := bigTree_l1 m hn m.Nodes 0 fuel rfl (Nat.zero_le _) (by unfold fuel; omega)
      exact ⟨b, h1, fun h => ⟨hs, (g2 rfl).1, (g4 rfl).1, hn, hb, h2 h⟩⟩
     ·exact no (by rw [decide_eq_true (by omega), if_pos rfl])
    ·exact no (by rw [decide_eq_true (by omega), if_pos rfl, bindS, if_pos rfl])
 ·exact no (by rw [decide_eq_true (by omega), if_pos rfl, bindS, if_pos rfl])
theorem Small.fits {m : ref14_Method} (h : Small m) : Fits m := by
 obtain ⟨h1, h2, h3, h4, h5, h6⟩ := h
 exact ⟨by omega, by omega, by omega, by omega, fun z hz => by have := (h6 z hz).l; omega, fun z hz => by have := (h6 z hz).k; omega⟩
theorem Small.nodes {m : ref14_Method} (h : Small m) (hK : ∀ n, n ∈ m.Nodes → 0 ≤ n.K) : NodesOk (giveM m).Nodes := by
  have hm : ∀ x, x ∈ (giveM m).Nodes → ∃ n, n ∈ m.Nodes ∧ x = giveNode n := fun x hx => by
    obtain ⟨n, hn, e⟩ := List.mem_map.1 hx
    exact ⟨n, hn, e.symm⟩
  refine ⟨by have := h.n; simp [giveM]; omega, fun x hx => ?_, fun x hx => ?_, fun x hx => ?_, fun x hx => ?_⟩ <;> obtain ⟨n, hn, rfl⟩ := hm x hx
  · exact hK n hn
  · have := (h.ns n hn).s; show n.S.length ≤ _; omega
  · have := (h.ns n hn).l; show n.L.length ≤ _; unfold bigN; omega
  · have := (h.ns n hn).k; show n.Kids.length ≤ _; omega
def okM (m : ref14_Method) : Bool := headOk (giveM m) && machB (giveM m)
theorem Small.may {m : ref14_Method} (h : Small m) (hK : ∀ n, n ∈ m.Nodes → 0 ≤ n.K) : ref14_May m = some (okM m) :=
 may14_eq m (h.nodes hK) (by have := h.b; omega) (by have := h.s; omega) (by have := h.a; omega) (by have := h.t; omega)
theorem Small.check {m : ref14_Method} (h : Small m) (hK : ∀ n, n ∈ m.Nodes → 0 ≤ n.K) : tree_Check (giveM m) = some (if okM m = true then none else some 1) :=
 check_may m (h.nodes hK) (by have := h.b; omega) (by have := h.s; omega) (by have := h.a; omega) (by have := h.t; omega)
end Go.Cq

set_option maxRecDepth 100000
namespace Go.Cq
open Go Go.Av
def kidsAt (N : List tree_Node) (c : Nat) : List Int := match N[c]? with | some n => n.Kids | none => []
def ksum (N : List tree_Node) (j : Nat) : Nat → Nat
 | 0 => 0
 | c+1 => ksum N j c + (kidsAt N c).count (j : Int)
theorem kidsAt_of {N : List tree_Node} {c : Nat} {n : tree_Node} (h : N[c]? = some n) : kidsAt N c = n.Kids := by simp [kidsAt, h]
theorem count_consI (j m : Nat) (r : List Int) : ((m : Int) :: r).count (j : Int) = (if m = j then 1 else 0) + r.count (j : Int) := by
 rw [List.count_cons]
 by_cases h : m = j
 ·subst h; simp; omega
 ·have : ((m : Int) == (j : Int)) = false := by simpa using (by omega : ¬ (m : Int) = (j : Int))
  rw [this, if_neg h]; simp
mutual
theorem Tr.count {N : List tree_Node} {lo i h : Nat} : Tr N lo i h → ∀ j : Nat, ksum N j (i+1) = ksum N j lo + if lo ≤ j ∧ j < i then 1 else 0
 | .mk hn hm hf, j => by
  have := Fo.count hf j
  show ksum N j i + (kidsAt N i).count (j : Int) = _
  rw [kidsAt_of hn]
  exact this
theorem Fo.count {N : List tree_Node} {P : Nat → Bool × Bool × Bool} {k lo hi h : Nat} {l : List Int} : Fo N P k lo hi l h → ∀ j : Nat, ksum N j hi + l.count (j : Int) = ksum N j lo + if lo ≤ j ∧ j < hi then 1 else 0
 | .nil, j => by
  have : ¬ (lo ≤ j ∧ j < lo) := by omega
  rw [if_neg this]; simp
 | .cons (j := m) (r := r) hj hs ht hr, j => by
  have h1 := Tr.count ht j
  have h2 := Fo.count hr j
  have l1 := ht.le
  have l2 := hr.le.1
  rw [count_consI]
  by_cases a : lo ≤ j ∧ j < m
  ·rw [if_pos a] at h1; rw [if_neg (by omega)] at h2; rw [if_neg (by omega), if_pos (by omega)]; omega
  ·rw [if_neg a] at h1
   by_cases b : m = j
   ·rw [if_neg (by omega)] at h2; rw [if_pos b, if_pos (by omega)]; omega
   ·by_cases c : m + 1 ≤ j ∧ j < hi
    ·rw [if_pos c] at h2; rw [if_neg b, if_pos (by omega)]; omega
    ·rw [if_neg c] at h2; rw [if_neg b, if_neg (by omega)]; omega
end
mutual
theorem Tr.all {N : List tree_Node} {lo i h : Nat} : Tr N lo i h → ∀ j, lo ≤ j → j ≤ i → ∃ lo' h', Tr N lo' j h'
 | .mk hn hm hf, j, h1, h2 => by
  rcases Nat.lt_or_ge j i with h | h
  ·exact Fo.all hf j h1 h
  ·obtain rfl : j = i := by omega
   exact ⟨_, _, .mk hn hm hf⟩
theorem Fo.all {N : List tree_Node} {P : Nat → Bool × Bool × Bool} {k lo hi h : Nat} {l : List Int} : Fo N P k lo hi l h → ∀ j, lo ≤ j → j < hi → ∃ lo' h', Tr N lo' j h'
 | .nil, j, h1, h2 => by omega
 | .cons (j := m) hj hs ht hr, j, h1, h2 => by
  rcases Nat.lt_or_ge m j with h | h
  ·exact Fo.all hr j h h2
  ·exact Tr.all ht j h1 h
end
theorem Fo.lo {N : List tree_Node} {P : Nat → Bool × Bool × Bool} : ∀ {l : List Int} {k lo hi h : Nat}, Fo N P k lo hi l h → ∀ x, x ∈ l → (lo : Int) ≤ x
 | [], _, _, _, _, _, x, hx => by simp at hx
 | y :: l, _, _, _, _, hf, x, hx => by
  cases hf with
  | cons hj hs ht hr =>
   have := ht.le
   rcases List.mem_cons.1 hx with rfl | hx
   ·omega
   ·have := Fo.lo hr x hx; omega
end Go.Cq

