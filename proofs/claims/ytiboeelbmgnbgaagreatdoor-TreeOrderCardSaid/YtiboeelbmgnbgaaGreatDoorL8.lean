import Derived.Test.YtiboeelbmgnbgaaGreatDoorL7
set_option linter.unusedSectionVars false
set_option linter.unusedVariables false
set_option linter.unusedSimpArgs false
set_option linter.unnecessarySimpa false
set_option maxRecDepth 100000
set_option linter.unusedVariables false
set_option linter.unusedSimpArgs false
namespace Go.Cq
open Go Go.Av
/-! ### What is too much -/
theorem bigTexts_l1 (l : List Str) : ∀ (r : List Str) (k q : Nat), l.drop k = r → k ≤ l.length → k ≤ 40 → 41 - k < q →
    ∃ b, law14_bigTexts_l1 l (fun _ => some (decide ((40 : Int) < (l.length : Int)))) q (k : Int) = some b ∧ (b = false → l.length ≤ 40 ∧ ∀ s, s ∈ r → s.length ≤ 1100) := by
  intro r
  induction r with
  | nil =>
    intro k q h hk h40 hq
    obtain ⟨q, rfl⟩ : ∃ q', q = q' + 1 := ⟨q - 1, by omega⟩
    have : k = l.length := by have : l.length ≤ k := by simpa using h
                              omega
    subst this
    simp only [law14_bigTexts_l1]
    rw [ge_len, Bool.false_and, ifF]
    exact ⟨_, rfl, fun h => ⟨by have := of_decide_eq_false h; omega, fun s hs => by simp at hs⟩⟩
  | cons x r ih =>
    intro k q h hk h40 hq
    obtain ⟨q, rfl⟩ : ∃ q', q = q' + 1 := ⟨q - 1, by omega⟩
    obtain ⟨e1, e2, e3⟩ := getDrop h
    simp only [law14_bigTexts_l1]
    rw [lt_len e3, Bool.true_and]
    by_cases hk40 : k < 40
    · rw [decide_eq_true (by omega), if_pos rfl, lAt_nat e1, bindS, cks (by omega), bindS]
      by_cases hx : x.length ≤ 1100
      · rw [decide_eq_false (by omega), ifF]
        obtain ⟨b, h1, h2⟩ := ih (k+1) q e2 (by omega) (by omega) (by omega)
        refine ⟨b, h1, fun hb => ⟨(h2 hb).1, fun s hs => ?_⟩⟩
        rcases List.mem_cons.1 hs with rfl | hs
        · exact hx
        · exact (h2 hb).2 s hs
      · rw [decide_eq_true (by omega), if_pos rfl]
        exact ⟨true, rfl, fun h => by cases h⟩
    · rw [decide_eq_false (by omega), ifF, decide_eq_true (by omega)]
      exact ⟨true, rfl, fun h => by cases h⟩
theorem bigTexts_eq (l : List Str) : ∃ b, law14_bigTexts l = some b ∧ (b = false → l.length ≤ 40 ∧ ∀ s, s ∈ l → s.length ≤ 1100) := by
  unfold law14_bigTexts
  rw [letK_e]
  exact bigTexts_l1 l l 0 fuel rfl (Nat.zero_le _) (Nat.zero_le _) (by unfold fuel; omega)
structure SmallN (n : ref14_Node) : Prop where
  s : n.S.length ≤ 1100
  l : n.L.length ≤ 40
  k : n.Kids.length ≤ 520
structure Small (m : ref14_Method) : Prop where
  s : m.Sel.length ≤ 1100
  a : m.Args.length ≤ 40
  t : m.Temps.length ≤ 40
  n : m.Nodes.length ≤ 520
  b : m.Body.length ≤ 520
  ns : ∀ n, n ∈ m.Nodes → SmallN n
theorem bigTree_l1 (m : ref14_Method) (hm : m.Nodes.length ≤ 520) : ∀ (r : List ref14_Node) (k q : Nat), m.Nodes.drop k = r → k ≤ m.Nodes.length → r.length < q →
    ∃ b, law14_bigTree_l1 m (fun _ => some false) q (k : Int) = some b ∧ (b = false → ∀ n, n ∈ r → SmallN n) := by
  intro r
  induction r with
  | nil =>
    intro k q h hk hq
    obtain ⟨q, rfl⟩ : ∃ q', q = q' + 1 := ⟨q - 1, by simp at hq; omega⟩
    have : k = m.Nodes.length := by have : m.Nodes.length ≤ k := by simpa using h
                                    omega
    subst this
    simp only [law14_bigTree_l1]
    rw [ge_len, ifF]
    exact ⟨_, rfl, fun h n hn => by simp at hn⟩
  | cons x r ih =>
    intro k q h hk hq
    obtain ⟨q, rfl⟩ : ∃ q', q = q' + 1 := ⟨q - 1, by simp at hq; omega⟩
    obtain ⟨e1, e2, e3⟩ := getDrop h
    obtain ⟨b2, g1, g2⟩ := bigTexts_eq x.L
    simp only [law14_bigTree_l1]
    rw [lt_len e3, if_pos rfl, lAt_nat e1, bindS, cks (by omega), bindS, g1]
    by_cases hs : x.S.length ≤ 1100
    · rw [decide_eq_false (by omega), ifF, bindS]
      cases b2 with
      | true => rw [if_pos rfl, bindS, if_pos rfl]; exact ⟨true, rfl, fun h => by cases h⟩
      | false =>
        rw [ifF, bindS]
        by_cases hk : x.Kids.length ≤ 520
        · rw [decide_eq_false (by omega), ifF]
          obtain ⟨b, h1, h2⟩ := ih (k+1) q e2 (by omega) (by simp at hq; omega)
          refine ⟨b, h1, fun hb n hn => ?_⟩
          rcases List.mem_cons.1 hn with rfl | hn
          · exact ⟨hs, (g2 rfl).1, hk⟩
          · exact h2 hb n hn
        · rw [decide_eq_true (by omega), if_pos rfl]; exact ⟨true, rfl, fun h => by cases h⟩
    · rw [decide_eq_true (by omega), if_pos rfl, bindS, if_pos rfl]; exact ⟨true, rfl, fun h => by cases h⟩
theorem bigTree_eq (m : ref14_Method) : ∃ b, law14_bigTree m = some b ∧ (b = false → Small m) := by
  obtain ⟨b1, g1, g2⟩ := bigTexts_eq m.Args
  obtain ⟨b2, g3, g4⟩ := bigTexts_eq m.Temps
  have no : ∀ {x : Option Bool}, x = some true → ∃ b, x = some b ∧ (b = false → Small m) := fun h => ⟨true, h, fun h => by cases h⟩
  unfold law14_bigTree
  rw [g1, g3]
  by_cases hs : m.Sel.length ≤ 1100
  · rw [decide_eq_false (by omega), ifF, bindS]
    cases b1 with
    | true => exact no (by rw [if_pos rfl, bindS, if_pos rfl])
    | false =>
      rw [ifF, bindS]
      cases b2 with
      | true => exact no (by rw [if_pos rfl, bindS, if_pos rfl])
      | false =>
        rw [ifF]
        by_cases hn : m.Nodes.length ≤ 520
        · rw [decide_eq_false (by omega), ifF, bindS]
          by_cases hb : m.Body.length ≤ 520
          · rw [decide_eq_false (by omega), ifF, letK_e]
            obtain ⟨b, h1, h2⟩ := bigTree_l1 m hn m.Nodes 0 fuel rfl (Nat.zero_le _) (by unfold fuel; omega)
            exact ⟨b, h1, fun h => ⟨hs, (g2 rfl).1, (g4 rfl).1, hn, hb, h2 h⟩⟩
          · exact no (by rw [decide_eq_true (by omega), if_pos rfl])
        · exact no (by rw [decide_eq_true (by omega), if_pos rfl, bindS, if_pos rfl])
  · exact no (by rw [decide_eq_true (by omega), if_pos rfl, bindS, if_pos rfl])
theorem Small.nodes {m : ref14_Method} (h : Small m) (hK : ∀ n, n ∈ m.Nodes → 0 ≤ n.K) : NodesOk (giveM m).Nodes := by
  have hm : ∀ x, x ∈ (giveM m).Nodes → ∃ n, n ∈ m.Nodes ∧ x = giveNode n := fun x hx => by
    obtain ⟨n, hn, e⟩ := List.mem_map.1 hx
    exact ⟨n, hn, e.symm⟩
  refine ⟨by have := h.n; simp [giveM]; omega, fun x hx => ?_, fun x hx => ?_, fun x hx => ?_, fun x hx => ?_⟩ <;> obtain ⟨n, hn, rfl⟩ := hm x hx
  · exact hK n hn
  · have := (h.ns n hn).s; show n.S.length ≤ _; omega
  · have := (h.ns n hn).l; show n.L.length ≤ _; unfold bigN; omega
  · have := (h.ns n hn).k; show n.Kids.length ≤ _; omega
def okM (m : ref14_Method) : Bool := headOk (giveM m) && machB (giveM m)
structure SmallC (c : ref14_Class) : Prop where
  v : c.Vars.length ≤ 40
  m : c.Methods.length ≤ 20
  ms : ∀ m, m ∈ c.Methods → Small m
theorem Small.inj {m m' : ref14_Method} (h : giveM m = giveM m') : okM m = okM m' := by unfold okM; rw [h]
end Go.Cq

set_option maxRecDepth 100000
set_option linter.unusedVariables false
set_option linter.unusedSimpArgs false
namespace Go.Cq
open Go Go.Av
/-! ### The order of a method's nodes -/
def kidsAt (N : List tree_Node) (c : Nat) : List Int := match N[c]? with | some n => n.Kids | none => []
def ksum (N : List tree_Node) (j : Nat) : Nat → Nat
  | 0 => 0
  | c+1 => ksum N j c + (kidsAt N c).count (j : Int)
theorem kidsAt_of {N : List tree_Node} {c : Nat} {n : tree_Node} (h : N[c]? = some n) : kidsAt N c = n.Kids := by simp [kidsAt, h]
theorem count_consI (j m : Nat) (r : List Int) : ((m : Int) :: r).count (j : Int) = (if m = j then 1 else 0) + r.count (j : Int) := by
  rw [List.count_cons]
  by_cases h : m = j
  · subst h; simp; omega
  · have : ((m : Int) == (j : Int)) = false := by simpa using (by omega : ¬ (m : Int) = (j : Int))
    rw [this, if_neg h]; simp
mutual
theorem Tr.count {N : List tree_Node} {lo i h : Nat} : Tr N lo i h → ∀ j : Nat, ksum N j (i+1) = ksum N j lo + if lo ≤ j ∧ j < i then 1 else 0
  | .mk hn hm hf, j => by
    have := Fo.count hf j
    show ksum N j i + (kidsAt N i).count (j : Int) = _
    rw [kidsAt_of hn]
    exact this
theorem Fo.count {N : List tree_Node} {P : Nat → Bool × Bool × Bool} {k lo hi h : Nat} {l : List Int} : Fo N P k lo hi l h → ∀ j : Nat, ksum N j hi + l.count (j : Int) = ksum N j lo + if lo ≤ j ∧ j < hi then 1 else 0
  | .nil, j => by
    have : ¬ (lo ≤ j ∧ j < lo) := by omega
    rw [if_neg this]; simp
  | .cons (j := m) (r := r) hj hs ht hr, j => by
    have h1 := Tr.count ht j
    have h2 := Fo.count hr j
    have l1 := ht.le
    have l2 := hr.le.1
    rw [count_consI]
    by_cases a : lo ≤ j ∧ j < m
    · rw [if_pos a] at h1; rw [if_neg (by omega)] at h2; rw [if_neg (by omega), if_pos (by omega)]; omega
    · rw [if_neg a] at h1
      by_cases b : m = j
      · rw [if_neg (by omega)] at h2; rw [if_pos b, if_pos (by omega)]; omega
      · by_cases c : m + 1 ≤ j ∧ j < hi
        · rw [if_pos c] at h2; rw [if_neg b, if_pos (by omega)]; omega
        · rw [if_neg c] at h2; rw [if_neg b, if_neg (by omega)]; omega
end
mutual
theorem Tr.all {N : List tree_Node} {lo i h : Nat} : Tr N lo i h → ∀ j, lo ≤ j → j ≤ i → ∃ lo' h', Tr N lo' j h'
  | .mk hn hm hf, j, h1, h2 => by
    rcases Nat.lt_or_ge j i with h | h
    · exact Fo.all hf j h1 h
    · obtain rfl : j = i := by omega
      exact ⟨_, _, .mk hn hm hf⟩
theorem Fo.all {N : List tree_Node} {P : Nat → Bool × Bool × Bool} {k lo hi h : Nat} {l : List Int} : Fo N P k lo hi l h → ∀ j, lo ≤ j → j < hi → ∃ lo' h', Tr N lo' j h'
  | .nil, j, h1, h2 => by omega
  | .cons (j := m) hj hs ht hr, j, h1, h2 => by
    rcases Nat.lt_or_ge m j with h | h
    · exact Fo.all hr j h h2
    · exact Tr.all ht j h1 h
end
theorem Fo.lo {N : List tree_Node} {P : Nat → Bool × Bool × Bool} : ∀ {l : List Int} {k lo hi h : Nat}, Fo N P k lo hi l h → ∀ x, x ∈ l → (lo : Int) ≤ x
  | [], _, _, _, _, _, x, hx => by simp at hx
  | y :: l, _, _, _, _, hf, x, hx => by
    cases hf with
    | cons hj hs ht hr =>
      have := ht.le
      rcases List.mem_cons.1 hx with rfl | hx
      · omega
      · have := Fo.lo hr x hx; omega
/-- They ascend. -/
theorem Fo.asc {N : List tree_Node} {P : Nat → Bool × Bool × Bool} : ∀ {l : List Int} {k lo hi h : Nat}, Fo N P k lo hi l h → ∀ (t : Nat) (x y : Int), l[t]? = some x → l[t+1]? = some y → x < y
  | [], _, _, _, _, _, t, x, y, h1, _ => by simp at h1
  | z :: l, _, _, _, _, hf, t, x, y, h1, h2 => by
    cases hf with
    | cons hj hs ht hr =>
      cases t with
      | zero =>
        simp at h1 h2
        subst h1
        have := Fo.lo hr y (List.mem_of_getElem? (i := 0) (by simpa using h2))
        omega
      | succ t => exact Fo.asc hr t x y (by simpa using h1) (by simpa using h2)
theorem Fo.last {N : List tree_Node} {P : Nat → Bool × Bool × Bool} : ∀ {l : List Int} {k lo hi h : Nat}, Fo N P k lo hi l h → l ≠ [] → 0 < hi ∧ l.getLast? = some ((hi : Int) - 1)
  | [], _, _, _, _, _, h => absurd rfl h
  | [z], _, _, _, _, hf, _ => by
    cases hf with
    | cons hj hs ht hr => cases hr; refine ⟨by omega, ?_⟩; simp
  | z :: w :: l, _, _, _, _, hf, _ => by
    cases hf with
    | cons hj hs ht hr =>
      obtain ⟨h1, h2⟩ := Fo.last hr (by simp)
      exact ⟨h1, by rw [List.getLast?_cons_cons]; exact h2⟩
/-! ### The numbers of kids -/
def tab (n : Nat) (f : Nat → Nat) : List Int := (List.range n).map fun j => (f j : Int)
theorem tab_len (n : Nat) (f : Nat → Nat) : (tab n f).length = n := by simp [tab]
theorem tab_get {n : Nat} {f : Nat → Nat} {j : Nat} (h : j < n) : (tab n f)[j]? = some (f j : Int) := by simp [tab, h]
theorem tab_set {n : Nat} {f : Nat → Nat} {j : Nat} (h : j < n) : (tab n f).set j ((f j : Int) + 1) = tab n (fun x => f x + if j = x then 1 else 0) := by
  apply List.ext_getElem (by simp [tab])
  intro i h1 h2
  simp [tab, List.getElem_set]
  split
  · rename_i e; subst e; simp
  · simp
theorem order_l3 (n : Nat) (i : Nat) (nd : tree_Node) (K : List Int → Option Bool) (hk : nd.Kids.length ≤ 100000) (hin : i ≤ n) (hn : n ≤ 100000)
    (h1 : ∀ x, x ∈ nd.Kids → 0 ≤ x ∧ x < (i : Int)) (h2 : ∀ (t : Nat) (x y : Int), nd.Kids[t]? = some x → nd.Kids[t+1]? = some y → x < y) :
    ∀ (r : List Int) (k q : Nat) (f : Nat → Nat), nd.Kids.drop k = r → k ≤ nd.Kids.length → r.length < q → (∀ j, f j ≤ 1000000000000 + k) →
      law14_TreeOrder_l3 (i : Int) nd K q (k : Int) (tab n f) = K (tab n (fun j => f j + r.count (j : Int))) := by
  intro r
  induction r with
  | nil =>
    intro k q f h hkl hq hf
    obtain ⟨q, rfl⟩ : ∃ q', q = q' + 1 := ⟨q - 1, by simp at hq; omega⟩
    have : k = nd.Kids.length := by have : nd.Kids.length ≤ k := by simpa using h
                                    omega
    subst this
    simp only [law14_TreeOrder_l3]
    rw [ge_len, ifF]
    rfl
  | cons x r ih =>
    intro k q f h hkl hq hf
    obtain ⟨q, rfl⟩ : ∃ q', q = q' + 1 := ⟨q - 1, by simp at hq; omega⟩
    obtain ⟨e1, e2, e3⟩ := getDrop h
    have hx := h1 x (List.mem_of_getElem? e1)
    obtain ⟨x, rfl⟩ : ∃ x' : Nat, x = (x' : Int) := ⟨x.toNat, by omega⟩
    have hxn : x < n := by omega
    have hfx := hf x
    simp only [law14_TreeOrder_l3]
    rw [lt_len e3, if_pos rfl, lAt_nat e1, bindS, decide_eq_false (by omega), ifF, decide_eq_false (by omega), ifF, bindS, lAt_nat (tab_get hxn), bindS, cks (by omega), bindS]
    have hset : stAt (tab n f) (x : Int) ((f x + 1 : Nat) : Int) = some (tab n (fun j => f j + if x = j then 1 else 0)) := by
      unfold stAt
      rw [show ((x : Int)).toNat = x by omega, ← tab_set hxn]
      rfl
    rw [hset, bindS, cks (by omega), bindS]
    have hnext := ih (k+1) q (fun j => f j + if x = j then 1 else 0) e2 (by omega) (by simp at hq; omega) (fun j => by have := hf j; split <;> omega)
    have hc : (fun j => (f j + if x = j then 1 else 0) + r.count (j : Int)) = fun j => f j + ((x : Int) :: r).count (j : Int) := by
      funext j
      rw [count_consI]; omega
    rw [hc] at hnext
    by_cases h0 : 0 < k
    · obtain ⟨y, hy⟩ : ∃ y, nd.Kids[k-1]? = some y := ⟨_, List.getElem?_eq_getElem (by omega)⟩
      have := h2 (k-1) y x hy (by rw [show k - 1 + 1 = k by omega]; exact e1)
      rw [decide_eq_true (by omega), if_pos rfl, ck_of (by omega) (by omega), bindS, show (k : Int) - 1 = ((k - 1 : Nat) : Int) by omega, lAt_nat hy, bindS, bindS, decide_eq_false (by omega), ifF]
      exact hnext
    · rw [decide_eq_false (by omega), ifF, bindS, ifF]
      exact hnext
theorem order_l1 (m : tree_Method) (K : List Int → Option Bool) (hlen : m.Nodes.length ≤ 100000) (hk : ∀ n, n ∈ m.Nodes → n.Kids.length ≤ 100000)
    (h1 : ∀ (i : Nat) (n : tree_Node), m.Nodes[i]? = some n → ∀ x, x ∈ n.Kids → 0 ≤ x ∧ x < (i : Int)) (h2 : ∀ n, n ∈ m.Nodes → ∀ (t : Nat) (x y : Int), n.Kids[t]? = some x → n.Kids[t+1]? = some y → x < y)
    (h3 : ∀ c j, c ≤ m.Nodes.length → ksum m.Nodes j c ≤ 1000000000000) : ∀ (c i q : Nat), i + c = m.Nodes.length → c < q →
      law14_TreeOrder_l1 m K q (i : Int) (tab m.Nodes.length (fun j => ksum m.Nodes j i)) = K (tab m.Nodes.length (fun j => ksum m.Nodes j m.Nodes.length)) := by
  intro c
  induction c with
  | zero =>
    intro i q hi hq
    obtain ⟨q, rfl⟩ : ∃ q', q = q' + 1 := ⟨q - 1, by omega⟩
    obtain rfl : i = m.Nodes.length := by omega
    simp only [law14_TreeOrder_l1]
    rw [ge_len, ifF]
  | succ c ih =>
    intro i q hi hq
    obtain ⟨q, rfl⟩ : ∃ q', q = q' + 1 := ⟨q - 1, by omega⟩
    have hil : i < m.Nodes.length := by omega
    obtain ⟨n, hn⟩ : ∃ n, m.Nodes[i]? = some n := ⟨_, List.getElem?_eq_getElem hil⟩
    have hm := List.mem_of_getElem? hn
    simp only [law14_TreeOrder_l1]
    rw [lt_len hil, if_pos rfl, lAt_nat hn, bindS, letK_e, cks (by omega)]
    have := order_l3 m.Nodes.length i n (fun v170 => (some ((i + 1 : Nat) : Int)).bind fun v172 => law14_TreeOrder_l1 m K q v172 v170) (hk n hm) (by omega) hlen (h1 i n hn) (h2 n hm) n.Kids 0 fuel (fun j => ksum m.Nodes j i) rfl (Nat.zero_le _) (by have := hk n hm; unfold fuel; omega) (fun j => h3 i j (by omega))
    rw [show ((0 : Nat) : Int) = 0 from rfl] at this
    rw [this, bindS]
    have e : (fun j => ksum m.Nodes j i + n.Kids.count (j : Int)) = fun j => ksum m.Nodes j (i+1) := by
      funext j
      show _ = ksum m.Nodes j i + (kidsAt m.Nodes i).count (j : Int)
      rw [kidsAt_of hn]
    rw [e]
    exact ih (i+1) q (by omega) (by omega)
theorem order_l4 (m : tree_Method) (n : Nat) (hb : m.Body.length ≤ 100000) (h1 : ∀ x, x ∈ m.Body → 0 ≤ x ∧ x < (n : Int)) :
    ∀ (r : List Int) (k q : Nat) (f : Nat → Nat), m.Body.drop k = r → k ≤ m.Body.length → r.length < q → (∀ j, f j ≤ 1000000000000 + k) →
      law14_TreeOrder_l4 m q (k : Int) (tab n f) = some (tab n (fun j => f j + r.count (j : Int))) := by
  intro r
  induction r with
  | nil =>
    intro k q f h hkl hq hf
    obtain ⟨q, rfl⟩ : ∃ q', q = q' + 1 := ⟨q - 1, by simp at hq; omega⟩
    have : k = m.Body.length := by have : m.Body.length ≤ k := by simpa using h
                                   omega
    subst this
    simp only [law14_TreeOrder_l4]
    rw [ge_len, ifF]
    rfl
  | cons x r ih =>
    intro k q f h hkl hq hf
    obtain ⟨q, rfl⟩ : ∃ q', q = q' + 1 := ⟨q - 1, by simp at hq; omega⟩
    obtain ⟨e1, e2, e3⟩ := getDrop h
    have hx := h1 x (List.mem_of_getElem? e1)
    obtain ⟨x, rfl⟩ : ∃ x' : Nat, x = (x' : Int) := ⟨x.toNat, by omega⟩
    have hxn : x < n := by omega
    have hfx := hf x
    simp only [law14_TreeOrder_l4]
    rw [lt_len e3, if_pos rfl, lAt_nat e1, bindS, lAt_nat (tab_get hxn), bindS, cks (by omega), bindS]
    have hset : stAt (tab n f) (x : Int) ((f x + 1 : Nat) : Int) = some (tab n (fun j => f j + if x = j then 1 else 0)) := by
      unfold stAt
      rw [show ((x : Int)).toNat = x by omega, ← tab_set hxn]
      rfl
    rw [hset, bindS, cks (by omega), bindS, ih (k+1) q (fun j => f j + if x = j then 1 else 0) e2 (by omega) (by simp at hq; omega) (fun j => by have := hf j; split <;> omega)]
    congr 2
    funext j
    rw [count_consI]; omega
theorem order_l5 (n : Nat) (K : Unit → Option Bool) (hn : n ≤ 100000) (f : Nat → Nat) (h1 : ∀ j, j < n → f j = 1) : ∀ (c i q : Nat), i + c = n → c < q → law14_TreeOrder_l5 (tab n f) K q (i : Int) = K () := by
  intro c
  induction c with
  | zero =>
    intro i q hi hq
    obtain ⟨q, rfl⟩ : ∃ q', q = q' + 1 := ⟨q - 1, by omega⟩
    obtain rfl : i = n := by omega
    simp only [law14_TreeOrder_l5]
    rw [tab_len, decide_eq_false (by omega), ifF]
  | succ c ih =>
    intro i q hi hq
    obtain ⟨q, rfl⟩ : ∃ q', q = q' + 1 := ⟨q - 1, by omega⟩
    simp only [law14_TreeOrder_l5]
    rw [tab_len, decide_eq_true (by omega), if_pos rfl, lAt_nat (tab_get (by omega)), bindS, h1 i (by omega), decide_eq_true (by rfl), Bool.not_true, ifF, cks (by omega), bindS]
    exact ih (i+1) q (by omega) (by omega)
end Go.Cq

set_option maxRecDepth 100000
set_option linter.unusedVariables false
set_option linter.unusedSimpArgs false
namespace Go.Cq
open Go Go.Av
theorem ksum_mono (N : List tree_Node) (j : Nat) : ∀ (d c : Nat), ksum N j c ≤ ksum N j (c + d)
  | 0, c => Nat.le_refl _
  | d+1, c => by
    have := ksum_mono N j d c
    show _ ≤ ksum N j (c + d) + _
    omega
theorem nodesOk_sub {N M : List tree_Node} (h : NodesOk N) (hs : ∀ n, n ∈ M → n ∈ N) (hl : M.length ≤ N.length) : NodesOk M :=
  ⟨by have := h.len; omega, fun n hn => h.k0 n (hs n hn), fun n hn => h.s n (hs n hn), fun n hn => h.l n (hs n hn), fun n hn => h.kids n (hs n hn)⟩
theorem check_no (m : tree_Method) (hN : NodesOk m.Nodes) (hb : m.Body.length ≤ 100000) (hs : m.Sel.length ≤ 1000000) (ha : m.Args.length ≤ 100000) (ht : m.Temps.length ≤ 100000) (h : ¬ TreesOk m) : tree_Check m = some (some 1) := by
  obtain ⟨b, h1, h2⟩ := check_eq m hN hb hs ha ht
  cases b with
  | true => exact absurd (h2.1 rfl).2 h
  | false => rw [h1]; rfl
theorem order_end (m : tree_Method) (hN : NodesOk m.Nodes) (hb : m.Body.length ≤ 100000) (hs : m.Sel.length ≤ 1000000) (ha : m.Args.length ≤ 100000) (ht : m.Temps.length ≤ 100000) (hT : TreesOk m) (h0 : m.Body ≠ []) :
    tree_Check (tree_Method.mk m.Sel m.Args m.Temps (m.Nodes.take (m.Nodes.length - 1)) m.Body) = some (some 1) ∧ tree_Check (tree_Method.mk m.Sel m.Args m.Temps m.Nodes (m.Body.take (m.Body.length - 1))) = some (some 1) := by
  obtain ⟨h, hf, hh⟩ := hT
  obtain ⟨hp, hla⟩ := hf.last h0
  have hmem : ((m.Nodes.length : Int) - 1) ∈ m.Body := List.mem_of_getLast? hla
  refine ⟨check_no _ (nodesOk_sub hN (fun n hn => List.mem_of_mem_take hn) (by simp only [List.length_take]; omega)) hb hs ha ht ?_, check_no _ hN (by simp only [List.length_take]; omega) hs ha ht ?_⟩
  · rintro ⟨h', hf', _⟩
    have := hf'.le.2 _ hmem
    simp at this
    omega
  · rintro ⟨h', hf', _⟩
    dsimp only at hf'
    have hc := hf.count (m.Nodes.length - 1)
    rw [show (((m.Nodes.length - 1 : Nat)) : Int) = (m.Nodes.length : Int) - 1 by omega] at hc
    have hc0 : ksum m.Nodes (m.Nodes.length - 1) 0 = 0 := rfl
    rw [if_pos (by omega), hc0] at hc
    have hsp : m.Body = m.Body.take (m.Body.length - 1) ++ [(m.Nodes.length : Int) - 1] := by
      have h1 := List.dropLast_concat_getLast h0
      rw [List.getLast?_eq_some_getLast h0, Option.some.injEq] at hla
      rw [hla, List.dropLast_eq_take] at h1
      exact h1.symm
    by_cases he : m.Body.take (m.Body.length - 1) = []
    · rw [he] at hf'
      generalize e : m.Nodes.length = n at hf' hp
      cases hf'
      omega
    · have hm2 : ((m.Nodes.length : Int) - 1) ∈ m.Body.take (m.Body.length - 1) := List.mem_of_getLast? (hf'.last he).2
      have c1 : 0 < (m.Body.take (m.Body.length - 1)).count ((m.Nodes.length : Int) - 1) := List.count_pos_iff.2 hm2
      have c2 : m.Body.count ((m.Nodes.length : Int) - 1) = (m.Body.take (m.Body.length - 1)).count ((m.Nodes.length : Int) - 1) + 1 := by
        conv => lhs; rw [hsp]
        rw [List.count_append]
        simp
      omega
theorem treeOrder (m : ref14_Method) (hfit : Fits m) (hK : ∀ n, n ∈ m.Nodes → 0 ≤ n.K) : law14_TreeOrder m = some true := by
  unfold law14_TreeOrder
  obtain ⟨b, hb1, hb2⟩ := bigTree_eq m
  rw [give_eq m hfit, bindS, hb1, bindS, sure_true, bindS]
  cases b with
  | true => rw [if_pos rfl, bindS, if_pos rfl]
  | false =>
    rw [ifF]
    have hsm := hb2 rfl
    have hN := hsm.nodes hK
    have hB : (giveM m).Body.length ≤ 100000 := by have := hsm.b; show m.Body.length ≤ _; omega
    have hS : (giveM m).Sel.length ≤ 1000000 := by have := hsm.s; show m.Sel.length ≤ _; omega
    have hA : (giveM m).Args.length ≤ 100000 := by have := hsm.a; show m.Args.length ≤ _; omega
    have hTm : (giveM m).Temps.length ≤ 100000 := by have := hsm.t; show m.Temps.length ≤ _; omega
    obtain ⟨b, h1, h2⟩ := check_eq (giveM m) hN hB hS hA hTm
    generalize giveM m = M at *
    rw [h1, bindS]
    cases b with
    | false => rfl
    | true =>
      obtain ⟨hh, hT⟩ := h2.1 rfl
      rw [if_pos rfl]
      have hnl := hN.len
      obtain ⟨ht, hf, hht⟩ := hT
      have hcount : ∀ j, j < M.Nodes.length → ksum M.Nodes j M.Nodes.length + M.Body.count (j : Int) = 1 := fun j hj => by
        have := hf.count j
        rw [if_pos ⟨Nat.zero_le _, hj⟩] at this
        rw [this]; rfl
      have hks : ∀ c j, c ≤ M.Nodes.length → ksum M.Nodes j c ≤ 1000000000000 := fun c j hc => by
        have h3 := ksum_mono M.Nodes j (M.Nodes.length - c) c
        rw [show c + (M.Nodes.length - c) = M.Nodes.length by omega] at h3
        have h4 := hf.count j
        have : ksum M.Nodes j 0 = 0 := rfl
        split at h4 <;> omega
      have hmk : mkL 8 (0 : Int) (M.Nodes.length : Int) = some (tab M.Nodes.length (fun j => ksum M.Nodes j 0)) := by
        unfold mkL
        rw [if_pos ⟨by omega, by unfold maxB; omega, by unfold maxB; omega⟩]
        congr 1
        apply List.ext_getElem (by simp [tab])
        intro i h1 h2
        simp [tab, ksum]
      have hnode : ∀ (i : Nat) (n : tree_Node), M.Nodes[i]? = some n → ∃ lo h, Fo M.Nodes (placesB n) 0 lo i n.Kids h := fun i n hn => by
        obtain ⟨lo, h, htr⟩ := hf.all i (Nat.zero_le _) (List.getElem?_eq_some_iff.1 hn).1
        cases htr with
        | mk a b c => rw [hn] at a; cases a; exact ⟨_, _, c⟩
      have hl1 := order_l1 M (fun (v173 : (List Int)) =>
      (
        law14_TreeOrder_l4 M fuel 0 v173
      ).bind fun y174 =>
      letK (fun (_ : Unit) =>
        if (decide ((M.Body.length : Int) = 0)) then
          (
            if (decide ((M.Nodes.length : Int) = 0)) then
              some true
            else
              some false
          ).bind fun y225 =>
          some y225
        else
          (ck ((M.Nodes.length : Int) - 1)).bind fun v230 =>
          (sub M.Nodes 0 v230).bind fun v233 =>
          (ck ((M.Body.length : Int) - 1)).bind fun v235 =>
          (sub M.Body 0 v235).bind fun v238 =>
          (
            (tree_Check (tree_Method.mk M.Sel M.Args M.Temps v233 M.Body)).bind fun v241 =>
            (law_num v241).bind fun v242 =>
            if (decide (v242 = 1)) then
              (tree_Check (tree_Method.mk M.Sel M.Args M.Temps M.Nodes v238)).bind fun v244 =>
              (law_num v244).bind fun v245 =>
              if (decide (v245 = 1)) then
                some true
              else
                some false
            else
              some false
          ).bind fun y239 =>
          some y239
      ) fun (K214 : (Unit → Option Bool)) =>
      law14_TreeOrder_l5 y174 K214 fuel 0) hnl hN.kids (fun i n hn x hx => by
        obtain ⟨lo, h, hfo⟩ := hnode i n hn
        have a := hfo.lo x hx
        have b := hfo.le.2 x hx
        omega) (fun n hn t x y hx hy => by
        obtain ⟨i, hi⟩ := List.mem_iff_getElem?.1 hn
        obtain ⟨lo, h, hfo⟩ := hnode i n hi
        exact hfo.asc t x y hx hy) hks M.Nodes.length 0 fuel (by omega) (by unfold fuel; omega)
      rw [show ((0 : Nat) : Int) = 0 from rfl] at hl1
      have hl4 := order_l4 M M.Nodes.length hB (fun x hx => by have a := hf.lo x hx; have b := hf.le.2 x hx; omega) M.Body 0 fuel (fun j => ksum M.Nodes j M.Nodes.length) rfl (Nat.zero_le _) (by unfold fuel; omega) (fun j => by have := hks M.Nodes.length j (Nat.le_refl _); omega)
      rw [show ((0 : Nat) : Int) = 0 from rfl] at hl4
      have hl5 := fun K => order_l5 M.Nodes.length K hnl (fun j => ksum M.Nodes j M.Nodes.length + M.Body.count (j : Int)) hcount M.Nodes.length 0 fuel (by omega) (by unfold fuel; omega)
      rw [show ((0 : Nat) : Int) = 0 from rfl] at hl5
      show Option.bind (some (Option.isSome (none : Option Int))) _ = _
      rw [bindS, show Option.isSome (none : Option Int) = false from rfl, ifF, hmk, bindS, letK_e]
      refine hl1.trans ?_
      rw [hl4, bindS, letK_e, hl5]
      by_cases h0 : M.Body = []
      · have hz : M.Nodes.length = 0 := by
          rw [h0] at hf
          generalize M.Nodes.length = n at hf
          cases hf; rfl
        rw [h0, hz]; rfl
      · have hbp : 0 < M.Body.length := List.length_pos_iff.2 h0
        obtain ⟨hp, _⟩ := hf.last h0
        obtain ⟨g1, g2⟩ := order_end M hN hB hS hA hTm ⟨ht, hf, hht⟩ h0
        rw [decide_eq_false (by omega), ifF, ck_of (by omega) (by omega), bindS, show (M.Nodes.length : Int) - 1 = ((M.Nodes.length - 1 : Nat) : Int) by omega, sub0 (by omega), bindS,
          ck_of (by omega) (by omega), bindS, show (M.Body.length : Int) - 1 = ((M.Body.length - 1 : Nat) : Int) by omega, sub0 (by omega), bindS, g1, bindS, g2, bindS]
        rfl
end Go.Cq

