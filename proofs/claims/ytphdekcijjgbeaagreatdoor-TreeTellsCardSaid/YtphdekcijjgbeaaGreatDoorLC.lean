import Derived.Test.YtphdekcijjgbeaaGreatDoorLB
set_option linter.unusedSectionVars false
set_option linter.unusedVariables false
set_option linter.unusedSimpArgs false
set_option linter.unnecessarySimpa false
set_option maxRecDepth 100000
namespace Go.Cq
open Go Go.Av
theorem cmp_loop {α : Type} [DecidableEq α] {F : Nat → Int → Option Bool} {a b : List α} {t : α → α → Bool} (ht : ∀ x y, x ∈ a → y ∈ b → (t x y = true ↔ x = y)) (hl : a.length = b.length)
    (h1 : ∀ q (j : Nat) x y, a[j]? = some x → b[j]? = some y → j < a.length → F (q+1) (j : Int) = if t x y = true then F q ((j+1 : Nat) : Int) else some false) (h0 : ∀ q, F (q+1) (a.length : Int) = some true) :
    ∀ (r s : List α) (j q : Nat), a.drop j = r → b.drop j = s → j ≤ a.length → r.length < q → F q (j : Int) = some (decide (r = s)) := by
  intro r
  induction r with
  | nil =>
    intro s j q h h' hj hq
    obtain ⟨q, rfl⟩ : ∃ q', q = q' + 1 := ⟨q - 1, by simp at hq; omega⟩
    have : j = a.length := by have : a.length ≤ j := by simpa using h
                              omega
    subst this
    have : s = [] := by rw [← h', hl]; simp
    subst this
    rw [h0]; rfl
  | cons x r ih =>
    intro s j q h h' hj hq
    obtain ⟨q, rfl⟩ : ∃ q', q = q' + 1 := ⟨q - 1, by simp at hq; omega⟩
    obtain ⟨e1, e2, e3⟩ := getDrop h
    cases s with
    | nil => have : b.length ≤ j := by simpa using h'
             omega
    | cons y s =>
      obtain ⟨f1, f2, f3⟩ := getDrop h'
      rw [h1 q j x y e1 f1 e3]
      have hxy := ht x y (List.mem_of_getElem? e1) (List.mem_of_getElem? f1)
      by_cases e : x = y
      · subst e
        rw [if_pos (hxy.2 rfl), ih s (j+1) q e2 f2 (by omega) (by simp at hq; omega)]
        simp
      · rw [if_neg (fun h => e (hxy.1 h))]
        simp [e]
theorem cmp_all {α : Type} [DecidableEq α] {F : Nat → Int → Option Bool} {a b : List α} {t : α → α → Bool} (ht : ∀ x y, x ∈ a → y ∈ b → (t x y = true ↔ x = y)) (hs : a.length ≤ bigN)
  (h1 : ∀ q (j : Nat) x y, a[j]? = some x → b[j]? = some y → j < a.length → F (q+1) (j : Int) = if t x y = true then F q ((j+1 : Nat) : Int) else some false) (h0 : ∀ q, F (q+1) (a.length : Int) = some true) :
  (if (!decide ((a.length : Int) = (b.length : Int))) then some false else F fuel 0) = some (decide (a = b)) := by
 by_cases hl : a.length = b.length
 ·rw [decide_eq_true (by omega), Bool.not_true, ifF]
  have := cmp_loop ht hl h1 h0 a b 0 fuel rfl rfl (Nat.zero_le _) (lt_fuel hs)
  rwa [show ((0 : Nat) : Int) = 0 from rfl] at this
 ·rw [decide_eq_false (by omega), Bool.not_false, if_pos rfl, decide_eq_false (fun e => hl (by rw [e]))]
theorem textsL_eq (a b : List Str) (hs : a.length ≤ bigN) : law14_texts a b = some (decide (a = b)) := by
  unfold law14_texts
  rw [letK_e]
  refine cmp_all (t := fun x y => x == y) (fun x y _ _ => by simp) hs (fun q j x y e1 e2 e3 => ?_) (fun q => ?_)
  · simp only [law14_texts_l1]
    rw [lt_len e3, if_pos rfl, lAt_nat e1, bindS, lAt_nat e2, bindS, ckj e3 hs, bindS]
    cases (x == y) <;> rfl
  · simp only [law14_texts_l1]; rw [ge_len, ifF]
theorem textsE_eq (a b : List Str) (hs : a.length ≤ bigN) : slices_Equal_Lstring_string a b = some (decide (a = b)) := by
  unfold slices_Equal_Lstring_string
  rw [letK_e]
  refine cmp_all (t := fun x y => x == y) (fun x y _ _ => by simp) hs (fun q j x y e1 e2 e3 => ?_) (fun q => ?_)
  · simp only [slices_Equal_Lstring_string_l1]
    rw [lt_len e3, if_pos rfl, lAt_nat e1, bindS, lAt_nat e2, bindS, ckj e3 hs, bindS]
    cases (x == y) <;> rfl
  · simp only [slices_Equal_Lstring_string_l1]; rw [ge_len, ifF]
theorem textsR_eq (a b : List Str) (hs : a.length ≤ bigN) : ref14_texts a b = some (decide (a = b)) := by
  unfold ref14_texts
  rw [letK_e]
  refine cmp_all (t := fun x y => x == y) (fun x y _ _ => by simp) hs (fun q j x y e1 e2 e3 => ?_) (fun q => ?_)
  · simp only [ref14_texts_l1]
    rw [lt_len e3, if_pos rfl, lAt_nat e1, bindS, lAt_nat e2, bindS, ckj e3 hs, bindS]
    cases (x == y) <;> rfl
  · simp only [ref14_texts_l1]; rw [ge_len, ifF]
theorem intsE_eq (a b : List Int) (hs : a.length ≤ bigN) : slices_Equal_Lint_int a b = some (decide (a = b)) := by
  unfold slices_Equal_Lint_int
  rw [letK_e]
  refine cmp_all (t := fun x y => decide (x = y)) (fun x y _ _ => by simp) hs (fun q j x y e1 e2 e3 => ?_) (fun q => ?_)
  · simp only [slices_Equal_Lint_int_l1]
    rw [lt_len e3, if_pos rfl, lAt_nat e1, bindS, lAt_nat e2, bindS, ckj e3 hs, bindS]
    cases decide (x = y) <;> rfl
  · simp only [slices_Equal_Lint_int_l1]; rw [ge_len, ifF]
theorem intsR_eq (a b : List Int) (hs : a.length ≤ bigN) : ref14_ints a b = some (decide (a = b)) := by
  unfold ref14_ints
  rw [letK_e]
  refine cmp_all (t := fun x y => decide (x = y)) (fun x y _ _ => by simp) hs (fun q j x y e1 e2 e3 => ?_) (fun q => ?_)
  · simp only [ref14_ints_l1]
    rw [lt_len e3, if_pos rfl, lAt_nat e1, bindS, lAt_nat e2, bindS, ckj e3 hs, bindS]
    cases decide (x = y) <;> rfl
  · simp only [ref14_ints_l1]; rw [ge_len, ifF]
def sameN (n o : tree_Node) : Bool := decide (n.K = o.K) && (n.S == o.S && (decide (n.N = o.N) && (decide (n.L = o.L) && decide (n.Kids = o.Kids))))
theorem sameN_iff (n o : tree_Node) : sameN n o = true ↔ n = o := by
 unfold sameN
 cases n; cases o
 simp
theorem nodeSame_eq (n o : tree_Node) (h1 : n.L.length ≤ bigN) (h2 : n.Kids.length ≤ bigN) : tree_Node_same n o = some (sameN n o) := by
  unfold tree_Node_same sameN
  rw [textsE_eq _ _ h1, intsE_eq _ _ h2]
  simp only [bindS]
  cases decide (n.K = o.K) <;> cases (n.S == o.S) <;> cases decide (n.N = o.N) <;> cases decide (n.L = o.L) <;> cases decide (n.Kids = o.Kids) <;> rfl
theorem nodesE_eq (a b : List tree_Node) (hs : a.length ≤ bigN) (hn : ∀ n, n ∈ a → n.L.length ≤ bigN ∧ n.Kids.length ≤ bigN) : slices_EqualFunc_Ltree_Node_Ltree_Node_tree_Node_tree_Node a b tree_Node_same = some (decide (a = b)) := by
  unfold slices_EqualFunc_Ltree_Node_Ltree_Node_tree_Node_tree_Node
  rw [letK_e]
  refine cmp_all (t := sameN) (fun x y _ _ => sameN_iff x y) hs (fun q j x y e1 e2 e3 => ?_) (fun q => ?_)
  · simp only [slices_EqualFunc_Ltree_Node_Ltree_Node_tree_Node_tree_Node_l1]
    have := hn x (List.mem_of_getElem? e1)
    rw [lt_len e3, if_pos rfl, lAt_nat e1, bindS, lAt_nat e2, bindS, nodeSame_eq _ _ this.1 this.2, bindS, ckj e3 hs, bindS]
    cases sameN x y <;> rfl
  · simp only [slices_EqualFunc_Ltree_Node_Ltree_Node_tree_Node_tree_Node_l1]; rw [ge_len, ifF]
theorem and5 {a b c d e : Bool} {p : Prop} [Decidable p] (h : (a && (b && (c && (d && e)))) = true ↔ p) : (a && (b && (c && (d && e)))) = decide p := by
 by_cases hp : p
 ·rw [decide_eq_true hp]; exact h.2 hp
 ·rw [decide_eq_false hp]
  cases hx : (a && (b && (c && (d && e)))) with
  | false => rfl
  | true => exact absurd (h.1 hx) hp
theorem treeSame_eq (a b : tree_Method) (h1 : a.Args.length ≤ bigN) (h2 : a.Temps.length ≤ bigN) (h3 : a.Nodes.length ≤ bigN) (h4 : a.Body.length ≤ bigN) (hn : ∀ n, n ∈ a.Nodes → n.L.length ≤ bigN ∧ n.Kids.length ≤ bigN) : tree_Same a b = some (decide (a = b)) := by
  unfold tree_Same
  rw [textsE_eq _ _ h1, textsE_eq _ _ h2, nodesE_eq _ _ h3 hn, intsE_eq _ _ h4]
  simp only [bindS]
  have : ((a.Sel == b.Sel) && (decide (a.Args = b.Args) && (decide (a.Temps = b.Temps) && (decide (a.Nodes = b.Nodes) && decide (a.Body = b.Body))))) = decide (a = b) := and5 (by cases a; cases b; simp)
  rw [← this]
  cases (a.Sel == b.Sel) <;> cases decide (a.Args = b.Args) <;> cases decide (a.Temps = b.Temps) <;> cases decide (a.Nodes = b.Nodes) <;> cases decide (a.Body = b.Body) <;> rfl
def sameR (n o : ref14_Node) : Bool := decide (n.K = o.K) && (n.S == o.S && (decide (n.N = o.N) && (decide (n.L = o.L) && decide (n.Kids = o.Kids))))
theorem sameR_iff (n o : ref14_Node) : sameR n o = true ↔ n = o := by
 unfold sameR
 cases n; cases o
 simp
theorem refSame_eq (a b : ref14_Method) (h1 : a.Args.length ≤ bigN) (h2 : a.Temps.length ≤ bigN) (h3 : a.Nodes.length ≤ bigN) (h4 : a.Body.length ≤ bigN) (hn : ∀ n, n ∈ a.Nodes → n.L.length ≤ bigN ∧ n.Kids.length ≤ bigN) : ref14_Same a b = some (decide (a = b)) := by
  unfold ref14_Same
  rw [textsR_eq _ _ h1, textsR_eq _ _ h2, intsR_eq _ _ h4]
  simp only [bindS]
  have hl : (letK (fun (_ : Unit) => some true) fun (K11 : (Unit → Option Bool)) => (if (!decide ((a.Nodes.length : Int) = (b.Nodes.length : Int))) then some false else ref14_Same_l1 a b K11 fuel 0)) = some (decide (a.Nodes = b.Nodes)) := by
    rw [letK_e]
    refine cmp_all (t := sameR) (fun x y _ _ => sameR_iff x y) h3 (fun q j x y e1 e2 e3 => ?_) (fun q => ?_)
    · simp only [ref14_Same_l1]
      have := hn x (List.mem_of_getElem? e1)
      rw [lt_len e3, if_pos rfl, lAt_nat e1, lAt_nat e2]
      simp only [bindS]
      rw [textsR_eq _ _ this.1, intsR_eq _ _ this.2, ckj e3 h3]
      simp only [bindS]
      unfold sameR
      cases decide (x.K = y.K) <;> cases (x.S == y.S) <;> cases decide (x.N = y.N) <;> cases decide (x.L = y.L) <;> cases decide (x.Kids = y.Kids) <;> rfl
    · simp only [ref14_Same_l1]; rw [ge_len, ifF]
  have : ((a.Sel == b.Sel) && (decide (a.Args = b.Args) && (decide (a.Temps = b.Temps) && (decide (a.Body = b.Body) && decide (a.Nodes = b.Nodes))))) = decide (a = b) := and5 (by
    clear hl hn h1 h2 h3 h4
    cases a; cases b; simp
    intros; exact and_comm)
  rw [← this, letK_e] at *
  have hne : decide ((a.Nodes.length : Int) = (b.Nodes.length : Int)) = false → decide (a.Nodes = b.Nodes) = false := fun h => decide_eq_false (fun e => by rw [e] at h; simp at h)
  cases (a.Sel == b.Sel) <;> cases decide (a.Args = b.Args) <;> cases decide (a.Temps = b.Temps) <;> cases decide (a.Body = b.Body) <;> try rfl
  cases hd : decide ((a.Nodes.length : Int) = (b.Nodes.length : Int)) with
  | false => rw [hne hd]; rfl
  | true =>
    rw [hd, Bool.not_true, ifF] at hl
    simp only [Bool.not_true, ifF, bindS]
    rw [hl]; rfl
end Go.Cq

set_option maxRecDepth 100000
namespace Go.Cq
open Go Go.Av
theorem free_l3 (m : ref14_Method) (nd : ref14_Node) (hl : m.Nodes.length ≤ 100000) (hL : ∀ n, n ∈ m.Nodes → n.L.length ≤ bigN)
  (hup : ∀ j : Nat, abv (giveM m).Nodes j m.Nodes.length = -1 ∨ ∃ i : Nat, abv (giveM m).Nodes j m.Nodes.length = (i : Int) ∧ j < i ∧ i < m.Nodes.length) :
  ∀ (d q : Nat) (own : Bool) (j : Int), (j = -1 ∨ ∃ i : Nat, j = (i : Int) ∧ i < m.Nodes.length ∧ m.Nodes.length ≤ i + d) → d < q →
   ∃ b, ref14_Free_l3 m (tabI m.Nodes.length fun j => abv (giveM m).Nodes j m.Nodes.length) nd q own j = some b ∧ (b = true ↔ own = true ∨ Bnd (giveM m).Nodes nd.S j) := by
 have hgl : (giveM m).Nodes.length = m.Nodes.length := by simp [giveM]
 intro d
 induction d with
 | zero =>
  intro q own j hj hq
  obtain ⟨q, rfl⟩ : ∃ q', q = q' + 1 := ⟨q - 1, by omega⟩
  rcases hj with rfl | ⟨i, rfl, h1, h2⟩
  ·simp only [ref14_Free_l3]
   rw [decide_eq_false (by omega), ifF]
   exact ⟨own, rfl, by simp [bnd_neg]⟩
  ·omega
 | succ d ih =>
  intro q own j hj hq
  obtain ⟨q, rfl⟩ : ∃ q', q = q' + 1 := ⟨q - 1, by omega⟩
  rcases hj with rfl | ⟨i, rfl, h1, h2⟩
  ·simp only [ref14_Free_l3]
   rw [decide_eq_false (by omega), ifF]
   exact ⟨own, rfl, by simp [bnd_neg]⟩
  ·obtain ⟨n, hn⟩ : ∃ n, m.Nodes[i]? = some n := ⟨_, List.getElem?_eq_getElem h1⟩
   simp only [ref14_Free_l3]
   rw [decide_eq_true (by omega), if_pos rfl, lAt_nat hn, bindS, in_eq _ _ (hL n (List.mem_of_getElem? hn)), bindS, lAt_nat (tabI_get h1)]
   have hnext : abv (giveM m).Nodes i m.Nodes.length = -1 ∨ ∃ i' : Nat, abv (giveM m).Nodes i m.Nodes.length = (i' : Int) ∧ i' < m.Nodes.length ∧ m.Nodes.length ≤ i' + d := by
    rcases hup i with h | ⟨i', e, a, b⟩
    ·exact .inl h
    ·exact .inr ⟨i', e, b, by omega⟩
   have hb := bnd_iff (s := nd.S) (nodes_get hn)
   rw [hgl] at hb
   cases own with
   | true =>
    rw [if_pos rfl, bindS, bindS]
    obtain ⟨b, g1, g2⟩ := ih q true _ hnext (by omega)
    exact ⟨b, g1, by rw [g2]; simp⟩
   | false =>
    rw [ifF, bindS, bindS]
    obtain ⟨b, g1, g2⟩ := ih q (decide (nd.S ∈ n.L)) _ hnext (by omega)
    refine ⟨b, g1, ?_⟩
    rw [g2, hb, decide_eq_true_eq]
    show _ ↔ false = true ∨ (nd.S ∈ n.L ∨ _)
    simp
theorem free_l1 (m : ref14_Method) (hl : m.Nodes.length ≤ 1000) (hL : ∀ n, n ∈ m.Nodes → n.L.length ≤ bigN) (ha : m.Args.length ≤ bigN) (ht : m.Temps.length ≤ bigN)
    (hup : ∀ j : Nat, abv (giveM m).Nodes j m.Nodes.length = -1 ∨ ∃ i : Nat, abv (giveM m).Nodes j m.Nodes.length = (i : Int) ∧ j < i ∧ i < m.Nodes.length) :
    ∀ (c j q : Nat) (acc : List Str), j + c = m.Nodes.length → c < q → acc.length ≤ j → Asc acc → (∀ s, s ∈ acc ↔ FreeAt (giveM m).Nodes (m.Args ++ m.Temps) 0 j s) →
      ∃ out, ref14_Free_l1 m (tabI m.Nodes.length fun j => abv (giveM m).Nodes j m.Nodes.length) q acc (j : Int) = some out ∧ out.length ≤ m.Nodes.length ∧ Asc out ∧ ∀ s, s ∈ out ↔ FreeAt (giveM m).Nodes (m.Args ++ m.Temps) 0 m.Nodes.length s := by
  have hgl : (giveM m).Nodes.length = m.Nodes.length := by simp [giveM]
  intro c
  induction c with
  | zero =>
    intro j q acc hj hq hal hA hm
    obtain ⟨q, rfl⟩ : ∃ q', q = q' + 1 := ⟨q - 1, by omega⟩
    obtain rfl : j = m.Nodes.length := by omega
    simp only [ref14_Free_l1]
    rw [ge_len, ifF]
    exact ⟨acc, rfl, hal, hA, hm⟩
  | succ c ih =>
    intro j q acc hj hq hal hA hm
    obtain ⟨q, rfl⟩ : ∃ q', q = q' + 1 := ⟨q - 1, by omega⟩
    have hjl : j < m.Nodes.length := by omega
    obtain ⟨n, hn⟩ : ∃ n, m.Nodes[j]? = some n := ⟨_, List.getElem?_eq_getElem hjl⟩
    have hone : ∀ s, FreeAt (giveM m).Nodes (m.Args ++ m.Temps) j (j+1) s ↔ usesB (giveNode n) = true ∧ n.S = s ∧ s ∉ (m.Args ++ m.Temps) ∧ ¬ Bnd (giveM m).Nodes s (abv (giveM m).Nodes j m.Nodes.length) := fun s => by
      rw [FreeAt.one (nodes_get hn), hgl]; rfl
    simp only [ref14_Free_l1]
    rw [lt_len hjl, if_pos rfl, lAt_nat hn, bindS, cks (by omega)]
    have hk : (if (!decide (n.K = 7)) then some (!decide (n.K = 8)) else some false) = some (!usesB (giveNode n)) := by
      show _ = some (!(decide (n.K = 7) || decide (n.K = 8)))
      cases decide (n.K = 7) <;> rfl
    rw [hk, bindS]
    cases hu : usesB (giveNode n) with
    | false =>
      rw [Bool.not_false, if_pos rfl, bindS, bindS]
      refine ih (j+1) q acc (by omega) (by omega) (by omega) hA fun s => ?_
      rw [hm s, FreeAt.app (mid := j) (hi := j+1) (by omega) (by omega), hone s, hu]
      simp
    | true =>
      rw [Bool.not_true, ifF, bindS, in_eq _ _ ha, in_eq _ _ ht, lAt_nat (tabI_get hjl)]
      have hbase : ((some (decide (n.S ∈ m.Args))).bind fun v64 => if v64 then some true else (some (decide (n.S ∈ m.Temps))).bind fun v66 => some v66) = some (decide (n.S ∈ m.Args ++ m.Temps)) := by
        rw [bindS, bindS]
        by_cases h1 : n.S ∈ m.Args <;> by_cases h2 : n.S ∈ m.Temps <;> simp [h1, h2]
      rw [hbase, bindS, bindS]
      obtain ⟨b, g1, g2⟩ := free_l3 m n (by omega) hL hup (m.Nodes.length + 1) fuel (decide (n.S ∈ m.Args ++ m.Temps)) (abv (giveM m).Nodes j m.Nodes.length) (by
        rcases hup j with h | ⟨i, e, a, b⟩
        · exact .inl h
        · exact .inr ⟨i, e, b, by omega⟩) (by unfold fuel; omega)
      rw [g1, bindS]
      rw [decide_eq_true_eq] at g2
      cases b with
      | true =>
        rw [Bool.not_true, ifF, bindS, bindS, bindS]
        refine ih (j+1) q acc (by omega) (by omega) (by omega) hA fun s => ?_
        rw [hm s, FreeAt.app (mid := j) (hi := j+1) (by omega) (by omega), hone s]
        constructor
        · exact .inl
        · rintro (h | ⟨_, rfl, h1, h2⟩)
          · exact h
          · rcases g2.1 rfl with h | h
            · exact absurd h h1
            · exact absurd h h2
      | false =>
        obtain ⟨r, i1, i2, i3, i4⟩ := insert_eq acc n.S (by omega) hA
        rw [Bool.not_false, if_pos rfl, i1, bindS, bindS, bindS, bindS]
        refine ih (j+1) q r (by omega) (by omega) (by omega) i2 fun s => ?_
        have hno : ¬ (n.S ∈ m.Args ++ m.Temps ∨ Bnd (giveM m).Nodes n.S (abv (giveM m).Nodes j m.Nodes.length)) := fun h => by have := g2.2 h; cases this
        rw [i3 s, hm s, FreeAt.app (lo := 0) (mid := j) (hi := j+1) (by omega) (by omega), hone s, hu]
        constructor
        · rintro (rfl | h)
          · exact .inr ⟨rfl, rfl, fun h => hno (.inl h), fun h => hno (.inr h)⟩
          · exact .inl h
        · rintro (h | ⟨_, rfl, _⟩)
          · exact .inr h
          · exact .inl rfl
theorem free_eq (m : ref14_Method) (hS : Small m) (hK : ∀ n, n ∈ m.Nodes → 0 ≤ n.K) : ∃ r, tree_Free (giveM m) = some r ∧ ref14_Free m = some r ∧ r.length ≤ 1000 := by
  have hgl : (giveM m).Nodes.length = m.Nodes.length := by simp [giveM]
  have s1 := hS.n; have s2 := hS.b; have s3 := hS.a; have s4 := hS.t
  unfold tree_Free ref14_Free
  rw [hS.check hK, hS.may hK, bindS, bindS]
  cases hb : okM m with
  | false => exact ⟨[], rfl, rfl, by simp⟩
  | true =>
    have hT : TreesOk (giveM m) := by
      unfold okM at hb
      rw [Bool.and_eq_true] at hb
      exact (machB_iff _).1 hb.2
    obtain ⟨h, hf, hh⟩ := hT
    have hN := hS.nodes hK
    have hcount : ∀ j : Nat, ksum (giveM m).Nodes j (giveM m).Nodes.length + (giveM m).Body.count (j : Int) = if j < (giveM m).Nodes.length then 1 else 0 := fun j => by
      have := hf.count j
      rw [show ksum (giveM m).Nodes j 0 = 0 from rfl] at this
      rw [this]
      by_cases hj : j < (giveM m).Nodes.length
      · rw [if_pos ⟨Nat.zero_le _, hj⟩, if_pos hj]
      · rw [if_neg (fun h => hj h.2), if_neg hj]
    have hsum : ∀ j : Nat, ksum (giveM m).Nodes j (giveM m).Nodes.length ≤ 1 := fun j => by
      have := hcount j
      split at this <;> omega
    have hkid : ∀ (i : Nat) (n : tree_Node), (giveM m).Nodes[i]? = some n → ∀ x, x ∈ n.Kids → 0 ≤ x ∧ x < (i : Int) := fun i n hn x hx => by
      have hi := (List.getElem?_eq_some_iff.1 hn).1
      obtain ⟨lo', h', ht⟩ := hf.all i (Nat.zero_le _) hi
      cases ht with
      | mk hn' hm' hf' =>
        rw [hn] at hn'; cases hn'
        have a1 := hf'.le.2 x hx
        have a2 := hf'.lo x hx
        omega
    have hpar : ∀ (i : Nat) (n : tree_Node), (giveM m).Nodes[i]? = some n → ∀ k : Nat, (k : Int) ∈ n.Kids → abv (giveM m).Nodes k (giveM m).Nodes.length = (i : Int) := fun i n hn k hk =>
      abv_kid _ _ _ _ (List.getElem?_eq_some_iff.1 hn).1 (by rw [kidsAt_of hn]; exact hk) (hsum k)
    have hOk : FreeOk (giveM m) (m.Args ++ m.Temps) := ⟨hN, by omega, hpar⟩
    have hroot : ∀ x : Nat, (x : Int) ∈ (giveM m).Body → abv (giveM m).Nodes x (giveM m).Nodes.length = -1 := fun x hx => by
      refine abv_root _ _ _ ?_
      have h1 := hcount x
      have h2 : 0 < (giveM m).Body.count (x : Int) := List.count_pos_iff.2 hx
      split at h1 <;> omega
    obtain ⟨out, o1, o2, o3⟩ := Fo.free hOk hf (p := -1) fuel (m.Args ++ m.Temps) hroot (by unfold fuel; omega) (fun s => by simp [bnd_neg]) (by simp; omega)
    have hup : ∀ j : Nat, abv (giveM m).Nodes j m.Nodes.length = -1 ∨ ∃ i : Nat, abv (giveM m).Nodes j m.Nodes.length = (i : Int) ∧ j < i ∧ i < m.Nodes.length := fun j => by
      rcases abv_or (giveM m).Nodes j m.Nodes.length with h | ⟨i, e, a, b⟩
      · exact .inl h
      · refine .inr ⟨i, e, ?_, a⟩
        obtain ⟨n, hn⟩ : ∃ n, (giveM m).Nodes[i]? = some n := ⟨_, List.getElem?_eq_getElem (by omega)⟩
        rw [kidsAt_of hn] at b
        have := hkid i n hn _ b
        omega
    have hab := above_eq m (by omega) (fun n hn => by have := (hS.ns n hn).k; omega) (fun n hn x hx => by
      obtain ⟨i, hi, e⟩ := List.getElem_of_mem hn
      have hg : m.Nodes[i]? = some n := by rw [List.getElem?_eq_getElem hi, e]
      have := hkid i (giveNode n) (nodes_get hg) x hx
      omega)
    obtain ⟨out2, p1, pl, p2, p3⟩ := free_l1 m (by omega) (fun n hn => by have := (hS.ns n hn).l; unfold bigN; omega) (by unfold bigN; omega) (by unfold bigN; omega) hup m.Nodes.length 0 fuel [] (by omega) (by unfold fuel; omega) (by simp) .nil (fun s => ⟨fun h => by simp at h, fun h => absurd h FreeAt.none⟩)
    have t1 := freeB_l1 (giveM m) (by show m.Body.length ≤ _; omega) (by show m.Args.length + m.Temps.length ≤ _; omega) (giveM m).Body 0 fuel [] out rfl (Nat.zero_le _) (by show m.Body.length < _; unfold fuel; omega) o1 (by simp; omega)
    rw [show ((0 : Nat) : Int) = 0 from rfl] at t1 p1
    refine ⟨out2, ?_, ?_, ?_⟩
    · rw [if_pos rfl, show (none : Option Int).isSome = false from rfl, ifF, t1, bindS, sorted_of _ out2 p2 (fun x => ?_), bindS]
      rw [p3 x, ← hgl, ← o3 x]; simp
    · rw [Bool.not_true, ifF, hab, bindS, p1, bindS]
    · omega
theorem giveM_inj {m o : ref14_Method} (h : giveM m = giveM o) : m = o := by
 have hgn : ∀ a b : ref14_Node, giveNode a = giveNode b → a = b := fun a b h => by cases a; cases b; simp [giveNode] at h; simp [h]
 cases m; cases o
 simp only [giveM, tree_Method.mk.injEq] at h
 obtain ⟨a, b, c, d, e⟩ := h
 rw [List.map_inj_right hgn] at d
 subst a; subst b; subst c; subst d; subst e; rfl
theorem treeTells (m o : ref14_Method) (hK : ∀ n, n ∈ m.Nodes → 0 ≤ n.K) : law14_TreeTells m o = some true := by
  obtain ⟨b1, g1, g2⟩ := bigTree_eq m
  obtain ⟨b2, g3, g4⟩ := bigTree_eq o
  unfold law14_TreeTells
  rw [g1, g3, sure_true]
  cases b1 with
  | true => rfl
  | false =>
    cases b2 with
    | true => rfl
    | false =>
      have hS := g2 rfl
      have hO := g4 rfl
      obtain ⟨f, f1, f2, f3⟩ := free_eq m hS hK
      obtain ⟨s, s1, s2, s3⟩ := sent_eq m (by have := hS.n; omega) _ (hS.may hK) (hS.check hK)
      have hn : ∀ n, n ∈ (giveM m).Nodes → n.L.length ≤ bigN ∧ n.Kids.length ≤ bigN := fun n hn => ⟨(hS.nodes hK).l n hn, by have := (hS.nodes hK).kids n hn; unfold bigN; omega⟩
      have h1 := hS.a; have h2 := hS.t; have h3 := hS.n; have h4 := hS.b
      have e1 := treeSame_eq (giveM m) (giveM o) (by show m.Args.length ≤ _; unfold bigN; omega) (by show m.Temps.length ≤ _; unfold bigN; omega) (by simp [giveM]; unfold bigN; omega) (by show m.Body.length ≤ _; unfold bigN; omega) hn
      have e2 := refSame_eq m o (by unfold bigN; omega) (by unfold bigN; omega) (by unfold bigN; omega) (by unfold bigN; omega) (fun n hn => ⟨by have := (hS.ns n hn).l; unfold bigN; omega, by have := (hS.ns n hn).k; unfold bigN; omega⟩)
      have hinj : decide (giveM m = giveM o) = decide (m = o) := by
        by_cases e : m = o
        · subst e; simp
        · rw [decide_eq_false e, decide_eq_false]
          intro h
          exact e (giveM_inj h)
      have hsl : s.length ≤ bigN := by unfold bigN; omega
      rw [give_eq m hS.fits, give_eq o hO.fits]
      simp only [bindS, ifF]
      rw [hS.check hK, hS.may hK]
      simp only [bindS]
      rw [e1, e2, f1, f2, s1, s2]
      simp only [bindS]
      rw [hinj, textsL_eq f f (by unfold bigN; omega), textsL_eq s s hsl]
      cases okM m <;> cases decide (m = o) <;> simp [law_num]
end Go.Cq

