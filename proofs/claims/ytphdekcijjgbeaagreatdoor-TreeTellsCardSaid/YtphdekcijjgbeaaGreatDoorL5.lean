import Derived.Test.YtphdekcijjgbeaaGreatDoorL4
set_option linter.unusedSectionVars false
set_option linter.unusedVariables false
set_option linter.unusedSimpArgs false
set_option linter.unnecessarySimpa false
set_option maxRecDepth 100000
namespace Go.Cq
open Go Go.Av
def takesB (s : Str) (n : Int) : Bool := (arity s).2 && decide ((arity s).1 = n)
theorem sends_eq (s : Str) (n : Int) (hs : s.length ≤ bigN) : tree_sends s n = some (takesB s n) := by
 unfold tree_sends; rw [arity_eq s hs]; rfl
theorem takes_eq (s : Str) (n : Int) : ref14_takes s n = some (takesB s n) := by
 unfold ref14_takes; rw [arity09_eq s]; rfl
def noNames (n : tree_Node) : Bool := decide (n.N = 0) && decide (n.L = [])
def mayB (n : tree_Node) : Bool :=
 if n.K < 5 then (n.S == []) && (noNames n && decide (n.Kids = []))
 else if n.K = 5 then noNames n && (decide (n.Kids = []) && numOk n.S)
 else if n.K = 6 then noNames n && (decide (n.Kids = []) && decide (n.S.length ≤ 1024))
 else if n.K = 7 then noNames n && (decide (n.Kids = []) && (varOk n.S || nameOk 65 90 n.S))
 else if n.K = 8 then noNames n && (varOk n.S && decide (n.Kids.length = 1))
 else if n.K = 9 then noNames n && takesB n.S ((n.Kids.length : Int) - 1)
 else if n.K = 10 then (n.S == []) && (noNames n && (decide (3 ≤ n.Kids.length) && decide (n.Kids.length ≤ 17)))
 else if n.K = 11 then noNames n && takesB n.S (n.Kids.length : Int)
 else if n.K = 12 then (n.S == []) && (decide (0 ≤ n.N) && (decide (n.N ≤ 8) && (decide (n.N ≤ (n.L.length : Int)) && (decide (n.L.length ≤ 16) && unB n.L 0 n.L))))
 else if n.K = 13 then (n.S == []) && (noNames n && decide (n.Kids.length = 1))
 else false
theorem len0 {α : Type} (l : List α) : decide ((l.length : Int) = 0) = decide (l = []) := by cases l <;> simp <;> omega
theorem bare_eq (n : tree_Node) (t a k : Bool) : tree_Node_bare n t a k = some ((t || (n.S == [])) && ((a || (decide (n.N = 0) && decide (n.L = []))) && (k || decide (n.Kids = [])))) := by
 unfold tree_Node_bare
 rw [len0, len0, Bool.and_assoc]
theorem lenI {α : Type} (l : List α) (k : Nat) : decide ((l.length : Int) = (k : Int)) = decide (l.length = k) := by
 by_cases h : l.length = k
 ·rw [decide_eq_true h, decide_eq_true (by omega)]
 ·rw [decide_eq_false h, decide_eq_false (by omega)]
theorem may_eq (n : tree_Node) (h0 : 0 ≤ n.K) (hS : n.S.length ≤ 1000000) (hL : n.L.length ≤ bigN) (hk : n.Kids.length ≤ bigN) : tree_Node_may n = some (mayB n) := by
  have e1 : ck ((n.Kids.length : Int) - 1) = some ((n.Kids.length : Int) - 1) := ck_of (by omega) (by unfold bigN at hk; omega)
  have hSb : n.S.length ≤ bigN := by unfold bigN; omega
  have hng := named_great n.S
  unfold greatC at hng
  have hk1 := lenI n.Kids 1
  rw [show ((1 : Nat) : Int) = 1 from rfl] at hk1
  have hle : ∀ (a b : Nat), decide ((a : Int) ≤ (b : Int)) = decide (a ≤ b) := fun a b => by
    by_cases h : a ≤ b
    · rw [decide_eq_true h, decide_eq_true (by omega)]
    · rw [decide_eq_false h, decide_eq_false (by omega)]
  have h17 : decide ((n.Kids.length : Int) ≤ 17) = decide (n.Kids.length ≤ 17) := hle _ 17
  have h1024 : decide ((n.S.length : Int) ≤ 1024) = decide (n.S.length ≤ 1024) := hle _ 1024
  have h16 : decide ((n.L.length : Int) ≤ 16) = decide (n.L.length ≤ 16) := hle _ 16
  have h3 : decide ((2 : Int) < (n.Kids.length : Int)) = decide (3 ≤ n.Kids.length) := by
    by_cases h : 3 ≤ n.Kids.length
    · rw [decide_eq_true h, decide_eq_true (by omega)]
    · rw [decide_eq_false h, decide_eq_false (by omega)]
  have hcases : n.K = 0 ∨ n.K = 1 ∨ n.K = 2 ∨ n.K = 3 ∨ n.K = 4 ∨ n.K = 5 ∨ n.K = 6 ∨ n.K = 7 ∨ n.K = 8 ∨ n.K = 9 ∨ n.K = 10 ∨ n.K = 11 ∨ n.K = 12 ∨ n.K = 13 ∨ 13 < n.K := by omega
  unfold tree_Node_may mayB noNames
  simp only [bare_eq, bindS, number_eq n.S hS, variable_eq, hng, e1, sends_eq n.S _ hSb, unlike_eq n.L hL, hk1, h17, h1024, h16, h3, Bool.false_or, Bool.true_or, Bool.true_and]
  rcases hcases with h | h | h | h | h | h | h | h | h | h | h | h | h | h | h
  all_goals first
    | (simp only [h]
       cases (n.S == ([] : Str)) <;> cases decide (n.N = 0) <;> cases decide (n.L = []) <;> cases decide (n.Kids = []) <;> cases decide (n.Kids.length = 1) <;> cases varOk n.S <;> rfl)
    | (simp only [h]
       cases (n.S == ([] : Str)) <;> cases decide (n.N = 0) <;> cases decide (n.L = []) <;> cases decide (3 ≤ n.Kids.length) <;> cases decide (n.Kids.length ≤ 17) <;> rfl)
    | (simp only [h]
       cases (n.S == ([] : Str)) <;> cases decide (0 ≤ n.N) <;> cases decide (n.N ≤ 8) <;> cases decide (n.N ≤ (n.L.length : Int)) <;> cases decide (n.L.length ≤ 16) <;> rfl)
    | (simp only [show ¬ n.K = 0 by omega, show ¬ n.K = 1 by omega, show ¬ n.K = 2 by omega, show ¬ n.K = 3 by omega, show ¬ n.K = 4 by omega, show ¬ n.K = 5 by omega, show ¬ n.K = 6 by omega, show ¬ n.K = 7 by omega, show ¬ n.K = 8 by omega, show ¬ n.K = 9 by omega, show ¬ n.K = 10 by omega, show ¬ n.K = 11 by omega, show ¬ n.K = 12 by omega, show ¬ n.K = 13 by omega, show ¬ n.K < 5 by omega]
       rfl)
end Go.Cq

set_option maxRecDepth 100000
namespace Go.Cq
open Go Go.Av
def giveNode (n : ref14_Node) : tree_Node := tree_Node.mk n.K n.S n.N n.L n.Kids
theorem shape_eq (n : ref14_Node) (h0 : 0 ≤ n.K) (hS : n.S.length ≤ 1000000) (hL : n.L.length ≤ bigN) (hk : n.Kids.length ≤ bigN) : ref14_shape n = some (mayB (giveNode n)) := by
  have e1 : ck ((n.Kids.length : Int) - 1) = some ((n.Kids.length : Int) - 1) := ck_of (by omega) (by unfold bigN at hk; omega)
  have hng : ref10_Name n.S 65 90 = some (nameOk 65 90 n.S) := name10_eq n.S 65 90
  have hvl : ref14_Vars n.L 16 = some (decide (n.L.length ≤ 16) && unB n.L 0 n.L) := vars_eq n.L 16 hL
  have hk1 := lenI n.Kids 1
  rw [show ((1 : Nat) : Int) = 1 from rfl] at hk1
  have hle : ∀ (a b : Nat), decide ((a : Int) ≤ (b : Int)) = decide (a ≤ b) := fun a b => by
    by_cases h : a ≤ b
    · rw [decide_eq_true h, decide_eq_true (by omega)]
    · rw [decide_eq_false h, decide_eq_false (by omega)]
  have h17 : decide ((n.Kids.length : Int) ≤ 17) = decide (n.Kids.length ≤ 17) := hle _ 17
  have h1024 : decide ((n.S.length : Int) ≤ 1024) = decide (n.S.length ≤ 1024) := hle _ 1024
  have h3 : decide ((3 : Int) ≤ (n.Kids.length : Int)) = decide (3 ≤ n.Kids.length) := hle 3 _
  have hp : ∀ {α : Type} (l : List α), decide ((0 : Int) < (l.length : Int)) = !decide (l = []) := fun l => by
    cases l with
    | nil => rfl
    | cons x l => rw [decide_eq_true (by simp), decide_eq_false (by simp)]; rfl
  have hcases : n.K = 0 ∨ n.K = 1 ∨ n.K = 2 ∨ n.K = 3 ∨ n.K = 4 ∨ n.K = 5 ∨ n.K = 6 ∨ n.K = 7 ∨ n.K = 8 ∨ n.K = 9 ∨ n.K = 10 ∨ n.K = 11 ∨ n.K = 12 ∨ n.K = 13 ∨ 13 < n.K := by omega
  unfold ref14_shape mayB noNames giveNode
  simp only [letK_e, bindS, parse03_eq n.S hS, var10_eq, hng, e1, takes_eq, hvl, hk1, h17, h1024, h3, hp]
  rcases hcases with h | h | h | h | h | h | h | h | h | h | h | h | h | h | h
  all_goals first
    | (simp only [h]
       cases (n.S == ([] : Str)) <;> cases decide (n.N = 0) <;> cases decide (n.L = []) <;> cases decide (n.Kids = []) <;> cases decide (n.Kids.length = 1) <;> cases varOk n.S <;> rfl)
    | (simp only [h]
       cases (n.S == ([] : Str)) <;> cases decide (n.N = 0) <;> cases decide (n.L = []) <;> cases decide (3 ≤ n.Kids.length) <;> cases decide (n.Kids.length ≤ 17) <;> rfl)
    | (simp only [h]
       cases (n.S == ([] : Str)) <;> cases decide (0 ≤ n.N) <;> cases decide (n.N ≤ 8) <;> cases decide (n.N ≤ (n.L.length : Int)) <;> cases decide (n.L.length ≤ 16) <;> rfl)
    | (simp only [show ¬ n.K = 0 by omega, show ¬ n.K = 1 by omega, show ¬ n.K = 2 by omega, show ¬ n.K = 3 by omega, show ¬ n.K = 4 by omega, show ¬ n.K = 5 by omega, show ¬ n.K = 6 by omega, show ¬ n.K = 7 by omega, show ¬ n.K = 8 by omega, show ¬ n.K = 9 by omega, show ¬ n.K = 10 by omega, show ¬ n.K = 11 by omega, show ¬ n.K = 12 by omega, show ¬ n.K = 13 by omega, show ¬ n.K < 5 by omega]
       rw [decide_eq_true h, Bool.or_true, if_pos rfl]
       rfl)
end Go.Cq

set_option maxRecDepth 100000
namespace Go.Cq
open Go Go.Av
def standsB (k : Int) (p : Bool × Bool × Bool) : Bool := if k = 1 then p.1 else if k = 11 then p.2.1 else if k = 13 then p.2.2 else !p.2.1
theorem stands_eq (k : Int) (s m u : Bool) : tree_stands k s m u = some (standsB k (s, m, u)) := by
 unfold tree_stands standsB
 by_cases h1 : k = 1
 ·rw [decide_eq_true h1, if_pos rfl, if_pos h1]
 by_cases h2 : k = 11
 ·rw [decide_eq_false h1, ifF, decide_eq_true h2, if_pos rfl, if_neg h1, if_pos h2]
 by_cases h3 : k = 13
 ·rw [decide_eq_false h1, ifF, decide_eq_false h2, ifF, decide_eq_true h3, if_pos rfl, if_neg h1, if_neg h2, if_pos h3]
 ·rw [decide_eq_false h1, ifF, decide_eq_false h2, ifF, decide_eq_false h3, ifF, if_neg h1, if_neg h2, if_neg h3]
def placesB (n : tree_Node) (i : Nat) : Bool × Bool × Bool := if n.K = 9 then (decide (i = 0), false, false) else if n.K = 10 then (decide (i = 0), decide (0 < i), false) else if n.K = 12 then (false, false, decide (i + 1 = n.Kids.length)) else (false, false, false)
theorem places_eq (n : tree_Node) (i : Nat) (hk : n.Kids.length ≤ bigN) : tree_Node_places n (i : Int) = some (placesB n i) := by
 unfold tree_Node_places placesB
 have d0 : decide ((i : Int) = 0) = decide (i = 0) := by
  by_cases h : i = 0
  ·rw [decide_eq_true h, decide_eq_true (by omega)]
  ·rw [decide_eq_false h, decide_eq_false (by omega)]
 have d1 : decide ((0 : Int) < (i : Int)) = decide (0 < i) := by
  by_cases h : 0 < i
  ·rw [decide_eq_true h, decide_eq_true (by omega)]
  ·rw [decide_eq_false h, decide_eq_false (by omega)]
 have d2 : decide ((i : Int) = (n.Kids.length : Int) - 1) = decide (i + 1 = n.Kids.length) := by
  by_cases h : i + 1 = n.Kids.length
  ·rw [decide_eq_true h, decide_eq_true (by omega)]
  ·rw [decide_eq_false h, decide_eq_false (by omega)]
 by_cases h1 : n.K = 9
 ·rw [decide_eq_true h1, if_pos rfl, if_pos h1, d0]
 by_cases h2 : n.K = 10
 ·rw [decide_eq_false h1, ifF, decide_eq_true h2, if_pos rfl, if_neg h1, if_pos h2, d0, d1]
 by_cases h3 : n.K = 12
 ·rw [decide_eq_false h1, ifF, decide_eq_false h2, ifF, decide_eq_true h3, if_pos rfl, if_neg h1, if_neg h2, if_pos h3, ck_of (by omega) (by unfold bigN at hk; omega), bindS, d2]
 ·rw [decide_eq_false h1, ifF, decide_eq_false h2, ifF, decide_eq_false h3, ifF, if_neg h1, if_neg h2, if_neg h3]
mutual
inductive Tr (N : List tree_Node) : Nat → Nat → Nat → Prop
 | mk {lo i h : Nat} {n : tree_Node} (hn : N[i]? = some n) (hm : mayB n = true) (hf : Fo N (placesB n) 0 lo i n.Kids h) : Tr N lo i (h+1)
inductive Fo (N : List tree_Node) : (Nat → Bool × Bool × Bool) → Nat → Nat → Nat → List Int → Nat → Prop
 | nil {P : Nat → Bool × Bool × Bool} {k lo : Nat} : Fo N P k lo lo [] 0
 | cons {P : Nat → Bool × Bool × Bool} {k lo hi j h1 h2 : Nat} {r : List Int} {nj : tree_Node} (hj : N[j]? = some nj) (hs : standsB nj.K (P k) = true) (ht : Tr N lo j h1) (hr : Fo N P (k+1) (j+1) hi r h2) : Fo N P k lo hi ((j : Int) :: r) (max h1 h2)
end
mutual
theorem Tr.le {N : List tree_Node} {lo i h : Nat} : Tr N lo i h → lo ≤ i
 | .mk _ _ hf => (Fo.le hf).1
theorem Fo.le {N : List tree_Node} {P : Nat → Bool × Bool × Bool} {k lo hi h : Nat} {l : List Int} : Fo N P k lo hi l h → lo ≤ hi ∧ ∀ x, x ∈ l → x < (hi : Int)
 | .nil => ⟨Nat.le_refl _, fun x hx => by simp at hx⟩
 | .cons hj hs ht hr => by
  have a := Tr.le ht
  have b := Fo.le hr
  refine ⟨by omega, fun x hx => ?_⟩
  rcases List.mem_cons.1 hx with rfl | hx
  ·omega
  ·exact b.2 x hx
end
theorem Fo.inv {N : List tree_Node} {P : Nat → Bool × Bool × Bool} {k lo hi h : Nat} {j : Int} {r : List Int} (hf : Fo N P k lo hi (j :: r) h) : ∃ (m h1 h2 : Nat) (nj : tree_Node), j = (m : Int) ∧ N[m]? = some nj ∧ standsB nj.K (P k) = true ∧ Tr N lo m h1 ∧ Fo N P (k+1) (m+1) hi r h2 ∧ h = max h1 h2 := by
 cases hf with
 | cons hj hs ht hr => exact ⟨_, _, _, _, rfl, hj, hs, ht, hr, rfl⟩
structure NodesOk (N : List tree_Node) : Prop where
 len : N.length ≤ 100000
 k0 : ∀ n, n ∈ N → 0 ≤ n.K
 s : ∀ n, n ∈ N → n.S.length ≤ 1000000
 l : ∀ n, n ∈ N → n.L.length ≤ bigN
 kids : ∀ n, n ∈ N → n.Kids.length ≤ 100000
def ComeOk (N : List tree_Node) (lo : Nat) (i : Int) (above : Nat) (p : Bool × Bool × Bool) : Prop := ∃ (m : Nat) (n : tree_Node) (h : Nat), i = (m : Int) ∧ N[m]? = some n ∧ standsB n.K p = true ∧ Tr N lo m h ∧ above + h ≤ 64
def ComeSays (N : List tree_Node) (lo : Nat) (i : Int) (above : Nat) (p : Bool × Bool × Bool) (o : Option (Bool × tree_walk)) : Prop :=
 ∃ (b : Bool) (nx : Int), o = some (b, tree_walk.mk N nx) ∧ (b = true ↔ ComeOk N lo i above p) ∧ (b = true → nx = i + 1)
theorem come_l1 {N : List tree_Node} (hN : NodesOk N) {n : tree_Node} (hn : n ∈ N) (i above : Nat) (hi : i < N.length) (rec : R_tree_walk_come) (ha : above < 64)
    (hrec : ∀ (lo : Nat) (j : Int) (p : Bool × Bool × Bool), lo ≤ N.length → ComeSays N lo j (above+1) p (rec.tree_walk_come (tree_walk.mk N (lo : Int)) j ((above + 1 : Nat) : Int) p.1 p.2.1 p.2.2)) :
    ∀ (r : List Int) (k q lo : Nat), n.Kids.drop k = r → k ≤ n.Kids.length → r.length < q → lo ≤ N.length →
      ∃ (b : Bool) (nx : Int), tree_walk_come_l1 (i : Int) (above : Int) rec n (fun v46 => (ck (v46.next + 1)).bind fun v48 => (ck (v48 - 1)).bind fun v50 => some ((decide ((i : Int) = v50)), (tree_walk.mk v46.l v48))) q (k : Int) (tree_walk.mk N (lo : Int)) = some (b, tree_walk.mk N nx) ∧
        (b = true ↔ ∃ h, Fo N (placesB n) k lo i r h ∧ above + 1 + h ≤ 64) ∧ (b = true → nx = (i : Int) + 1) := by
  intro r
  induction r with
  | nil =>
    intro k q lo hk hkl hq hlo
    obtain ⟨q, rfl⟩ : ∃ q', q = q' + 1 := ⟨q - 1, by simp at hq; omega⟩
    have : k = n.Kids.length := by have : n.Kids.length ≤ k := by simpa using hk
                                   omega
    subst this
    have hl := hN.len
    simp only [tree_walk_come_l1]
    rw [ge_len, ifF, cks (by omega), bindS, show (((lo + 1 : Nat) : Int) - 1) = (lo : Int) by omega, ckn (by omega), bindS]
    refine ⟨_, _, rfl, ?_, ?_⟩
    · rw [decide_eq_true_eq]
      constructor
      · intro e
        have : lo = i := by omega
        subst this
        exact ⟨0, .nil, by omega⟩
      · rintro ⟨h, hf, _⟩
        cases hf
        rfl
    · intro e
      have := of_decide_eq_true e
      omega
  | cons j r ih =>
    intro k q lo hk hkl hq hlo
    obtain ⟨e1, e2, e3⟩ := getDrop hk
    obtain ⟨q, rfl⟩ : ∃ q', q = q' + 1 := ⟨q - 1, by simp at hq; omega⟩
    have hq' : r.length < q := by simp at hq; omega
    have hkn := hN.kids n hn
    simp only [tree_walk_come_l1]
    rw [lt_len e3, if_pos rfl, lAt_nat e1, bindS, places_eq n k (by unfold bigN; omega), bindS]
    by_cases hij : (i : Int) ≤ j
    · rw [decide_eq_true hij, if_pos rfl, bindS, if_pos rfl]
      refine ⟨false, _, rfl, ?_, fun h => by cases h⟩
      constructor
      · intro h; cases h
      · rintro ⟨h, hf, _⟩
        exfalso
        have := hf.le.2 j (by simp)
        omega
    · rw [decide_eq_false hij, ifF, cks (by omega), bindS]
      obtain ⟨b, nx, f1, f2, f3⟩ := hrec lo j (placesB n k) hlo
      rw [f1, bindS, bindS]
      cases b with
      | false =>
        rw [Bool.not_false, if_pos rfl]
        refine ⟨false, _, rfl, ?_, fun h => by cases h⟩
        constructor
        · intro h; cases h
        · rintro ⟨h, hf, hh⟩
          exfalso
          cases hf with
          | cons hj hs ht hr =>
            rename_i m h1 h2 nj
            have := f2.2 ⟨m, nj, h1, rfl, hj, hs, ht, by omega⟩
            cases this
      | true =>
        obtain ⟨m, nj, h1, rfl, hj, hs, ht, hh⟩ := f2.1 rfl
        have hnx := f3 rfl
        subst hnx
        have hml := (List.getElem?_eq_some_iff.1 hj).1
        rw [Bool.not_true, ifF, cks (by omega), bindS]
        obtain ⟨b, nx, g1, g2, g3⟩ := ih (k+1) q (m+1) e2 (by omega) hq' (by omega)
        refine ⟨b, nx, g1, ?_, g3⟩
        rw [g2]
        constructor
        · rintro ⟨h2, hf, hh2⟩
          exact ⟨max h1 h2, .cons hj hs ht hf, by omega⟩
        · rintro ⟨h, hf, hh2⟩
          obtain ⟨m', a1, a2, nj', b1, b2, b3, b4, b5, b6⟩ := hf.inv
          obtain rfl : m' = m := by omega
          exact ⟨a2, b5, by omega⟩
theorem come_says {N : List tree_Node} (hN : NodesOk N) : ∀ (q lo above : Nat) (i : Int) (p : Bool × Bool × Bool), 66 ≤ q + above → lo ≤ N.length → 0 < q → ComeSays N lo i above p ((R_tree_walk_come_n q).tree_walk_come (tree_walk.mk N (lo : Int)) i (above : Int) p.1 p.2.1 p.2.2) := by
 intro q
 induction q with
 | zero => intro lo above i p h1 h2 h3; omega
 | succ q ih =>
  intro lo above i p h1 h2 h3
  have hl := hN.len
  show ComeSays N lo i above p (tree_walk_come_b (R_tree_walk_come_n q) (tree_walk.mk N (lo : Int)) i (above : Int) p.1 p.2.1 p.2.2)
  unfold tree_walk_come_b
  have hbad : ¬ ComeOk N lo i above p → ∀ nx : Int, ComeSays N lo i above p (some (false, tree_walk.mk N nx)) := fun h nx => ⟨false, nx, rfl, ⟨fun e => (by cases e), fun e => absurd e h⟩, fun e => (by cases e)⟩
  simp only
  by_cases c1 : i < (lo : Int)
  ·rw [decide_eq_true c1, if_pos rfl, bindS, if_pos rfl]
   refine hbad ?_ _
   rintro ⟨m, n, h, rfl, hm, hs, ht, hh⟩
   have := ht.le
   omega
  by_cases c2 : (N.length : Int) ≤ i
  ·rw [decide_eq_false c1, ifF, decide_eq_true c2, if_pos rfl, bindS, if_pos rfl]
   refine hbad ?_ _
   rintro ⟨m, n, h, rfl, hm, hs, ht, hh⟩
   have := (List.getElem?_eq_some_iff.1 hm).1
   omega
  obtain ⟨m, rfl⟩ : ∃ m : Nat, i = (m : Int) := ⟨i.toNat, by omega⟩
  have hml : m < N.length := by omega
  obtain ⟨n, hn⟩ : ∃ n, N[m]? = some n := ⟨_, List.getElem?_eq_getElem hml⟩
  have hnN : n ∈ N := List.mem_of_getElem? hn
  by_cases c3 : (64 : Int) ≤ (above : Int)
  ·rw [decide_eq_false c1, ifF, decide_eq_false c2, ifF, decide_eq_true c3, if_pos rfl, bindS, if_pos rfl]
   refine hbad ?_ _
   rintro ⟨m', n', h, e, hm, hs, ht, hh⟩
   cases ht with
   | mk a b c => omega
  rw [decide_eq_false c1, ifF, decide_eq_false c2, ifF, decide_eq_false c3, ifF, lAt_nat hn, bindS, may_eq n (hN.k0 n hnN) (hN.s n hnN) (hN.l n hnN) (by have := hN.kids n hnN; unfold bigN; omega), bindS, stands_eq, bindS, bindS]
  cases c4 : mayB n with
  | false =>
   rw [Bool.not_false, if_pos rfl, bindS, if_pos rfl]
   refine hbad ?_ _
   rintro ⟨m', n', h, e, hm, hs, ht, hh⟩
   obtain rfl : m = m' := by omega
   cases ht with
   | mk a b c => rw [hn] at a; cases a; rw [c4] at b; cases b
  | true =>
   rw [Bool.not_true, ifF]
   cases c5 : standsB n.K (p.1, p.2.1, p.2.2) with
   | false =>
    rw [Bool.not_false, bindS, if_pos rfl]
    refine hbad ?_ _
    rintro ⟨m', n', h, e, hm, hs, ht, hh⟩
    obtain rfl : m = m' := by omega
    rw [hn] at hm; cases hm
    have : standsB n.K p = false := c5
    rw [this] at hs; cases hs
   | true =>
    rw [Bool.not_true, bindS, ifF, letK_e]
    obtain ⟨b, nx, g1, g2, g3⟩ := come_l1 hN hnN m above hml (R_tree_walk_come_n q) (by omega) (fun lo' j p' hlo' => ih lo' (above+1) j p' (by omega) hlo' (by omega)) n.Kids 0 fuel lo rfl (Nat.zero_le _) (by have := hN.kids n hnN; unfold fuel; omega) h2
    refine ⟨b, nx, g1, ?_, g3⟩
    rw [g2]
    constructor
    ·rintro ⟨h, hf, hh⟩
     exact ⟨m, n, h+1, rfl, hn, c5, .mk hn c4 hf, by omega⟩
    ·rintro ⟨m', n', h, e, hm, hs, ht, hh⟩
     obtain rfl : m = m' := by omega
     cases ht with
     | mk a b c => rw [hn] at a; cases a; exact ⟨_, c, by omega⟩
end Go.Cq

set_option maxRecDepth 100000
namespace Go.Cq
open Go Go.Av
def bodyP (len : Nat) (k : Nat) : Bool × Bool × Bool := (false, false, decide (k + 1 = len))
theorem check_l1 (m : tree_Method) (hN : NodesOk m.Nodes) (hb : m.Body.length ≤ 100000) : ∀ (r : List Int) (k q lo : Nat), m.Body.drop k = r → k ≤ m.Body.length → r.length < q → lo ≤ m.Nodes.length →
    ∃ b : Bool, tree_Check_l1 m (fun v31 => if (!decide (v31.next = (m.Nodes.length : Int))) then some (some 1) else some none) q (k : Int) (tree_walk.mk m.Nodes (lo : Int)) = some (if b = true then none else some 1) ∧
      (b = true ↔ ∃ h, Fo m.Nodes (bodyP m.Body.length) k lo m.Nodes.length r h ∧ h ≤ 64) := by
  intro r
  induction r with
  | nil =>
    intro k q lo hk hkl hq hlo
    obtain ⟨q, rfl⟩ : ∃ q', q = q' + 1 := ⟨q - 1, by simp at hq; omega⟩
    have : k = m.Body.length := by have : m.Body.length ≤ k := by simpa using hk
                                   omega
    subst this
    simp only [tree_Check_l1]
    rw [ge_len, ifF]
    refine ⟨decide (lo = m.Nodes.length), ?_, ?_⟩
    · by_cases h : lo = m.Nodes.length
      · rw [decide_eq_true h, decide_eq_true (by omega), Bool.not_true, ifF, if_pos rfl]
      · rw [decide_eq_false h, decide_eq_false (by omega), Bool.not_false, if_pos rfl, ifF]
    · rw [decide_eq_true_eq]
      constructor
      · rintro rfl
        exact ⟨0, .nil, by omega⟩
      · rintro ⟨h, hf, _⟩
        generalize m.Nodes.length = e at hf
        cases hf
        rfl
  | cons j r ih =>
    intro k q lo hk hkl hq hlo
    obtain ⟨e1, e2, e3⟩ := getDrop hk
    obtain ⟨q, rfl⟩ : ∃ q', q = q' + 1 := ⟨q - 1, by simp at hq; omega⟩
    have hq' : r.length < q := by simp at hq; omega
    have hd : decide ((k : Int) = (m.Body.length : Int) - 1) = decide (k + 1 = m.Body.length) := by
      by_cases h : k + 1 = m.Body.length
      · rw [decide_eq_true h, decide_eq_true (by omega)]
      · rw [decide_eq_false h, decide_eq_false (by omega)]
    simp only [tree_Check_l1]
    rw [lt_len e3, if_pos rfl, lAt_nat e1, bindS, ck_of (by omega) (by omega), bindS, hd]
    obtain ⟨b, nx, f1, f2, f3⟩ := come_says hN fuel lo 0 j (bodyP m.Body.length k) (by unfold fuel; omega) hlo (by unfold fuel; omega)
    have f1' : tree_walk_come (tree_walk.mk m.Nodes (lo : Int)) j 0 false false (decide (k + 1 = m.Body.length)) = some (b, tree_walk.mk m.Nodes nx) := f1
    rw [f1', bindS]
    cases b with
    | false =>
      refine ⟨false, ?_, ?_⟩
      · rw [Bool.not_false, if_pos rfl, ifF]
      constructor
      · intro h; cases h
      · rintro ⟨h, hf, hh⟩
        obtain ⟨m', a1, a2, nj', b1, b2, b3, b4, b5, b6⟩ := hf.inv
        have := f2.2 ⟨m', nj', a1, b1, b2, b3, b4, by omega⟩
        cases this
    | true =>
      obtain ⟨m1, nj, h1, rfl, hj, hs, ht, hh⟩ := f2.1 rfl
      have hnx := f3 rfl
      subst hnx
      have hml := (List.getElem?_eq_some_iff.1 hj).1
      rw [Bool.not_true, ifF, cks (by omega), bindS]
      obtain ⟨b, g1, g2⟩ := ih (k+1) q (m1+1) e2 (by omega) hq' (by omega)
      refine ⟨b, g1, ?_⟩
      rw [g2]
      constructor
      · rintro ⟨h2, hf, hh2⟩
        exact ⟨max h1 h2, .cons hj hs ht hf, by omega⟩
      · rintro ⟨h, hf, hh2⟩
        obtain ⟨m', a1, a2, nj', b1, b2, b3, b4, b5, b6⟩ := hf.inv
        obtain rfl : m' = m1 := by omega
        exact ⟨a2, b5, by omega⟩
def TreesOk (m : tree_Method) : Prop := ∃ h, Fo m.Nodes (bodyP m.Body.length) 0 0 m.Nodes.length m.Body h ∧ h ≤ 64
def headOk (m : tree_Method) : Bool := takesB m.Sel (m.Args.length : Int) && (decide ((m.Args ++ m.Temps).length ≤ 16) && (unB (m.Args ++ m.Temps) 0 (m.Args ++ m.Temps) && (decide (m.Nodes.length ≤ 500) && decide (m.Body.length ≤ 500))))
theorem check_eq (m : tree_Method) (hN : NodesOk m.Nodes) (hb : m.Body.length ≤ 100000) (hs : m.Sel.length ≤ 1000000) (ha : m.Args.length ≤ 100000) (ht : m.Temps.length ≤ 100000) :
    ∃ b : Bool, tree_Check m = some (if b = true then none else some 1) ∧ (b = true ↔ headOk m = true ∧ TreesOk m) := by
  unfold tree_Check
  rw [concat_eq _ _ (by omega), bindS, sends_eq _ _ (by unfold bigN; omega), bindS]
  have hal : (m.Args ++ m.Temps).length ≤ bigN := by simp; unfold bigN; omega
  rw [unlike_eq _ hal]
  have hle : ∀ (a b : Nat), decide ((a : Int) < (b : Int)) = !decide (b ≤ a) := fun a b => by
    by_cases h : b ≤ a
    · rw [decide_eq_true h, decide_eq_false (by omega)]; rfl
    · rw [decide_eq_false h, decide_eq_true (by omega)]; rfl
  have h1 : decide ((16 : Int) < ((m.Args ++ m.Temps).length : Int)) = !decide ((m.Args ++ m.Temps).length ≤ 16) := hle 16 _
  have h2 : decide ((500 : Int) < (m.Nodes.length : Int)) = !decide (m.Nodes.length ≤ 500) := hle 500 _
  have h3 : decide ((500 : Int) < (m.Body.length : Int)) = !decide (m.Body.length ≤ 500) := hle 500 _
  have hh : (if (!takesB m.Sel (m.Args.length : Int)) then some true else if (decide ((16 : Int) < ((m.Args ++ m.Temps).length : Int))) then some true else (some (unB (m.Args ++ m.Temps) 0 (m.Args ++ m.Temps))).bind fun v7 => if (!v7) then some true else if (decide ((500 : Int) < (m.Nodes.length : Int))) then some true else some (decide ((500 : Int) < (m.Body.length : Int)))) = some (!headOk m) := by
    rw [h1, h2, h3, bindS]
    unfold headOk
    cases takesB m.Sel (m.Args.length : Int) <;> cases decide ((m.Args ++ m.Temps).length ≤ 16) <;> cases unB (m.Args ++ m.Temps) 0 (m.Args ++ m.Temps) <;> cases decide (m.Nodes.length ≤ 500) <;> cases decide (m.Body.length ≤ 500) <;> rfl
  rw [hh, bindS]
  cases hk : headOk m with
  | false => exact ⟨false, rfl, by simp⟩
  | true =>
    rw [Bool.not_true, ifF, letK_e]
    obtain ⟨b, g1, g2⟩ := check_l1 m hN hb m.Body 0 fuel 0 rfl (Nat.zero_le _) (by unfold fuel; omega) (Nat.zero_le _)
    exact ⟨b, g1, by rw [g2]; exact ⟨fun h => ⟨rfl, h⟩, fun h => h.2⟩⟩
end Go.Cq

