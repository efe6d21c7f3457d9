import Derived.Test.YtphdekcijjgbeaaGreatDoorL8
set_option linter.unusedSectionVars false
set_option linter.unusedVariables false
set_option linter.unusedSimpArgs false
set_option linter.unnecessarySimpa false
set_option maxRecDepth 100000
namespace Go.Cq
open Go Go.Av
theorem lessS : ∀ (x y : Str), Op.bytesLess x y = decide (x < y)
 | [], [] => by simp [Op.bytesLess]
 | a :: x, [] => by simp [Op.bytesLess]
 | [], b :: y => by simp [Op.bytesLess]
 | a :: x, b :: y => by
  simp [Op.bytesLess, List.cons_lt_cons_iff, lessS x y]
  by_cases h : a = b
  ·subst h; simp
  ·simp [h]
def Asc (l : List Str) : Prop := l.Pairwise (· < ·)
theorem ltS_irr (x : Str) : ¬ x < x := List.lt_irrefl x
theorem ltS_trans {x y z : Str} (h1 : x < y) (h2 : y < z) : x < z := List.lt_trans h1 h2
theorem ltS_of {x y : Str} (h1 : x ≤ y) (h2 : x ≠ y) : x < y := by
 rcases List.le_iff_lt_or_eq.1 h1 with h | h
 ·exact h
 ·exact absurd h h2
theorem asc_ext : ∀ {l k : List Str}, Asc l → Asc k → (∀ x, x ∈ l ↔ x ∈ k) → l = k
 | [], [], _, _, _ => rfl
 | [], y :: k, _, _, h => by have := (h y).2 (by simp); simp at this
 | x :: l, [], _, _, h => by have := (h x).1 (by simp); simp at this
 | x :: l, y :: k, h1, h2, h => by
  obtain ⟨a1, a2⟩ := List.pairwise_cons.1 h1
  obtain ⟨b1, b2⟩ := List.pairwise_cons.1 h2
  have e : x = y := by
   rcases List.mem_cons.1 ((h x).1 (by simp)) with e | e
   ·exact e
   ·rcases List.mem_cons.1 ((h y).2 (by simp)) with e' | e'
    ·exact e'.symm
    ·exact absurd (ltS_trans (b1 x e) (a1 y e')) (ltS_irr _)
  subst e
  congr 1
  refine asc_ext a2 b2 fun z => ?_
  constructor
  ·intro hz
   rcases List.mem_cons.1 ((h z).1 (by simp [hz])) with e | e
   ·subst e; exact absurd (a1 z hz) (ltS_irr _)
   ·exact e
  ·intro hz
   rcases List.mem_cons.1 ((h z).2 (by simp [hz])) with e | e
   ·subst e; exact absurd (b1 z hz) (ltS_irr _)
   ·exact e
theorem compact_up (d : List Str) (hd : d.Pairwise (· ≤ ·)) : ∀ m, m ≤ d.length → (Lib.compactUpTo d.toArray m).Pairwise (· < ·) ∧ (∀ x, x ∈ Lib.compactUpTo d.toArray m → ∃ j, j < m ∧ d[j]? = some x) ∧ ∀ j x, j < m → d[j]? = some x → x ∈ Lib.compactUpTo d.toArray m := by
 intro m
 induction m with
 | zero => intro _; exact ⟨by simp [Lib.compactUpTo], fun x hx => by simp [Lib.compactUpTo] at hx, fun j x hj => by omega⟩
 | succ m ih =>
  intro hm
  obtain ⟨h1, h2, h3⟩ := ih (by omega)
  have hml : m < d.length := by omega
  have hg : ∀ j, (hj : j < d.length) → d.toArray[j]! = d[j] := fun j hj => by rw [getElem!_pos d.toArray j (by simpa using hj)]; simp
  rw [Lib.compactUpTo_succ]
  have hle : ∀ j, (hj : j < m) → d[j]'(by omega) ≤ d[m] := fun j hj => (List.pairwise_iff_getElem.1 hd) j m (by omega) hml hj
  cases hk : Lib.keeps d.toArray m with
  | true =>
   rw [if_pos rfl, hg m hml]
   refine ⟨List.pairwise_append.2 ⟨h1, by simp, fun x hx y hy => ?_⟩, fun x hx => ?_, fun j x hj hx => ?_⟩
   ·simp at hy; subst hy
    obtain ⟨j, hj, e⟩ := h2 x hx
    obtain ⟨hj2, rfl⟩ := List.getElem?_eq_some_iff.1 e
    refine ltS_of (hle j hj) fun e2 => ?_
    have hkk : m = 0 ∨ d.toArray[m]! ≠ d.toArray[m-1]! := of_decide_eq_true hk
    rcases hkk with h | h
    ·omega
    ·rw [hg m hml, hg (m-1) (by omega)] at h
     rcases Nat.lt_or_ge j (m-1) with hjm | hjm
     ·have a1 := (List.pairwise_iff_getElem.1 hd) j (m-1) hj2 (by omega) hjm
      have a2 := hle (m-1) (by omega)
      rw [e2] at a1
      exact h (List.le_antisymm a1 a2)
     ·have : j = m - 1 := by omega
      subst this
      exact h e2.symm
   ·rcases List.mem_append.1 hx with hx | hx
    ·obtain ⟨j, hj, e⟩ := h2 x hx; exact ⟨j, by omega, e⟩
    ·simp at hx; subst hx; exact ⟨m, by omega, by simp [hml]⟩
   ·rcases Nat.lt_or_ge j m with hjm | hjm
    ·exact List.mem_append_left _ (h3 j x hjm hx)
    ·obtain rfl : j = m := by omega
     obtain ⟨_, rfl⟩ := List.getElem?_eq_some_iff.1 hx
     simp
  | false =>
   rw [ifF, List.append_nil]
   refine ⟨h1, fun x hx => by obtain ⟨j, hj, e⟩ := h2 x hx; exact ⟨j, by omega, e⟩, fun j x hj hx => ?_⟩
   rcases Nat.lt_or_ge j m with hjm | hjm
   ·exact h3 j x hjm hx
   ·obtain rfl : j = m := by omega
    have hkk : ¬ (j = 0 ∨ d.toArray[j]! ≠ d.toArray[j-1]!) := of_decide_eq_false hk
    have h0 : j ≠ 0 := fun e => hkk (.inl e)
    have he : d.toArray[j]! = d.toArray[j-1]! := Classical.byContradiction fun e => hkk (.inr e)
    rw [hg j hml, hg (j-1) (by omega)] at he
    refine h3 (j-1) x (by omega) ?_
    obtain ⟨_, rfl⟩ := List.getElem?_eq_some_iff.1 hx
    rw [he]; simp
theorem sorted_eq (l : List Str) : ∃ r, tree_sorted l = some r ∧ Asc r ∧ ∀ x, x ∈ r ↔ x ∈ l := by
 refine ⟨_, rfl, ?_⟩
 have hp : (l.mergeSort fun x y => decide (x ≤ y)).Pairwise (· ≤ ·) := by
  have := List.pairwise_mergeSort (le := fun (x y : Str) => decide (x ≤ y)) (fun a b c h1 h2 => by simp only [decide_eq_true_eq] at h1 h2 ⊢; exact List.le_trans h1 h2) (fun a b => by simp only [Bool.or_eq_true, decide_eq_true_eq]; exact List.le_total a b) l
  exact this.imp fun {a b} h => of_decide_eq_true h
 obtain ⟨h1, h2, h3⟩ := compact_up _ hp _ (Nat.le_refl _)
 refine ⟨h1, fun x => ⟨fun hx => ?_, fun hx => ?_⟩⟩
 ·obtain ⟨j, _, e⟩ := h2 x hx
  exact List.mem_mergeSort.1 (List.mem_of_getElem? e)
 ·obtain ⟨j, hj, e⟩ := List.getElem_of_mem (List.mem_mergeSort (le := fun (x y : Str) => decide (x ≤ y)) |>.2 hx)
  exact h3 j x hj (by rw [List.getElem?_eq_getElem hj, e])
theorem sorted_of (l r : List Str) (h1 : Asc r) (h2 : ∀ x, x ∈ l ↔ x ∈ r) : tree_sorted l = some r := by
 obtain ⟨r', e, a, b⟩ := sorted_eq l
 rw [e, asc_ext a h1 fun x => (b x).trans (h2 x)]
theorem in_l1 (l : List Str) (s : Str) (hl : l.length ≤ bigN) (K : Unit → Option Bool) : ∀ (r : List Str) (j q : Nat), l.drop j = r → j ≤ l.length → r.length < q → ref14_In_l1 l s K q (j : Int) = if s ∈ r then some true else K () := by
  intro r
  induction r with
  | nil =>
    intro j q h hj hq
    obtain ⟨q, rfl⟩ : ∃ q', q = q' + 1 := ⟨q - 1, by simp at hq; omega⟩
    have : j = l.length := by have : l.length ≤ j := by simpa using h
                              omega
    subst this
    simp only [ref14_In_l1]
    rw [ge_len, ifF, if_neg (by simp)]
  | cons x r ih =>
    intro j q h hj hq
    obtain ⟨e1, e2, e3⟩ := getDrop h
    obtain ⟨q, rfl⟩ : ∃ q', q = q' + 1 := ⟨q - 1, by simp at hq; omega⟩
    simp only [ref14_In_l1]
    rw [lt_len e3, if_pos rfl, lAt_nat e1, bindS]
    by_cases hx : x = s
    · subst hx; rw [show (x == x) = true by simp, if_pos rfl, if_pos (by simp)]
    · rw [show (x == s) = false by simpa using hx, ifF, ckj e3 hl, bindS, ih (j+1) q e2 (by omega) (by simp at hq; omega)]
      have : s ∈ x :: r ↔ s ∈ r := by simp [Ne.symm hx]
      simp only [this]
theorem in_eq (l : List Str) (s : Str) (hl : l.length ≤ bigN) : ref14_In l s = some (decide (s ∈ l)) := by
 unfold ref14_In
 rw [letK_e]
 have := in_l1 l s hl (fun _ => some false) l 0 fuel rfl (Nat.zero_le _) (lt_fuel hl)
 rw [show ((0 : Nat) : Int) = 0 from rfl] at this
 rw [this]
 by_cases h : s ∈ l
 ·rw [if_pos h, decide_eq_true h]
 ·rw [if_neg h, decide_eq_false h]
def insF (s : Str) : List Str → List Str
 | [] => [s]
 | x :: r => if s < x then s :: x :: r else x :: insF s r
theorem insF_len (s : Str) : ∀ l : List Str, (insF s l).length = l.length + 1
  | [] => rfl
  | x :: r => by unfold insF; split <;> simp [insF_len s r]
theorem insF_mem (s : Str) : ∀ (l : List Str) (x : Str), x ∈ insF s l ↔ x = s ∨ x ∈ l
 | [], x => by simp [insF]
 | y :: r, x => by
  unfold insF
  split
  ·simp
  ·rw [List.mem_cons, insF_mem s r x, List.mem_cons]
   constructor
   ·rintro (h | h | h)
    ·exact .inr (.inl h)
    ·exact .inl h
    ·exact .inr (.inr h)
   ·rintro (h | h | h)
    ·exact .inr (.inl h)
    ·exact .inl h
    ·exact .inr (.inr h)
theorem insF_asc (s : Str) : ∀ (l : List Str), Asc l → s ∉ l → Asc (insF s l)
 | [], _, _ => by simp [insF, Asc]
 | x :: r, h, hs => by
  obtain ⟨a1, a2⟩ := List.pairwise_cons.1 h
  unfold insF
  split
  ·rename_i hl
   refine List.pairwise_cons.2 ⟨fun y hy => ?_, h⟩
   rcases List.mem_cons.1 hy with rfl | hy
   ·exact hl
   ·exact ltS_trans hl (a1 y hy)
  ·rename_i hl
   refine List.pairwise_cons.2 ⟨fun y hy => ?_, insF_asc s r a2 (fun e => hs (by simp [e]))⟩
   rcases (insF_mem s r y).1 hy with rfl | hy
   ·exact ltS_of (List.not_lt.1 hl) (fun e => hs (by simp [e]))
   ·exact a1 y hy
theorem insert_l1 (l : List Str) (s : Str) (hl : l.length ≤ 100000) : ∀ (r : List Str) (j q : Nat) (acc : List Str) (put : Bool), l.drop j = r → j ≤ l.length → r.length < q → acc.length ≤ 2 * j + 1 →
    (ref14_Insert_l1 l s q acc put (j : Int)).bind (fun y2 => (if (!y2.2) then (app 16 y2.1 ([s] : List Str)).bind fun v30 => some v30 else some y2.1).bind fun y26 => some y26) = some (acc ++ if put = true then r else insF s r) := by
  intro r
  induction r with
  | nil =>
    intro j q acc put h hj hq ha
    obtain ⟨q, rfl⟩ : ∃ q', q = q' + 1 := ⟨q - 1, by simp at hq; omega⟩
    have : j = l.length := by have : l.length ≤ j := by simpa using h
                              omega
    subst this
    simp only [ref14_Insert_l1]
    rw [ge_len, ifF, bindS]
    cases put with
    | true => dsimp only; rw [Bool.not_true, ifF, bindS, if_pos rfl, List.append_nil]
    | false => dsimp only; rw [Bool.not_false, if_pos rfl, app16 (by decide) (by simp; omega), bindS, bindS, ifF]; rfl
  | cons x r ih =>
    intro j q acc put h hj hq ha
    obtain ⟨e1, e2, e3⟩ := getDrop h
    obtain ⟨q, rfl⟩ : ∃ q', q = q' + 1 := ⟨q - 1, by simp at hq; omega⟩
    have hq' : r.length < q := by simp at hq; omega
    simp only [ref14_Insert_l1]
    rw [lt_len e3, if_pos rfl, lAt_nat e1]
    simp only [bindS]
    cases put with
    | true =>
      simp only [Bool.not_true, ifF, ifT, bindS]
      rw [app16 (by decide) (by simp; omega), bindS, cks (by omega), bindS, ih (j+1) q (acc ++ [x]) true e2 (by omega) hq' (by simp; omega), if_pos rfl]
      simp
    | false =>
      rw [Bool.not_false, if_pos rfl, lessS, bindS]
      by_cases hs : s < x
      · rw [decide_eq_true hs, if_pos rfl, app16 (by decide) (by simp; omega)]
        simp only [bindS]
        rw [app16 (by decide) (by simp; omega), bindS, cks (by omega), bindS, ih (j+1) q (acc ++ [s] ++ [x]) true e2 (by omega) hq' (by simp; omega), if_pos rfl]
        unfold insF
        rw [if_pos hs]
        simp
      · rw [decide_eq_false hs, ifF, bindS]
        dsimp only
        rw [app16 (by decide) (by simp; omega), bindS, cks (by omega), bindS, ih (j+1) q (acc ++ [x]) false e2 (by omega) hq' (by simp; omega), ifF, ifF]
        conv => rhs; rw [insF]
        rw [if_neg hs]
        simp
theorem insert_eq (l : List Str) (s : Str) (hl : l.length ≤ 100000) (ha : Asc l) : ∃ r, ref14_Insert l s = some r ∧ Asc r ∧ (∀ x, x ∈ r ↔ x = s ∨ x ∈ l) ∧ r.length ≤ l.length + 1 := by
 have h1 := insert_l1 l s hl l 0 fuel [] (decide (s ∈ l)) rfl (Nat.zero_le _) (by unfold fuel; omega) (by simp)
 rw [show ((0 : Nat) : Int) = 0 from rfl] at h1
 unfold ref14_Insert
 rw [in_eq l s (by unfold bigN; omega), bindS, h1]
 by_cases h : s ∈ l
 ·rw [decide_eq_true h, if_pos rfl]
  refine ⟨_, rfl, ha, fun x => ?_, by simp⟩
  simp
  intro e; subst e; exact h
 ·rw [decide_eq_false h, ifF]
  refine ⟨_, rfl, insF_asc s l ha h, fun x => by simpa using insF_mem s l x, by simp [insF_len]⟩
end Go.Cq

set_option maxRecDepth 100000
namespace Go.Cq
open Go Go.Av
def isSend (n : tree_Node) : Bool := decide (n.K = 9) || decide (n.K = 11)
theorem sentT_l1 (m : tree_Method) (hl : m.Nodes.length ≤ 100000) : ∀ (r : List tree_Node) (j q : Nat) (acc : List Str), m.Nodes.drop j = r → j ≤ m.Nodes.length → r.length < q → acc.length ≤ j →
    tree_Sent_l1 m q (j : Int) acc = some (acc ++ (r.filter isSend).map (·.S)) := by
  intro r
  induction r with
  | nil =>
    intro j q acc h hj hq ha
    obtain ⟨q, rfl⟩ : ∃ q', q = q' + 1 := ⟨q - 1, by simp at hq; omega⟩
    have : j = m.Nodes.length := by have : m.Nodes.length ≤ j := by simpa using h
                                    omega
    subst this
    simp only [tree_Sent_l1]
    rw [ge_len, ifF]; simp
  | cons x r ih =>
    intro j q acc h hj hq ha
    obtain ⟨e1, e2, e3⟩ := getDrop h
    obtain ⟨q, rfl⟩ : ∃ q', q = q' + 1 := ⟨q - 1, by simp at hq; omega⟩
    have hq' : r.length < q := by simp at hq; omega
    simp only [tree_Sent_l1]
    rw [lt_len e3, if_pos rfl, lAt_nat e1, bindS]
    cases hs : isSend x with
    | true =>
      have : (decide (x.K = 9) || decide (x.K = 11)) = true := hs
      rw [this, if_pos rfl, app16 (by decide) (by simp; omega), bindS, bindS, cks (by omega), bindS, ih (j+1) q _ e2 (by omega) hq' (by simp; omega)]
      simp [hs]
    | false =>
      have : (decide (x.K = 9) || decide (x.K = 11)) = false := hs
      rw [this, ifF, bindS, cks (by omega), bindS, ih (j+1) q _ e2 (by omega) hq' (by omega)]
      simp [hs]
theorem sentR_l1 (m : ref14_Method) (hl : m.Nodes.length ≤ 100000) : ∀ (r : List ref14_Node) (j q : Nat) (acc : List Str), m.Nodes.drop j = r → j ≤ m.Nodes.length → r.length < q → acc.length ≤ j → Asc acc →
    ∃ out, ref14_Sent_l1 m q acc (j : Int) = some out ∧ out.length ≤ m.Nodes.length ∧ Asc out ∧ ∀ x, x ∈ out ↔ x ∈ acc ∨ x ∈ ((r.map giveNode).filter isSend).map (·.S) := by
  intro r
  induction r with
  | nil =>
    intro j q acc h hj hq ha hA
    obtain ⟨q, rfl⟩ : ∃ q', q = q' + 1 := ⟨q - 1, by simp at hq; omega⟩
    have : j = m.Nodes.length := by have : m.Nodes.length ≤ j := by simpa using h
                                    omega
    subst this
    simp only [ref14_Sent_l1]
    rw [ge_len, ifF]
    exact ⟨acc, rfl, ha, hA, fun x => by simp⟩
  | cons x r ih =>
    intro j q acc h hj hq ha hA
    obtain ⟨e1, e2, e3⟩ := getDrop h
    obtain ⟨q, rfl⟩ : ∃ q', q = q' + 1 := ⟨q - 1, by simp at hq; omega⟩
    have hq' : r.length < q := by simp at hq; omega
    simp only [ref14_Sent_l1]
    rw [lt_len e3, if_pos rfl, lAt_nat e1, bindS]
    have hk : (if (decide (x.K = 9)) then some true else some (decide (x.K = 11))) = some (isSend (giveNode x)) := by
      show _ = some (decide (x.K = 9) || decide (x.K = 11))
      cases decide (x.K = 9) <;> rfl
    rw [hk, bindS]
    cases hs : isSend (giveNode x) with
    | true =>
      obtain ⟨r2, g1, g2, g3, g4⟩ := insert_eq acc x.S (by omega) hA
      rw [if_pos rfl, bindS, g1, bindS, bindS, cks (by omega), bindS]
      obtain ⟨out, o1, ol, o2, o3⟩ := ih (j+1) q r2 e2 (by omega) hq' (by omega) g2
      refine ⟨out, o1, ol, o2, fun y => ?_⟩
      rw [o3 y, g3 y]
      simp only [List.map_cons, List.filter_cons, hs, if_true, List.mem_cons]
      show (y = x.S ∨ y ∈ acc) ∨ _ ↔ y ∈ acc ∨ y = x.S ∨ _
      constructor
      · rintro ((h | h) | h)
        · exact .inr (.inl h)
        · exact .inl h
        · exact .inr (.inr h)
      · rintro (h | h | h)
        · exact .inl (.inr h)
        · exact .inl (.inl h)
        · exact .inr h
    | false =>
      rw [ifF, bindS, cks (by omega), bindS]
      obtain ⟨out, o1, ol, o2, o3⟩ := ih (j+1) q acc e2 (by omega) hq' (by omega) hA
      refine ⟨out, o1, ol, o2, fun y => ?_⟩
      rw [o3 y]
      simp only [List.map_cons, List.filter_cons, hs]
      simp
theorem sent_eq (m : ref14_Method) (hl : m.Nodes.length ≤ 100000) (b : Bool) (h1 : ref14_May m = some b) (h2 : tree_Check (giveM m) = some (if b = true then none else some 1)) : ∃ r, tree_Sent (giveM m) = some r ∧ ref14_Sent m = some r ∧ r.length ≤ 100000 := by
 unfold tree_Sent ref14_Sent
 rw [h1, h2, bindS, bindS]
 cases b with
 | false => exact ⟨[], rfl, rfl, by simp⟩
 | true =>
  have hl2 : (giveM m).Nodes.length = m.Nodes.length := by simp [giveM]
  have t1 := sentT_l1 (giveM m) (by omega) (giveM m).Nodes 0 fuel [] rfl (Nat.zero_le _) (by unfold fuel; omega) (by simp)
  obtain ⟨out, o1, ol, o2, o3⟩ := sentR_l1 m hl m.Nodes 0 fuel [] rfl (Nat.zero_le _) (by unfold fuel; omega) (by simp) .nil
  rw [show ((0 : Nat) : Int) = 0 from rfl] at t1 o1
  refine ⟨out, ?_, ?_, by omega⟩
  ·rw [if_pos rfl, show (none : Option Int).isSome = false from rfl, ifF, t1, bindS, sorted_of _ out o2 (fun x => ?_), bindS]
   rw [o3 x]
   simp [giveM]
  ·rw [Bool.not_true, ifF, o1, bindS]
def abv (N : List tree_Node) (j : Nat) : Nat → Int
 | 0 => -1
 | c+1 => if (j : Int) ∈ (match N[c]? with | some n => n.Kids | none => []) then (c : Int) else abv N j c
def tabI (n : Nat) (f : Nat → Int) : List Int := (List.range n).map f
theorem tabI_get {n : Nat} {f : Nat → Int} {j : Nat} (h : j < n) : (tabI n f)[j]? = some (f j) := by simp [tabI, h]
theorem tabI_set {n : Nat} {f : Nat → Int} {j : Nat} {v : Int} (h : j < n) : (tabI n f).set j v = tabI n (fun x => if j = x then v else f x) := by
 apply List.ext_getElem (by simp [tabI])
 intro i h1 h2
 simp [tabI, List.getElem_set]
theorem tabI_congr {n : Nat} {f g : Nat → Int} (h : ∀ j, j < n → f j = g j) : tabI n f = tabI n g := by
 unfold tabI
 apply List.map_congr_left
 intro j hj
 exact h j (by simpa using hj)
theorem stAt_tab {n : Nat} {f : Nat → Int} {j : Nat} {v : Int} (h : j < n) : stAt (tabI n f) (j : Int) v = some (tabI n (fun x => if j = x then v else f x)) := by
 unfold stAt
 rw [show ((j : Int)).toNat = j by omega, ← tabI_set h]
theorem above_l1 (m : ref14_Method) (hl : m.Nodes.length ≤ 100000) : ∀ (c j q : Nat) (f : Nat → Int), j + c = m.Nodes.length → c < q → (∀ x, x < j → f x = -1) → ref14_Above_l1 m q (j : Int) (tabI m.Nodes.length f) = some (tabI m.Nodes.length fun _ => -1) := by
 intro c
 induction c with
 | zero =>
  intro j q f hj hq hf
  obtain ⟨q, rfl⟩ : ∃ q', q = q' + 1 := ⟨q - 1, by omega⟩
  obtain rfl : j = m.Nodes.length := by omega
  simp only [ref14_Above_l1]
  rw [ge_len, ifF, tabI_congr hf]
 | succ c ih =>
  intro j q f hj hq hf
  obtain ⟨q, rfl⟩ : ∃ q', q = q' + 1 := ⟨q - 1, by omega⟩
  simp only [ref14_Above_l1]
  rw [lt_len (by omega), if_pos rfl, lAt_nat (tabI_get (by omega)), bindS, stAt_tab (by omega), bindS, cks (by omega), bindS]
  refine ih (j+1) q _ (by omega) (by omega) fun x hx => ?_
  by_cases e : j = x
  ·rw [if_pos e]
  ·rw [if_neg e]; exact hf x (by omega)
theorem above_l4 (m : ref14_Method) (i : Nat) (n : ref14_Node) (hi : m.Nodes[i]? = some n) (hk : n.Kids.length ≤ 100000) (hl : m.Nodes.length ≤ 100000) (h1 : ∀ x, x ∈ n.Kids → 0 ≤ x ∧ x < (m.Nodes.length : Int)) :
    ∀ (r : List Int) (k q : Nat) (f : Nat → Int), n.Kids.drop k = r → k ≤ n.Kids.length → r.length < q → ref14_Above_l4 m (i : Int) q (k : Int) (tabI m.Nodes.length f) = some (tabI m.Nodes.length fun x => if (x : Int) ∈ r then (i : Int) else f x) := by
  intro r
  induction r with
  | nil =>
    intro k q f h hkl hq
    obtain ⟨q, rfl⟩ : ∃ q', q = q' + 1 := ⟨q - 1, by simp at hq; omega⟩
    have : k = n.Kids.length := by have : n.Kids.length ≤ k := by simpa using h
                                   omega
    subst this
    simp only [ref14_Above_l4]
    rw [lAt_nat hi, bindS, ge_len, ifF]
    simp
  | cons x r ih =>
    intro k q f h hkl hq
    obtain ⟨q, rfl⟩ : ∃ q', q = q' + 1 := ⟨q - 1, by simp at hq; omega⟩
    obtain ⟨e1, e2, e3⟩ := getDrop h
    have hx := h1 x (List.mem_of_getElem? e1)
    obtain ⟨x, rfl⟩ : ∃ x' : Nat, x = (x' : Int) := ⟨x.toNat, by omega⟩
    simp only [ref14_Above_l4]
    rw [lAt_nat hi, bindS, lt_len e3, if_pos rfl, lAt_nat e1, bindS, lAt_nat (tabI_get (by omega)), bindS, stAt_tab (by omega), bindS, cks (by omega), bindS, ih (k+1) q _ e2 (by omega) (by simp at hq; omega)]
    congr 1
    apply tabI_congr
    intro j hj
    by_cases a : (j : Int) ∈ r
    · rw [if_pos a, if_pos (by simp [a])]
    · rw [if_neg a]
      by_cases b : x = j
      · subst b; rw [if_pos rfl, if_pos (by simp)]
      · rw [if_neg b, if_neg]
        simp only [List.mem_cons, not_or]
        exact ⟨by omega, a⟩
theorem above_l2 (m : ref14_Method) (hl : m.Nodes.length ≤ 100000) (hk : ∀ n, n ∈ m.Nodes → n.Kids.length ≤ 100000) (h1 : ∀ n, n ∈ m.Nodes → ∀ x, x ∈ n.Kids → 0 ≤ x ∧ x < (m.Nodes.length : Int)) :
  ∀ (c i q : Nat), i + c = m.Nodes.length → c < q → ref14_Above_l2 m q (i : Int) (tabI m.Nodes.length fun j => abv (giveM m).Nodes j i) = some (tabI m.Nodes.length fun j => abv (giveM m).Nodes j m.Nodes.length) := by
 intro c
 induction c with
 | zero =>
  intro i q hi hq
  obtain ⟨q, rfl⟩ : ∃ q', q = q' + 1 := ⟨q - 1, by omega⟩
  obtain rfl : i = m.Nodes.length := by omega
  simp only [ref14_Above_l2]
  rw [ge_len, ifF]
 | succ c ih =>
  intro i q hi hq
  obtain ⟨q, rfl⟩ : ∃ q', q = q' + 1 := ⟨q - 1, by omega⟩
  have hil : i < m.Nodes.length := by omega
  obtain ⟨n, hn⟩ : ∃ n, m.Nodes[i]? = some n := ⟨_, List.getElem?_eq_getElem hil⟩
  have hm := List.mem_of_getElem? hn
  have h4 := above_l4 m i n hn (hk n hm) hl (h1 n hm) n.Kids 0 fuel (fun j => abv (giveM m).Nodes j i) rfl (Nat.zero_le _) (by have := hk n hm; unfold fuel; omega)
  rw [show ((0 : Nat) : Int) = 0 from rfl] at h4
  simp only [ref14_Above_l2]
  rw [lt_len hil, if_pos rfl, h4, bindS, cks (by omega), bindS]
  have e : (fun (x : Nat) => if (x : Int) ∈ n.Kids then (i : Int) else abv (giveM m).Nodes x i) = fun j => abv (giveM m).Nodes j (i+1) := by
   funext x
   simp only [abv]
   rw [nodes_get hn]
   rfl
  rw [e]
  exact ih (i+1) q (by omega) (by omega)
theorem above_eq (m : ref14_Method) (hl : m.Nodes.length ≤ 100000) (hk : ∀ n, n ∈ m.Nodes → n.Kids.length ≤ 100000) (h1 : ∀ n, n ∈ m.Nodes → ∀ x, x ∈ n.Kids → 0 ≤ x ∧ x < (m.Nodes.length : Int)) :
  ref14_Above m = some (tabI m.Nodes.length fun j => abv (giveM m).Nodes j m.Nodes.length) := by
 unfold ref14_Above
 have hz : mkL 8 (0 : Int) (m.Nodes.length : Int) = some (tabI m.Nodes.length fun _ => 0) := by
  unfold mkL maxB
  rw [if_pos (by omega)]
  congr 1
  apply List.ext_getElem (by simp [tabI])
  intro i h1 h2
  simp [tabI]
 have a1 := above_l1 m hl m.Nodes.length 0 fuel (fun _ => 0) (by omega) (by unfold fuel; omega) (fun x hx => by omega)
 have a2 := above_l2 m hl hk h1 m.Nodes.length 0 fuel (by omega) (by unfold fuel; omega)
 rw [show ((0 : Nat) : Int) = 0 from rfl] at a1 a2
 rw [hz, bindS, a1, bindS]
 have e : (fun (j : Nat) => abv (giveM m).Nodes j 0) = fun _ => -1 := rfl
 rw [e] at a2
 rw [a2, bindS]
end Go.Cq

