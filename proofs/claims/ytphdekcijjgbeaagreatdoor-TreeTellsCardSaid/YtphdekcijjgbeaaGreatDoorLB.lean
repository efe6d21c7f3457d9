import Derived.Test.YtphdekcijjgbeaaGreatDoorLA
set_option linter.unusedSectionVars false
set_option linter.unusedVariables false
set_option linter.unusedSimpArgs false
set_option linter.unnecessarySimpa false
set_option maxRecDepth 100000
namespace Go.Cq
open Go Go.Av
theorem ksum_le (N : List tree_Node) (j : Nat) : ∀ (d c : Nat), ksum N j c ≤ ksum N j (c + d)
 | 0, c => Nat.le_refl _
 | d+1, c => by
  have := ksum_le N j d c
  show _ ≤ ksum N j (c + d) + _
  omega
theorem ksum_two (N : List tree_Node) (j c1 c2 n : Nat) (h1 : c1 < c2) (h2 : c2 < n) (a1 : (j : Int) ∈ kidsAt N c1) (a2 : (j : Int) ∈ kidsAt N c2) : 2 ≤ ksum N j n := by
 have b1 : 0 < (kidsAt N c1).count (j : Int) := List.count_pos_iff.2 a1
 have b2 : 0 < (kidsAt N c2).count (j : Int) := List.count_pos_iff.2 a2
 have e1 := ksum_le N j (c2 - (c1 + 1)) (c1 + 1)
 rw [show c1 + 1 + (c2 - (c1 + 1)) = c2 by omega] at e1
 have e2 := ksum_le N j (n - (c2 + 1)) (c2 + 1)
 rw [show c2 + 1 + (n - (c2 + 1)) = n by omega] at e2
 have f1 : ksum N j (c1 + 1) = ksum N j c1 + (kidsAt N c1).count (j : Int) := rfl
 have f2 : ksum N j (c2 + 1) = ksum N j c2 + (kidsAt N c2).count (j : Int) := rfl
 omega
theorem ksum_one (N : List tree_Node) (j c n : Nat) (h : c < n) (a : (j : Int) ∈ kidsAt N c) : 1 ≤ ksum N j n := by
 have b1 : 0 < (kidsAt N c).count (j : Int) := List.count_pos_iff.2 a
 have e1 := ksum_le N j (n - (c + 1)) (c + 1)
 rw [show c + 1 + (n - (c + 1)) = n by omega] at e1
 have f1 : ksum N j (c + 1) = ksum N j c + (kidsAt N c).count (j : Int) := rfl
 omega
theorem abv_succ (N : List tree_Node) (j c : Nat) : abv N j (c+1) = if (j : Int) ∈ kidsAt N c then (c : Int) else abv N j c := rfl
theorem abv_or (N : List tree_Node) (j : Nat) : ∀ c, abv N j c = -1 ∨ ∃ i : Nat, abv N j c = (i : Int) ∧ i < c ∧ (j : Int) ∈ kidsAt N i
 | 0 => .inl rfl
 | c+1 => by
  rw [abv_succ]
  by_cases h : (j : Int) ∈ kidsAt N c
  ·rw [if_pos h]; exact .inr ⟨c, rfl, by omega, h⟩
  ·rw [if_neg h]
   rcases abv_or N j c with h1 | ⟨i, h1, h2, h3⟩
   ·exact .inl h1
   ·exact .inr ⟨i, h1, by omega, h3⟩
theorem abv_kid (N : List tree_Node) (j i : Nat) : ∀ c, i < c → (j : Int) ∈ kidsAt N i → ksum N j c ≤ 1 → abv N j c = (i : Int) := fun c hc hi h1 => by
 rcases abv_or N j c with h | ⟨i', h, h2, h3⟩
 ·exfalso
  induction c with
  | zero => omega
  | succ c ih =>
   rw [abv_succ] at h
   by_cases hk : (j : Int) ∈ kidsAt N c
   ·rw [if_pos hk] at h; omega
   ·rw [if_neg hk] at h
    refine ih ?_ ?_ h
    ·rcases Nat.lt_or_ge i c with h4 | h4
     ·exact h4
     ·obtain rfl : i = c := by omega
      exact absurd hi hk
    ·have := ksum_le N j 1 c; omega
 ·rw [h]
  rcases Nat.lt_trichotomy i i' with h4 | h4 | h4
  ·have := ksum_two N j i i' c h4 h2 hi h3; omega
  ·subst h4; rfl
  ·have := ksum_two N j i' i c h4 hc h3 hi; omega
theorem abv_root (N : List tree_Node) (j c : Nat) (h : ksum N j c = 0) : abv N j c = -1 := by
 rcases abv_or N j c with h1 | ⟨i, h1, h2, h3⟩
 ·exact h1
 ·have := ksum_one N j i c h2 h3; omega
theorem mayB_L {n : tree_Node} (h : mayB n = true) : (n.K ≠ 12 → n.L = []) ∧ n.L.length ≤ 16 := by
  have hno : noNames n = true → n.L = [] := fun h => by
    unfold noNames at h
    simp only [Bool.and_eq_true, decide_eq_true_eq] at h
    exact h.2
  have key : n.K ≠ 12 → n.L = [] := fun hk => by
    unfold mayB at h
    apply hno
    repeat' split at h
    all_goals first
      | (exfalso; omega)
      | (simp only [Bool.and_eq_true] at h; first | exact h.1 | exact h.2.1)
      | cases h
  refine ⟨key, ?_⟩
  by_cases hk : n.K = 12
  · unfold mayB at h
    rw [if_neg (by omega), if_neg (by omega), if_neg (by omega), if_neg (by omega), if_neg (by omega), if_neg (by omega), if_neg (by omega), if_neg (by omega), if_pos hk] at h
    simp only [Bool.and_eq_true, decide_eq_true_eq] at h
    exact h.2.2.2.2.1
  · rw [key hk]; simp
inductive Bnd (N : List tree_Node) (s : Str) : Int → Prop
 | here {j : Nat} {n : tree_Node} (h : N[j]? = some n) (hs : s ∈ n.L) : Bnd N s (j : Int)
 | up {j : Nat} {n : tree_Node} (h : N[j]? = some n) (hu : Bnd N s (abv N j N.length)) : Bnd N s (j : Int)
theorem Bnd.inv {N : List tree_Node} {s : Str} {x : Int} (h : Bnd N s x) : ∃ (j : Nat) (n : tree_Node), x = (j : Int) ∧ N[j]? = some n ∧ (s ∈ n.L ∨ Bnd N s (abv N j N.length)) := by
 cases h with
 | here h hs => exact ⟨_, _, rfl, h, .inl hs⟩
 | up h hu => exact ⟨_, _, rfl, h, .inr hu⟩
theorem bnd_iff {N : List tree_Node} {s : Str} {j : Nat} {n : tree_Node} (h : N[j]? = some n) : Bnd N s (j : Int) ↔ s ∈ n.L ∨ Bnd N s (abv N j N.length) := by
 constructor
 ·intro hb
  obtain ⟨j', n', e, h', hh⟩ := hb.inv
  obtain rfl : j = j' := by omega
  rw [h] at h'; cases h'
  exact hh
 ·rintro (hh | hh)
  ·exact .here h hh
  ·exact .up h hh
theorem bnd_neg {N : List tree_Node} {s : Str} : ¬ Bnd N s (-1) := fun h => by
 obtain ⟨j, n, e, _⟩ := h.inv
 omega
def usesB (n : tree_Node) : Bool := decide (n.K = 7) || decide (n.K = 8)
def FreeAt (N : List tree_Node) (base : List Str) (lo hi : Nat) (s : Str) : Prop := ∃ (j : Nat) (n : tree_Node), lo ≤ j ∧ j < hi ∧ N[j]? = some n ∧ usesB n = true ∧ n.S = s ∧ s ∉ base ∧ ¬ Bnd N s (abv N j N.length)
theorem FreeAt.app {N : List tree_Node} {base : List Str} {lo mid hi : Nat} {s : Str} (h1 : lo ≤ mid) (h2 : mid ≤ hi) : FreeAt N base lo hi s ↔ FreeAt N base lo mid s ∨ FreeAt N base mid hi s := by
 constructor
 ·rintro ⟨j, n, a, b, c⟩
  rcases Nat.lt_or_ge j mid with h | h
  ·exact .inl ⟨j, n, a, h, c⟩
  ·exact .inr ⟨j, n, h, b, c⟩
 ·rintro (⟨j, n, a, b, c⟩ | ⟨j, n, a, b, c⟩)
  ·exact ⟨j, n, a, by omega, c⟩
  ·exact ⟨j, n, by omega, b, c⟩
theorem FreeAt.none {N : List tree_Node} {base : List Str} {lo : Nat} {s : Str} : ¬ FreeAt N base lo lo s := by
 rintro ⟨j, n, a, b, c⟩; omega
theorem FreeAt.one {N : List tree_Node} {base : List Str} {i : Nat} {n : tree_Node} (hn : N[i]? = some n) {s : Str} : FreeAt N base i (i+1) s ↔ usesB n = true ∧ n.S = s ∧ s ∉ base ∧ ¬ Bnd N s (abv N i N.length) := by
 constructor
 ·rintro ⟨j, n', a, b, c, d⟩
  obtain rfl : j = i := by omega
  rw [hn] at c; cases c
  exact d
 ·intro h; exact ⟨i, n, Nat.le_refl _, by omega, hn, h⟩
def catM (F : Int → Option (List Str)) : List Int → Option (List Str)
 | [] => some []
 | j :: r => (F j).bind fun a => (catM F r).bind fun b => some (a ++ b)
theorem catM_cons {F : Int → Option (List Str)} {j : Int} {r : List Int} {out : List Str} (h : catM F (j :: r) = some out) : ∃ a b, F j = some a ∧ catM F r = some b ∧ out = a ++ b := by
 simp only [catM, Option.bind_eq_some_iff] at h
 obtain ⟨a, h1, b, h2, h3⟩ := h
 exact ⟨a, b, h1, h2, (Option.some.inj h3).symm⟩
theorem freeK_l1 (m : tree_Method) (rec : R_tree_Method_free) (n : tree_Node) (own : List Str) (hk : n.Kids.length ≤ 100000) : ∀ (r : List Int) (k q : Nat) (acc out : List Str), n.Kids.drop k = r → k ≤ n.Kids.length → r.length < q →
    catM (fun j => rec.tree_Method_free m j own) r = some out → acc.length + out.length ≤ 1000000 → tree_Method_free_l1 m rec n own q acc (k : Int) = some (acc ++ out) := by
  intro r
  induction r with
  | nil =>
    intro k q acc out h hkl hq hc ha
    obtain ⟨q, rfl⟩ : ∃ q', q = q' + 1 := ⟨q - 1, by simp at hq; omega⟩
    have : k = n.Kids.length := by have : n.Kids.length ≤ k := by simpa using h
                                   omega
    subst this
    obtain rfl := Option.some.inj hc
    simp only [tree_Method_free_l1]
    rw [ge_len, ifF, List.append_nil]
  | cons x r ih =>
    intro k q acc out h hkl hq hc ha
    obtain ⟨q, rfl⟩ : ∃ q', q = q' + 1 := ⟨q - 1, by simp at hq; omega⟩
    obtain ⟨e1, e2, e3⟩ := getDrop h
    obtain ⟨a, b, h1, h2, rfl⟩ := catM_cons hc
    simp only [List.length_append] at ha
    simp only [tree_Method_free_l1]
    rw [lt_len e3, if_pos rfl, lAt_nat e1, bindS, h1, bindS, app16 (by decide) (by omega), bindS, cks (by omega), bindS, ih (k+1) q (acc ++ a) b e2 (by omega) (by simp at hq; omega) h2 (by simp; omega), List.append_assoc]
theorem freeB_l1 (m : tree_Method) (hb : m.Body.length ≤ 100000) (ha2 : m.Args.length + m.Temps.length ≤ 1000) : ∀ (r : List Int) (k q : Nat) (acc out : List Str), m.Body.drop k = r → k ≤ m.Body.length → r.length < q →
    catM (fun j => tree_Method_free m j (m.Args ++ m.Temps)) r = some out → acc.length + out.length ≤ 1000000 → tree_Free_l1 m q (k : Int) acc = some (acc ++ out) := by
  intro r
  induction r with
  | nil =>
    intro k q acc out h hkl hq hc ha
    obtain ⟨q, rfl⟩ : ∃ q', q = q' + 1 := ⟨q - 1, by simp at hq; omega⟩
    have : k = m.Body.length := by have : m.Body.length ≤ k := by simpa using h
                                   omega
    subst this
    obtain rfl := Option.some.inj hc
    simp only [tree_Free_l1]
    rw [ge_len, ifF, List.append_nil]
  | cons x r ih =>
    intro k q acc out h hkl hq hc ha
    obtain ⟨q, rfl⟩ : ∃ q', q = q' + 1 := ⟨q - 1, by simp at hq; omega⟩
    obtain ⟨e1, e2, e3⟩ := getDrop h
    obtain ⟨a, b, h1, h2, rfl⟩ := catM_cons hc
    simp only [List.length_append] at ha
    simp only [tree_Free_l1]
    rw [lt_len e3, if_pos rfl, lAt_nat e1, bindS, concat_eq _ _ (by omega), bindS, h1, bindS, app16 (by decide) (by omega), bindS, cks (by omega), bindS, ih (k+1) q (acc ++ a) b e2 (by omega) (by simp at hq; omega) h2 (by simp; omega), List.append_assoc]
structure FreeOk (m : tree_Method) (base : List Str) : Prop where
 nodes : NodesOk m.Nodes
 len : m.Nodes.length ≤ 1000
 par : ∀ (i : Nat) (n : tree_Node), m.Nodes[i]? = some n → ∀ k : Nat, (k : Int) ∈ n.Kids → abv m.Nodes k m.Nodes.length = (i : Int)
mutual
theorem Tr.free {m : tree_Method} {base : List Str} (hm : FreeOk m base) {lo i h : Nat} : Tr m.Nodes lo i h → ∀ (q : Nat) (own : List Str), h ≤ q → (∀ s, s ∈ own ↔ s ∈ base ∨ Bnd m.Nodes s (abv m.Nodes i m.Nodes.length)) → own.length + 16 * h ≤ 1000000 →
    ∃ r, (R_tree_Method_free_n q).tree_Method_free m (i : Int) own = some r ∧ r.length ≤ i + 1 - lo ∧ ∀ s, s ∈ r ↔ FreeAt m.Nodes base lo (i+1) s
  | .mk (n := n) (h := h') hn hmay hf, q, own, hq, hown, hol => by
    obtain ⟨q, rfl⟩ : ∃ q', q = q' + 1 := ⟨q - 1, by omega⟩
    have hil := (List.getElem?_eq_some_iff.1 hn).1
    have hlen := hm.len
    obtain ⟨hL0, hL16⟩ := mayB_L hmay
    have hkids := hm.nodes.kids n (List.mem_of_getElem? hn)
    have hlo := hf.le.1
    obtain ⟨own2, ho1, ho2, ho3⟩ : ∃ own2, (if (decide (n.K = 12)) then (slices_Concat_Lstring_string ([own, n.L] : List (List Str))).bind fun v6 => some v6 else some own) = some own2 ∧ (∀ s, s ∈ own2 ↔ s ∈ base ∨ Bnd m.Nodes s (i : Int)) ∧ own2.length ≤ own.length + 16 := by
      have hb : ∀ s, Bnd m.Nodes s (i : Int) ↔ s ∈ n.L ∨ Bnd m.Nodes s (abv m.Nodes i m.Nodes.length) := fun s => bnd_iff hn
      by_cases h12 : n.K = 12
      · refine ⟨own ++ n.L, by rw [decide_eq_true h12, if_pos rfl, concat_eq _ _ (by omega)]; rfl, fun s => ?_, by simp; omega⟩
        rw [List.mem_append, hown s, hb s]
        constructor
        · rintro ((h | h) | h)
          · exact .inl h
          · exact .inr (.inr h)
          · exact .inr (.inl h)
        · rintro (h | h | h)
          · exact .inl (.inl h)
          · exact .inr h
          · exact .inl (.inr h)
      · refine ⟨own, by rw [decide_eq_false h12, ifF], fun s => ?_, by omega⟩
        rw [hown s, hb s, hL0 h12]
        simp
    obtain ⟨out, k1, k2, k3⟩ := Fo.free hm hf q own2 (fun k hk => hm.par i n hn k hk) (by omega) ho2 (by omega)
    have hself : ∀ s, s ∈ own2 ↔ s ∈ base ∨ Bnd m.Nodes s (i : Int) := ho2
    show ∃ r, tree_Method_free_b (R_tree_Method_free_n q) m (i : Int) own = some r ∧ _
    unfold tree_Method_free_b
    rw [lAt_nat hn, bindS, ho1, bindS, contains_eq _ _ (by unfold bigN; omega)]
    have hfin : ∀ (b : Bool), (b = true ↔ usesB n = true ∧ n.S ∉ own2) → (∃ r, ((if b = true then (app 16 ([] : List Str) ([n.S] : List Str)).bind fun v17 => some v17 else some []).bind fun y13 => (tree_Method_free_l1 m (R_tree_Method_free_n q) n own2 fuel y13 0).bind fun y18 => some y18) = some r ∧ r.length ≤ i + 1 - lo ∧ ∀ s, s ∈ r ↔ FreeAt m.Nodes base lo (i+1) s) := fun b hb => by
      have hx : ∀ s, (b = true ∧ s = n.S) ↔ FreeAt m.Nodes base i (i+1) s := fun s => by
        rw [FreeAt.one hn, hb]
        have hus : usesB n = true → ∀ s, (Bnd m.Nodes s (i : Int) ↔ Bnd m.Nodes s (abv m.Nodes i m.Nodes.length)) := fun hu s => by
          have : n.K ≠ 12 := fun e => by unfold usesB at hu; rw [e] at hu; simp at hu
          rw [bnd_iff hn, hL0 this]; simp
        constructor
        · rintro ⟨⟨h1, h2⟩, rfl⟩
          rw [hself] at h2
          refine ⟨h1, rfl, fun h => h2 (.inl h), fun h => h2 (.inr ((hus h1 _).2 h))⟩
        · rintro ⟨h1, rfl, h2, h3⟩
          refine ⟨⟨h1, ?_⟩, rfl⟩
          rw [hself]
          rintro (h | h)
          · exact h2 h
          · exact h3 ((hus h1 _).1 h)
      cases b with
      | true =>
        have hl := freeK_l1 m (R_tree_Method_free_n q) n own2 hkids n.Kids 0 fuel [n.S] out rfl (Nat.zero_le _) (by unfold fuel; omega) k1 (by simp; omega)
        rw [show ((0 : Nat) : Int) = 0 from rfl] at hl
        rw [if_pos rfl, app16 (by decide) (by simp), bindS, bindS, List.nil_append, hl, bindS]
        refine ⟨_, rfl, by simp; omega, fun s => ?_⟩
        rw [FreeAt.app (mid := i) hlo (by omega), ← k3 s, ← hx s]
        simp
        exact or_comm
      | false =>
        have hl := freeK_l1 m (R_tree_Method_free_n q) n own2 hkids n.Kids 0 fuel [] out rfl (Nat.zero_le _) (by unfold fuel; omega) k1 (by simp; omega)
        rw [show ((0 : Nat) : Int) = 0 from rfl] at hl
        rw [ifF, bindS, hl, bindS]
        refine ⟨_, rfl, by simp; omega, fun s => ?_⟩
        rw [FreeAt.app (mid := i) hlo (by omega), ← k3 s, ← hx s]
        simp
    have hcon : (own2.contains n.S = true) ↔ n.S ∈ own2 := by simp
    by_cases h7 : n.K = 7
    · rw [decide_eq_true h7, if_pos rfl, bindS, bindS]
      refine hfin _ ?_
      unfold usesB
      rw [decide_eq_true h7]
      cases hc : own2.contains n.S <;> simp_all
    · rw [decide_eq_false h7, ifF]
      by_cases h8 : n.K = 8
      · rw [decide_eq_true h8, if_pos rfl, bindS, bindS]
        refine hfin _ ?_
        unfold usesB
        rw [decide_eq_true h8]
        cases hc : own2.contains n.S <;> simp_all
      · rw [decide_eq_false h8, ifF, bindS]
        refine hfin _ ?_
        unfold usesB
        rw [decide_eq_false h7, decide_eq_false h8]
        simp
theorem Fo.free {m : tree_Method} {base : List Str} (hm : FreeOk m base) {P : Nat → Bool × Bool × Bool} {k lo hi h : Nat} {l : List Int} : Fo m.Nodes P k lo hi l h → ∀ {p : Int} (q : Nat) (own : List Str), (∀ x : Nat, (x : Int) ∈ l → abv m.Nodes x m.Nodes.length = p) → h ≤ q → (∀ s, s ∈ own ↔ s ∈ base ∨ Bnd m.Nodes s p) → own.length + 16 * h ≤ 1000000 →
  ∃ out, catM (fun j => (R_tree_Method_free_n q).tree_Method_free m j own) l = some out ∧ out.length ≤ hi - lo ∧ ∀ s, s ∈ out ↔ FreeAt m.Nodes base lo hi s
 | .nil, p, q, own, hp, hq, hown, hol => ⟨[], rfl, by simp, fun s => ⟨fun h => by simp at h, fun h => absurd h FreeAt.none⟩⟩
 | .cons (j := j) (h1 := h1) (h2 := h2) hj hs ht hr, p, q, own, hp, hq, hown, hol => by
  obtain ⟨a, a1, a2, a3⟩ := Tr.free hm ht q own (by omega) (fun s => by rw [hp j (by simp)]; exact hown s) (by omega)
  obtain ⟨b, b1, b2, b3⟩ := Fo.free hm hr q own (fun x hx => hp x (by simp [hx])) (by omega) hown (by omega)
  have l1 := ht.le
  have l2 := hr.le.1
  refine ⟨a ++ b, by simp only [catM]; rw [a1, bindS, b1, bindS], by simp; omega, fun s => ?_⟩
  rw [List.mem_append, a3, b3, ← FreeAt.app (by omega) l2]
end
end Go.Cq

