import Derived.Test.YtphdekcijjgbeaaGreatDoorL6
set_option linter.unusedSectionVars false
set_option linter.unusedVariables false
set_option linter.unusedSimpArgs false
set_option linter.unnecessarySimpa false
set_option maxRecDepth 100000
namespace Go.Cq
open Go Go.Av
def kAt (N : List tree_Node) (j : Int) : Int := match N[j.toNat]? with | some n => n.K | none => 0
def stK (N : List tree_Node) (P : Nat → Bool × Bool × Bool) : Nat → List Int → Bool
 | _, [] => true
 | k, j :: r => standsB (kAt N j) (P k) && stK N P (k+1) r
def dAt (D : List Int) (j : Int) : Int := match D[j.toNat]? with | some d => d | none => 0
def mxH (D : List Int) : Int → List Int → Int
 | a, [] => a
 | a, j :: r => mxH D (max a (dAt D j)) r
theorem kAt_of {N : List tree_Node} {j : Nat} {n : tree_Node} (h : N[j]? = some n) : kAt N (j : Int) = n.K := by simp [kAt, h]
theorem dAt_of {D : List Int} {j : Nat} {d : Int} (h : D[j]? = some d) : dAt D (j : Int) = d := by simp [dAt, h]
def stepM (N : List tree_Node) (i : Nat) (S D : List Int) : Option (List Int × List Int) := match N[i]? with
 | none => none
 | some n => if mayB n = true ∧ n.Kids.length ≤ S.length ∧ S.drop (S.length - n.Kids.length) = n.Kids ∧ stK N (placesB n) 0 n.Kids = true ∧ mxH D 0 n.Kids < 64 then
   some (S.take (S.length - n.Kids.length) ++ [(i : Int)], D ++ [mxH D 0 n.Kids + 1]) else none
def mach (N : List tree_Node) : Nat → Nat → List Int → List Int → Option (List Int)
 | 0, _, S, _ => some S
 | c+1, i, S, D => match stepM N i S D with
  | some (S', D') => mach N c (i+1) S' D'
  | none => none
section
variable (m : ref14_Method)
theorem nodes_get {m : ref14_Method} {j : Nat} {n : ref14_Node} (h : m.Nodes[j]? = some n) : (giveM m).Nodes[j]? = some (giveNode n) := by simp [giveM, h]
theorem may_l2 (hlen : m.Nodes.length ≤ 100000) (S D : List Int) (n : ref14_Node) (K : Int → Option Bool) (hk : n.Kids.length ≤ S.length) (hS : S.length ≤ 100000) (hD : ∀ j, j ∈ S → 0 ≤ j ∧ j < (m.Nodes.length : Int) ∧ j < (D.length : Int)) (h13 : n.K ≤ 13) :
  ∀ (t : List Int) (k q : Nat) (acc : Int), S.drop (S.length - n.Kids.length + k) = t → k ≤ n.Kids.length → n.Kids.length - k < q →
   ref14_May_l2 m S D n K q acc (k : Int) = if n.Kids.drop k = t ∧ stK (giveM m).Nodes (placesB (giveNode n)) k t = true then K (mxH D acc t) else some false := by
 intro t
 induction t with
 | nil =>
  intro k q acc ht hkl hq
  obtain ⟨q, rfl⟩ : ∃ q', q = q' + 1 := ⟨q - 1, by omega⟩
  have : k = n.Kids.length := by
   have : S.length ≤ S.length - n.Kids.length + k := by simpa using ht
   omega
  subst this
  simp only [ref14_May_l2]
  rw [ge_len, ifF, if_pos ⟨by simp, rfl⟩]
  rfl
 | cons j t ih =>
  intro k q acc ht hkl hq
  obtain ⟨q, rfl⟩ : ∃ q', q = q' + 1 := ⟨q - 1, by omega⟩
  obtain ⟨e1, e2, e3⟩ := getDrop ht
  have hk' : k < n.Kids.length := by omega
  have e2' : S.drop (S.length - n.Kids.length + (k+1)) = t := by rw [← e2]; congr 1
  obtain ⟨y, hy⟩ : ∃ y, n.Kids[k]? = some y := ⟨_, List.getElem?_eq_getElem hk'⟩
  have hdr : n.Kids.drop k = y :: n.Kids.drop (k+1) := by
   rw [List.getElem?_eq_getElem hk'] at hy; cases hy
   exact (List.drop_eq_getElem_cons hk')
  have hj := hD j (List.mem_of_getElem? e1)
  obtain ⟨j, rfl⟩ : ∃ j' : Nat, j = (j' : Int) := ⟨j.toNat, by omega⟩
  obtain ⟨nj, hnj⟩ : ∃ nj, m.Nodes[j]? = some nj := ⟨_, List.getElem?_eq_getElem (by omega)⟩
  obtain ⟨dj, hdj⟩ : ∃ dj, D[j]? = some dj := ⟨_, List.getElem?_eq_getElem (by omega)⟩
  have hkA : kAt (giveM m).Nodes (j : Int) = nj.K := (kAt_of (nodes_get hnj)).trans rfl
  have hst : ref14_stands nj.K n.K (k : Int) (n.Kids.length : Int) = some (standsB nj.K (placesB (giveNode n) k)) := stands14_eq nj.K (giveNode n) k h13 (by show n.Kids.length ≤ bigN; unfold bigN; omega)
  simp only [ref14_May_l2]
  rw [lt_len hk', if_pos rfl, ck_of (by omega) (by omega), bindS, ck_of (by omega) (by omega), bindS,
   show (S.length : Int) - (n.Kids.length : Int) + (k : Int) = ((S.length - n.Kids.length + k : Nat) : Int) by omega, lAt_nat e1, bindS, lAt_nat hy, bindS, lAt_nat hnj, bindS, lAt_nat hdj, bindS, hst, bindS, cks (by omega), bindS, ih (k+1) q (max acc dj) e2' (by omega) (by omega), hdr]
  have hsk : stK (giveM m).Nodes (placesB (giveNode n)) k ((j : Int) :: t) = (standsB nj.K (placesB (giveNode n) k) && stK (giveM m).Nodes (placesB (giveNode n)) (k+1) t) := by
   show (standsB (kAt (giveM m).Nodes (j : Int)) (placesB (giveNode n) k) && _) = _
   rw [hkA]
  have hmx : mxH D acc ((j : Int) :: t) = mxH D (max acc dj) t := by
   show mxH D (max acc (dAt D (j : Int))) t = _
   rw [dAt_of hdj]
  rw [hsk, hmx]
  by_cases hyj : y = (j : Int)
  ·subst hyj
   rw [decide_eq_true rfl, Bool.not_true, ifF]
   cases hs : standsB nj.K (placesB (giveNode n) k) with
   | false => rw [Bool.not_false, bindS, if_pos rfl, if_neg (by rw [Bool.false_and]; exact fun h => by cases h.2)]
   | true =>
    rw [Bool.not_true, bindS, ifF, Bool.true_and]
    by_cases hh : n.Kids.drop (k+1) = t
    ·rw [hh]; simp only [true_and]
    ·rw [if_neg (fun h => hh h.1), if_neg (fun h => hh (List.cons.inj h.1).2)]
  ·rw [decide_eq_false hyj, Bool.not_false, if_pos rfl, bindS, if_pos rfl, if_neg (fun h => hyj (List.cons.inj h.1).1)]
theorem may_l3 (hlen : m.Nodes.length ≤ 100000) (S : List Int) (K : Unit → Option Bool) (hk : S.length = m.Body.length) (hS : S.length ≤ 100000) (hD : ∀ j, j ∈ S → 0 ≤ j ∧ j < (m.Nodes.length : Int)) :
  ∀ (t : List Int) (k q : Nat), S.drop k = t → k ≤ S.length → t.length < q →
   ref14_May_l3 m S K q (k : Int) = if m.Body.drop k = t ∧ stK (giveM m).Nodes (bodyP m.Body.length) k t = true then K () else some false := by
 intro t
 induction t with
 | nil =>
  intro k q ht hkl hq
  obtain ⟨q, rfl⟩ : ∃ q', q = q' + 1 := ⟨q - 1, by simp at hq; omega⟩
  have : k = S.length := by
   have : S.length ≤ k := by simpa using ht
   omega
  subst this
  simp only [ref14_May_l3]
  rw [ge_len, ifF, if_pos ⟨by rw [hk]; simp, rfl⟩]
 | cons j t ih =>
  intro k q ht hkl hq
  obtain ⟨q, rfl⟩ : ∃ q', q = q' + 1 := ⟨q - 1, by simp at hq; omega⟩
  obtain ⟨e1, e2, e3⟩ := getDrop ht
  have hk' : k < m.Body.length := by omega
  obtain ⟨y, hy⟩ : ∃ y, m.Body[k]? = some y := ⟨_, List.getElem?_eq_getElem hk'⟩
  have hdr : m.Body.drop k = y :: m.Body.drop (k+1) := by
   rw [List.getElem?_eq_getElem hk'] at hy; cases hy
   exact (List.drop_eq_getElem_cons hk')
  have hj := hD j (List.mem_of_getElem? e1)
  obtain ⟨j, rfl⟩ : ∃ j' : Nat, j = (j' : Int) := ⟨j.toNat, by omega⟩
  obtain ⟨nj, hnj⟩ : ∃ nj, m.Nodes[j]? = some nj := ⟨_, List.getElem?_eq_getElem (by omega)⟩
  have hkA : kAt (giveM m).Nodes (j : Int) = nj.K := (kAt_of (nodes_get hnj)).trans rfl
  have hst : ref14_stands nj.K 99 (k : Int) (S.length : Int) = some (standsB nj.K (bodyP m.Body.length k)) := by
   rw [hk]; exact standsBody_eq nj.K k m.Body.length (by unfold bigN; omega)
  simp only [ref14_May_l3]
  rw [lt_len e3, if_pos rfl, lAt_nat hy, bindS, lAt_nat e1, bindS, lAt_nat hnj, bindS, hst, bindS, cks (by omega), bindS, ih (k+1) q e2 (by omega) (by simp at hq; omega), hdr]
  have hsk : stK (giveM m).Nodes (bodyP m.Body.length) k ((j : Int) :: t) = (standsB nj.K (bodyP m.Body.length k) && stK (giveM m).Nodes (bodyP m.Body.length) (k+1) t) := by
   show (standsB (kAt (giveM m).Nodes (j : Int)) (bodyP m.Body.length k) && _) = _
   rw [hkA]
  rw [hsk]
  by_cases hyj : y = (j : Int)
  ·subst hyj
   rw [decide_eq_true rfl, Bool.not_true, ifF]
   cases hs : standsB nj.K (bodyP m.Body.length k) with
   | false => rw [Bool.not_false, bindS, if_pos rfl, if_neg (by rw [Bool.false_and]; exact fun h => by cases h.2)]
   | true =>
    rw [Bool.not_true, bindS, ifF, Bool.true_and]
    by_cases hh : m.Body.drop (k+1) = t
    ·rw [hh]; simp only [true_and]
    ·rw [if_neg (fun h => hh h.1), if_neg (fun h => hh (List.cons.inj h.1).2)]
  ·rw [decide_eq_false hyj, Bool.not_false, if_pos rfl, bindS, if_pos rfl, if_neg (fun h => hyj (List.cons.inj h.1).1)]
end
end Go.Cq

set_option maxRecDepth 100000
namespace Go.Cq
open Go Go.Av
theorem take_take_eq {α : Type} {A B C : List α} (h1 : B.take A.length = A) (h2 : C.take B.length = B) (hl : A.length ≤ B.length) : C.take A.length = A := by
 have : (C.take B.length).take A.length = C.take A.length := by rw [List.take_take, Nat.min_eq_left hl]
 rw [← this, h2, h1]
theorem stepM_of {N : List tree_Node} {i : Nat} {n : tree_Node} {S D : List Int} (hn : N[i]? = some n) (hm : mayB n = true) (hs : stK N (placesB n) 0 n.Kids = true) (hx : mxH D 0 n.Kids < 64) :
  stepM N i (S ++ n.Kids) D = some (S ++ [(i : Int)], D ++ [mxH D 0 n.Kids + 1]) := by
 unfold stepM
 have hl : (S ++ n.Kids).length - n.Kids.length = S.length := by simp
 rw [hn]
 dsimp only
 rw [hl, if_pos ⟨hm, by simp, by simp, hs, hx⟩]
 simp
mutual
theorem Tr.run {N : List tree_Node} {lo i h : Nat} : Tr N lo i h → h ≤ 64 → ∀ D : List Int, D.length = lo → ∃ D' : List Int, D'.length = i + 1 ∧ D'.take lo = D ∧ dAt D' (i : Int) = (h : Int) ∧ ∀ c S, mach N (c + (i + 1 - lo)) lo S D = mach N c (i+1) (S ++ [(i : Int)]) D'
 | .mk (h := h) (n := n) hn hm hf, hh, D, hD => by
  obtain ⟨D1, d1, d2, d3, d4, d5⟩ := Fo.run hf (by omega) D hD
  have e := d3 0 (by omega)
  have hmx : mxH D1 0 n.Kids = (h : Int) := by rw [e]; omega
  refine ⟨D1 ++ [(h : Int) + 1], by simp [d1], ?_, ?_, fun c S => ?_⟩
  ·have := (Fo.le hf).1
   rw [List.take_append_of_le_length (by omega), d2]
  ·unfold dAt
   rw [show ((i : Int)).toNat = D1.length by omega]
   simp
  ·have := (Fo.le hf).1
   rw [show c + (i + 1 - lo) = (c+1) + (i - lo) by omega, d5]
   simp only [mach]
   rw [stepM_of hn hm d4 (by rw [hmx]; omega), hmx]
theorem Fo.run {N : List tree_Node} {P : Nat → Bool × Bool × Bool} {k lo hi h : Nat} {l : List Int} : Fo N P k lo hi l h → h ≤ 64 → ∀ D : List Int, D.length = lo → ∃ D' : List Int, D'.length = hi ∧ D'.take lo = D ∧ (∀ a : Int, 0 ≤ a → mxH D' a l = max a (h : Int)) ∧ stK N P k l = true ∧ ∀ c S, mach N (c + (hi - lo)) lo S D = mach N c hi (S ++ l) D'
 | .nil, hh, D, hD => ⟨D, hD, by rw [← hD]; simp, fun a ha => by simp only [mxH]; omega, rfl, fun c S => by simp⟩
 | .cons (j := j) (h1 := h1) (h2 := h2) (r := r) hj hs ht hr, hh, D, hD => by
  obtain ⟨D1, a1, a2, a3, a4⟩ := Tr.run ht (by omega) D hD
  obtain ⟨D2, b1, b2, b3, b4, b5⟩ := Fo.run hr (by omega) D1 a1
  have l1 := ht.le
  have l2 := hr.le
  have hdj : dAt D2 (j : Int) = (h1 : Int) := by
   rw [← a3]
   unfold dAt
   rw [← b2, List.getElem?_take, if_pos (by omega)]
  refine ⟨D2, b1, ?_, fun a ha => ?_, ?_, fun c S => ?_⟩
  ·have := take_take_eq (A := D) (B := D1) (C := D2) (by rw [hD]; exact a2) (by rw [a1]; exact b2) (by omega)
   rw [hD] at this; exact this
  ·simp only [mxH, hdj]
   rw [b3 _ (by omega)]
   omega
  ·simp only [stK, kAt_of hj, hs, b4]; rfl
  ·rw [show c + (hi - lo) = (c + (hi - (j+1))) + (j + 1 - lo) by omega, a4, b5]
   simp
end
inductive Rw (N : List tree_Node) (D : List Int) : Nat → Nat → List Int → Prop
 | nil {lo : Nat} : Rw N D lo lo []
 | cons {lo hi j h : Nat} {r : List Int} {n : tree_Node} (hn : N[j]? = some n) (hD : D[j]? = some (h : Int)) (hh : h ≤ 64) (ht : Tr N lo j h) (hr : Rw N D (j+1) hi r) : Rw N D lo hi ((j : Int) :: r)
theorem Rw.le {N : List tree_Node} {D : List Int} {lo hi : Nat} {l : List Int} (h : Rw N D lo hi l) : lo ≤ hi ∧ ∀ x, x ∈ l → 0 ≤ x ∧ x < (hi : Int) ∧ x < (D.length : Int) ∧ x < (N.length : Int) := by
 induction h with
 | nil => exact ⟨Nat.le_refl _, fun x hx => by simp at hx⟩
 | cons hn hD hh ht hr ih =>
  have a := ht.le
  have b := (List.getElem?_eq_some_iff.1 hD).1
  have c := (List.getElem?_eq_some_iff.1 hn).1
  refine ⟨by omega, fun x hx => ?_⟩
  rcases List.mem_cons.1 hx with rfl | hx
  ·exact ⟨by omega, by omega, by omega, by omega⟩
  ·exact ih.2 x hx
theorem Rw.mono {N : List tree_Node} {D : List Int} {x : List Int} {lo hi : Nat} {l : List Int} (h : Rw N D lo hi l) : Rw N (D ++ x) lo hi l := by
 induction h with
 | nil => exact .nil
 | cons hn hD hh ht hr ih =>
  refine .cons hn ?_ hh ht ih
  rw [List.getElem?_append_left (List.getElem?_eq_some_iff.1 hD).1]; exact hD
theorem Rw.split {N : List tree_Node} {D : List Int} : ∀ {l1 l2 : List Int} {lo hi : Nat}, Rw N D lo hi (l1 ++ l2) → ∃ mid, Rw N D lo mid l1 ∧ Rw N D mid hi l2
 | [], l2, lo, hi, h => ⟨lo, .nil, h⟩
 | x :: l1, l2, lo, hi, h => by
  cases h with
  | cons hn hD hh ht hr =>
   obtain ⟨mid, h1, h2⟩ := Rw.split hr
   exact ⟨mid, .cons hn hD hh ht h1, h2⟩
theorem Rw.snoc {N : List tree_Node} {D : List Int} {lo mid j h : Nat} {l : List Int} {n : tree_Node} (hl : Rw N D lo mid l) (hn : N[j]? = some n) (hD : D[j]? = some (h : Int)) (hh : h ≤ 64) (ht : Tr N mid j h) : Rw N D lo (j+1) (l ++ [(j : Int)]) := by
 induction hl with
 | nil => exact .cons hn hD hh ht .nil
 | cons hn' hD' hh' ht' hr ih => exact .cons hn' hD' hh' ht' (ih ht)
theorem Rw.fo {N : List tree_Node} {D : List Int} {P : Nat → Bool × Bool × Bool} {lo hi : Nat} {l : List Int} (hl : Rw N D lo hi l) : ∀ {k : Nat}, stK N P k l = true → ∃ h : Nat, Fo N P k lo hi l h ∧ h ≤ 64 ∧ ∀ a : Int, 0 ≤ a → mxH D a l = max a (h : Int) := by
 induction hl with
 | nil => intro k _; exact ⟨0, .nil, by omega, fun a ha => by simp only [mxH]; omega⟩
 | cons hn hD hh ht hr ih =>
  intro k hs
  simp only [stK, Bool.and_eq_true, kAt_of hn] at hs
  obtain ⟨h2, f, hh2, hm⟩ := ih hs.2
  refine ⟨_, .cons hn hs.1 ht f, by omega, fun a ha => ?_⟩
  simp only [mxH, dAt_of hD]
  rw [hm _ (by omega)]
  omega
theorem stepM_rw {N : List tree_Node} {i : Nat} {S D S' D' : List Int} (h : stepM N i S D = some (S', D')) (hD : D.length = i) (hR : Rw N D 0 i S) : D'.length = i + 1 ∧ Rw N D' 0 (i+1) S' := by
  unfold stepM at h
  split at h
  · cases h
  · rename_i n hn
    split at h
    · rename_i hc
      obtain ⟨c1, c2, c3, c4, c5⟩ := hc
      simp only [Option.some.injEq, Prod.mk.injEq] at h
      obtain ⟨rfl, rfl⟩ := h
      have hS : S.take (S.length - n.Kids.length) ++ n.Kids = S := by
        conv => lhs; rhs; rw [← c3]
        exact List.take_append_drop _ _
      rw [← hS] at hR
      obtain ⟨mid, r1, r2⟩ := hR.split
      obtain ⟨h, f, hh, hm⟩ := r2.fo c4
      have hmx := hm 0 (by omega)
      refine ⟨by simp [hD], ?_⟩
      refine Rw.snoc r1.mono hn (h := h + 1) ?_ (by omega) (.mk hn c1 f)
      rw [← hD]
      simp
      omega
    · cases h
theorem mach_rw {N : List tree_Node} : ∀ (c i : Nat) (S D S' : List Int), mach N c i S D = some S' → D.length = i → Rw N D 0 i S → ∃ D', Rw N D' 0 (i + c) S'
 | 0, i, S, D, S', h, hD, hR => by simp only [mach, Option.some.injEq] at h; subst h; exact ⟨D, hR⟩
 | c+1, i, S, D, S', h, hD, hR => by
  simp only [mach] at h
  split at h
  ·rename_i S1 D1 e
   obtain ⟨h1, h2⟩ := stepM_rw e hD hR
   obtain ⟨D', h3⟩ := mach_rw c (i+1) S1 D1 S' h h1 h2
   exact ⟨D', by rw [show i + (c + 1) = i + 1 + c by omega]; exact h3⟩
  ·cases h
def machB (m : tree_Method) : Bool := match mach m.Nodes m.Nodes.length 0 [] [] with
 | some S => decide (S = m.Body) && stK m.Nodes (bodyP m.Body.length) 0 m.Body
 | none => false
theorem machB_iff (m : tree_Method) : machB m = true ↔ TreesOk m := by
 unfold machB
 constructor
 ·intro h
  split at h
  ·rename_i S e
   simp only [Bool.and_eq_true, decide_eq_true_eq] at h
   obtain ⟨rfl, h2⟩ := h
   obtain ⟨D', hR⟩ := mach_rw _ _ _ _ _ e rfl .nil
   obtain ⟨h, f, hh, _⟩ := hR.fo h2
   rw [Nat.zero_add] at f
   exact ⟨h, f, hh⟩
  ·cases h
 ·rintro ⟨h, f, hh⟩
  obtain ⟨D', d1, d2, d3, d4, d5⟩ := Fo.run f hh [] rfl
  have := d5 0 []
  rw [Nat.zero_add, Nat.sub_zero, List.nil_append] at this
  rw [this]
  simp [mach, d4]
end Go.Cq

set_option maxRecDepth 100000
namespace Go.Cq
open Go Go.Av
theorem mayB_13 {n : tree_Node} (h : mayB n = true) : n.K ≤ 13 := by
 rcases Int.lt_or_le 13 n.K with h' | h'
 ·exfalso
  unfold mayB at h
  rw [if_neg (by omega), if_neg (by omega), if_neg (by omega), if_neg (by omega), if_neg (by omega), if_neg (by omega), if_neg (by omega), if_neg (by omega), if_neg (by omega), if_neg (by omega)] at h
  cases h
 ·exact h'
theorem may_l1 (m : ref14_Method) (hN : NodesOk (giveM m).Nodes) (K : List Int → Option Bool) :
  ∀ (c i q : Nat) (S D : List Int), i + c = m.Nodes.length → c < q → (∀ j, j ∈ S → 0 ≤ j ∧ j < (i : Int)) → D.length = i → S.length ≤ i →
   ref14_May_l1 m K q S D (i : Int) = match mach (giveM m).Nodes c i S D with | some S' => K S' | none => some false := by
 have hlen : m.Nodes.length ≤ 100000 := by have := hN.len; simpa [giveM] using this
 intro c
 induction c with
 | zero =>
  intro i q S D hi hq hS hD hl
  obtain ⟨q, rfl⟩ : ∃ q', q = q' + 1 := ⟨q - 1, by omega⟩
  obtain rfl : i = m.Nodes.length := by omega
  simp only [ref14_May_l1, mach]
  rw [ge_len, ifF]
 | succ c ih =>
  intro i q S D hi hq hS hD hl
  obtain ⟨q, rfl⟩ : ∃ q', q = q' + 1 := ⟨q - 1, by omega⟩
  have hil : i < m.Nodes.length := by omega
  obtain ⟨n, hn⟩ : ∃ n, m.Nodes[i]? = some n := ⟨_, List.getElem?_eq_getElem hil⟩
  have hn' := nodes_get hn
  have hnN := List.mem_of_getElem? hn'
  have hk0 : n.Kids.length ≤ 100000 := hN.kids _ hnN
  have hshape := shape_eq n (hN.k0 _ hnN) (hN.s _ hnN) (hN.l _ hnN) (by unfold bigN; omega)
  simp only [ref14_May_l1, mach]
  rw [lt_len hil, if_pos rfl, lAt_nat hn, bindS, hshape, bindS]
  have hst : stepM (giveM m).Nodes i S D = if mayB (giveNode n) = true ∧ n.Kids.length ≤ S.length ∧ S.drop (S.length - n.Kids.length) = n.Kids ∧ stK (giveM m).Nodes (placesB (giveNode n)) 0 n.Kids = true ∧ mxH D 0 n.Kids < 64 then
   some (S.take (S.length - n.Kids.length) ++ [(i : Int)], D ++ [mxH D 0 n.Kids + 1]) else none := by unfold stepM; rw [hn']; rfl
  cases hm : mayB (giveNode n) with
  | false =>
   have h0 : stepM (giveM m).Nodes i S D = none := by rw [hst]; exact if_neg (fun h => by rw [hm] at h; cases h.1)
   rw [h0, Bool.not_false, if_pos rfl, bindS, if_pos rfl]
  | true =>
   rw [Bool.not_true, ifF, bindS]
   by_cases hk : n.Kids.length ≤ S.length
   ·rw [decide_eq_false (by omega), ifF, letK_e]
    have hl2 := may_l2 m hlen S D n (fun (v52 : Int) =>
     if (decide ((64 : Int) ≤ v52)) then
      some false
     else
      (ck (v52 + 1)).bind fun v54 =>
      (app 8 D ([v54] : List Int)).bind fun v57 =>
      (ck ((S.length : Int) - (n.Kids.length : Int))).bind fun v59 =>
      (sub S 0 v59).bind fun v62 =>
      (app 8 ([] : List Int) v62).bind fun v65 =>
      (app 8 v65 ([(i : Int)] : List Int)).bind fun v68 =>
      (ck ((i : Int) + 1)).bind fun v70 =>
      ref14_May_l1 m K q v68 v57 v70) hk (by omega) (fun j hj => by have := hS j hj; omega) (mayB_13 hm) (S.drop (S.length - n.Kids.length)) 0 fuel 0 rfl (Nat.zero_le _) (by unfold fuel; omega)
    rw [show ((0 : Nat) : Int) = 0 from rfl] at hl2
    rw [hl2, List.drop_zero]
    by_cases he : n.Kids = S.drop (S.length - n.Kids.length)
    ·by_cases hs : stK (giveM m).Nodes (placesB (giveNode n)) 0 n.Kids = true
     ·rw [if_pos ⟨he, by rw [← he]; exact hs⟩, ← he]
      by_cases hx : mxH D 0 n.Kids < 64
      ·have hx0 : ∀ (l : List Int) (a : Int), 0 ≤ a → 0 ≤ mxH D a l := fun l => by
        induction l with
        | nil => intro a ha; exact ha
        | cons j r ihl => intro a ha; exact ihl _ (by omega)
       have hx1 := hx0 n.Kids 0 (by omega)
       have e59 : (S.length : Int) - (n.Kids.length : Int) = ((S.length - n.Kids.length : Nat) : Int) := by omega
       rw [decide_eq_false (by omega), ifF, ck_of (by omega) (by omega), bindS, app_of (by simp; omega) (by simp; omega), bindS, e59, ckn (by omega), bindS, sub0 (by omega), bindS,
        app_of (by simp; omega) (by simp; omega), bindS, app_of (by simp; omega) (by simp; omega), bindS, cks (by omega), bindS, hst, if_pos ⟨hm, hk, he.symm, hs, hx⟩]
       dsimp only
       rw [List.nil_append]
       refine ih (i+1) q _ _ (by omega) (by omega) (fun j hj => ?_) (by simp [hD]) (by simp; omega)
       rcases List.mem_append.1 hj with hj | hj
       ·have := hS j (List.mem_of_mem_take hj)
        omega
       ·simp at hj; omega
      ·rw [decide_eq_true (by omega), if_pos rfl, hst, if_neg (fun h => hx h.2.2.2.2)]
     ·rw [if_neg (fun h => hs (by rw [he]; exact h.2)), hst, if_neg (fun h => hs h.2.2.2.1)]
    ·rw [if_neg (fun h => he h.1), hst, if_neg (fun h => he h.2.2.1.symm)]
   ·rw [decide_eq_true (by omega), if_pos rfl, hst, if_neg (fun h => hk h.2.1)]
theorem may14_eq (m : ref14_Method) (hN : NodesOk (giveM m).Nodes) (hb : m.Body.length ≤ 100000) (hs : m.Sel.length ≤ 1000000) (ha : m.Args.length ≤ 100000) (ht : m.Temps.length ≤ 100000) :
    ref14_May m = some (headOk (giveM m) && machB (giveM m)) := by
  have hlen : m.Nodes.length ≤ 100000 := by have := hN.len; simpa [giveM] using this
  unfold ref14_May
  have hal : (m.Args ++ m.Temps).length ≤ bigN := by simp; unfold bigN; omega
  have hv : ref14_Vars (m.Args ++ m.Temps) 16 = some (decide ((m.Args ++ m.Temps).length ≤ 16) && unB (m.Args ++ m.Temps) 0 (m.Args ++ m.Temps)) := vars_eq _ 16 hal
  have hle : ∀ (a b : Nat), decide ((a : Int) < (b : Int)) = !decide (b ≤ a) := fun a b => by
    by_cases h : b ≤ a
    · rw [decide_eq_true h, decide_eq_false (by omega)]; rfl
    · rw [decide_eq_false h, decide_eq_true (by omega)]; rfl
  have h2 : decide ((500 : Int) < (m.Nodes.length : Int)) = !decide (m.Nodes.length ≤ 500) := hle 500 _
  have h3 : decide ((500 : Int) < (m.Body.length : Int)) = !decide (m.Body.length ≤ 500) := hle 500 _
  rw [app_of (l := []) (m := m.Args) (by simp; omega) (by simp; omega), bindS, List.nil_append, app_of (l := m.Args) (m := m.Temps) (by omega) (by omega), bindS, takes_eq, bindS, hv, h2, h3, bindS]
  have hg : headOk (giveM m) = (takesB m.Sel (m.Args.length : Int) && (decide ((m.Args ++ m.Temps).length ≤ 16) && (unB (m.Args ++ m.Temps) 0 (m.Args ++ m.Temps) && (decide (m.Nodes.length ≤ 500) && decide (m.Body.length ≤ 500))))) := by
    unfold headOk giveM
    simp only [List.length_map]
  have hh : (if (!takesB m.Sel (m.Args.length : Int)) then some true else if (!(decide ((m.Args ++ m.Temps).length ≤ 16) && unB (m.Args ++ m.Temps) 0 (m.Args ++ m.Temps))) then some true else if (!decide (m.Nodes.length ≤ 500)) then some true else some (!decide (m.Body.length ≤ 500))) = some (!headOk (giveM m)) := by
    rw [hg]
    cases takesB m.Sel (m.Args.length : Int) <;> cases decide ((m.Args ++ m.Temps).length ≤ 16) <;> cases unB (m.Args ++ m.Temps) 0 (m.Args ++ m.Temps) <;> cases decide (m.Nodes.length ≤ 500) <;> cases decide (m.Body.length ≤ 500) <;> rfl
  rw [hh, bindS]
  cases hk : headOk (giveM m) with
  | false => rw [Bool.not_false, if_pos rfl, Bool.false_and]
  | true =>
    rw [Bool.not_true, ifF, letK_e, Bool.true_and]
    have h1 := may_l1 m hN (fun (v71 : (List Int)) =>
      if (!decide ((v71.length : Int) = (m.Body.length : Int))) then
        some false
      else
        letK (fun (_ : Unit) =>
          some true
        ) fun (K73 : (Unit → Option Bool)) =>
        ref14_May_l3 m v71 K73 fuel 0) m.Nodes.length 0 fuel [] [] (by omega) (by unfold fuel; omega) (fun j hj => by simp at hj) rfl (by simp)
    rw [show ((0 : Nat) : Int) = 0 from rfl] at h1
    rw [h1]
    have hnl : (giveM m).Nodes.length = m.Nodes.length := by simp [giveM]
    unfold machB
    rw [hnl]
    cases hma : mach (giveM m).Nodes m.Nodes.length 0 [] [] with
    | none => rfl
    | some S =>
      dsimp only
      by_cases hl : S.length = m.Body.length
      · obtain ⟨D', hR⟩ := mach_rw _ _ _ _ _ hma rfl .nil
        have hle := hR.le
        have h3 := may_l3 m hlen S (fun _ => some true) hl (by omega) (fun j hj => by have := hle.2 j hj; rw [hnl] at this; omega) S 0 fuel rfl (Nat.zero_le _) (by unfold fuel; omega)
        rw [show ((0 : Nat) : Int) = 0 from rfl] at h3
        rw [decide_eq_true (by omega), Bool.not_true, ifF, letK_e, h3, List.drop_zero]
        have hbd : (giveM m).Body = m.Body := rfl
        rw [hbd]
        by_cases he : m.Body = S
        · subst he
          rw [decide_eq_true rfl, Bool.true_and]
          cases stK (giveM m).Nodes (bodyP m.Body.length) 0 m.Body with
          | true => rw [if_pos ⟨rfl, rfl⟩]
          | false => rw [if_neg (fun h => by cases h.2)]
        · rw [if_neg (fun h => he h.1), decide_eq_false (Ne.symm he), Bool.false_and]
      · have : S ≠ (giveM m).Body := fun e => hl (by rw [e]; rfl)
        rw [decide_eq_false (by omega), Bool.not_false, if_pos rfl, decide_eq_false this, Bool.false_and]
theorem check_may (m : ref14_Method) (hN : NodesOk (giveM m).Nodes) (hb : m.Body.length ≤ 100000) (hs : m.Sel.length ≤ 1000000) (ha : m.Args.length ≤ 100000) (ht : m.Temps.length ≤ 100000) :
  tree_Check (giveM m) = some (if (headOk (giveM m) && machB (giveM m)) = true then none else some 1) := by
 obtain ⟨b, h1, h2⟩ := check_eq (giveM m) hN hb hs ha ht
 have : b = (headOk (giveM m) && machB (giveM m)) := by
  rw [Bool.eq_iff_iff, h2, Bool.and_eq_true, machB_iff]
 rw [h1, this]
end Go.Cq

