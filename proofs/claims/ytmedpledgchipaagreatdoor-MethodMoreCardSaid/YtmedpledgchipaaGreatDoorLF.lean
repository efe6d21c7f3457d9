import Derived.Test.YtmedpledgchipaaGreatDoorLK
set_option linter.unusedSectionVars false
set_option linter.unusedVariables false
set_option linter.unusedSimpArgs false
set_option linter.unnecessarySimpa false
set_option maxRecDepth 100000
namespace Go.Cq
open Go Go.Av
theorem sortI_1 (a : Int) : sortI [a] = [a] := by
 unfold sortI
 rw [List.mergeSort]
theorem sortI_2 (a b : Int) : sortI [a, b] = if a ≤ b then [a, b] else [b, a] := by
 unfold sortI
 rw [List.mergeSort]
 simp [List.MergeSort.Internal.splitInTwo, List.merge]
theorem compact_1 (a : Int) : Lib.compact [a] = [a] := by
 have r : List.range 1 = [0] := rfl
 simp [Lib.compact, Lib.compactUpTo, r, List.filter, Lib.keeps]
theorem compact_2 (a b : Int) : Lib.compact [a, b] = if a = b then [a] else [a, b] := by
 have r : List.range 2 = [0, 1] := rfl
 by_cases h : a = b
 ·subst h; simp [Lib.compact, Lib.compactUpTo, r, List.filter, Lib.keeps]
 ·have h' : ¬ b = a := fun e => h e.symm
  simp [Lib.compact, Lib.compactUpTo, r, List.filter, Lib.keeps, h, h']
structure GoodC (c : flow_code) : Prop where
 len : c.l.length = c.at_.length
 max : c.l.length ≤ 512
 asc : Asc c.at_
 ops : ∀ o, o ∈ c.l → goodOp o
theorem read_run (b : List Int) (hb : bytesOk b) : (∃ c e, flow_read b = some (c, some e)) ∨ ∃ c, flow_read b = some (c, none) ∧ GoodC c := by
 unfold flow_read
 rw [opDecode b hb, bindS]
 by_cases h : 512 < b.length
 ·rw [if_pos h]; exact .inl ⟨_, _, rfl⟩
 ·rw [if_neg h]
  cases e : decP b.length b 0 with
  | none => exact .inl ⟨_, _, rfl⟩
  | some l =>
   refine .inr ⟨_, rfl, ?_⟩
   obtain ⟨h1, h2, h3⟩ := decP_good _ _ _ _ hb e
   refine ⟨by simp, by simp; omega, fun i j x y hij hi hj => ?_, fun o ho => ?_⟩
   ·simp only [List.getElem?_map, Option.map_eq_some_iff] at hi hj
    obtain ⟨p, hp, rfl⟩ := hi
    obtain ⟨q, hq, rfl⟩ := hj
    obtain ⟨hi1, hi2⟩ := List.getElem?_eq_some_iff.1 hp
    obtain ⟨hj1, hj2⟩ := List.getElem?_eq_some_iff.1 hq
    have := (List.pairwise_iff_getElem.1 h2) i j (by simpa using hi1) (by simpa using hj1) hij
    simp only [List.getElem_map, hi2, hj2] at this
    omega
   ·obtain ⟨p, hp, rfl⟩ := List.mem_map.1 ho
    exact (h1 p hp).1
theorem tail1 (a : Int) (n : Nat) : ((slices_Sort_int [a]).bind fun v22 => ((slices_Compact_int v22).bind fun v23 => (ck (([a].length : Int) - 1)).bind fun v24 => (lAt (zerosI v22) v24).bind fun v25 => (lAt v22 v24).bind fun v26 =>
  if (decide (v25 < (n : Int)) == decide (v26 < (n : Int))) then some (v23, decide (v25 < (n : Int))) else none).bind fun y27 => some (y27.1, y27.2)) = some ([a], decide (a < (n : Int))) := by
 unfold slices_Sort_int
 rw [bindS, sortI_1]
 unfold slices_Compact_int
 have hz : zerosI [a] = [a] := by unfold zerosI; rw [compact_1]; rfl
 have hk : ck (([a].length : Int) - 1) = some ((0 : Nat) : Int) := by simp [ck]
 rw [hz, compact_1, bindS, hk, bindS, lAt_nat (l := [a]) (j := 0) (x := a) rfl, bindS, bindS, if_pos (by simp), bindS]
theorem tail2 (a b : Int) (n : Nat) (hab : a = b → 0 < n ∧ b < (n : Int)) : ((slices_Sort_int [a, b]).bind fun v22 => ((slices_Compact_int v22).bind fun v23 => (ck (([a, b].length : Int) - 1)).bind fun v24 => (lAt (zerosI v22) v24).bind fun v25 => (lAt v22 v24).bind fun v26 =>
  if (decide (v25 < (n : Int)) == decide (v26 < (n : Int))) then some (v23, decide (v25 < (n : Int))) else none).bind fun y27 => some (y27.1, y27.2)) = some (if a = b then [a] else if a ≤ b then [a, b] else [b, a], decide (max a b < (n : Int))) := by
 unfold slices_Sort_int
 rw [bindS, sortI_2]
 unfold slices_Compact_int
 have hk : ck (([a, b].length : Int) - 1) = some ((1 : Nat) : Int) := by simp [ck]
 by_cases h : a = b
 ·subst h
  obtain ⟨h1, h2⟩ := hab rfl
  rw [if_pos (Int.le_refl _), if_pos rfl]
  have hz : zerosI [a, a] = [a, 0] := by unfold zerosI; rw [compact_2, if_pos rfl]; rfl
  rw [hz, compact_2, if_pos rfl, bindS, hk, bindS, lAt_nat (l := [a, 0]) (j := 1) (x := 0) rfl, bindS, lAt_nat (l := [a, a]) (j := 1) (x := a) rfl, bindS]
  have d1 : decide ((0 : Int) < (n : Int)) = true := decide_eq_true (by omega)
  have d2 : decide (a < (n : Int)) = true := decide_eq_true h2
  have d3 : decide (max a a < (n : Int)) = true := decide_eq_true (by omega)
  rw [d1, d2, d3]
  rfl
 ·rw [if_neg h]
  have gen : ∀ x y : Int, x ≠ y → y = max a b → ((some (Lib.compact [x, y])).bind fun v23 => (ck (([a, b].length : Int) - 1)).bind fun v24 => (lAt (zerosI [x, y]) v24).bind fun v25 => (lAt [x, y] v24).bind fun v26 =>
    if (decide (v25 < (n : Int)) == decide (v26 < (n : Int))) then some (v23, decide (v25 < (n : Int))) else none).bind (fun y27 => some (y27.1, y27.2)) = some ([x, y], decide (max a b < (n : Int))) := fun x y hxy hm => by
   have hz : zerosI [x, y] = [x, y] := by unfold zerosI; rw [compact_2, if_neg hxy]; rfl
   rw [hz, compact_2, if_neg hxy, bindS, hk, bindS, lAt_nat (l := [x, y]) (j := 1) (x := y) rfl, bindS, bindS, if_pos (by simp), bindS, hm]
  by_cases hle : a ≤ b
  ·rw [if_pos hle]
   exact gen a b h (by omega)
  ·rw [if_neg hle]
   exact gen b a (fun e => h e.symm) (by omega)
theorem next_run {c : flow_code} (hc : GoodC c) (i : Nat) (hi : i < c.l.length) : ∃ L b, flow_code_next c (i : Int) = some (L, b) ∧ L.length ≤ 2 ∧ (b = true → ∀ x, x ∈ L → ∃ k : Nat, x = (k : Int) ∧ k < c.l.length) := by
  have hx : c.l[i]? = some c.l[i] := List.getElem?_eq_getElem hi
  have hm := hc.max
  generalize c.l[i] = o at hx
  unfold flow_code_next
  rw [lAt_nat hx, bindS]
  unfold flow_ends
  rw [bindS]
  by_cases he : (((decide (o.Code = 17)) || (decide (o.Code = 18))) || (decide (o.Code = 19))) = true
  · rw [if_pos he]; exact ⟨_, _, rfl, by simp, fun _ x hx => by simp at hx⟩
  rw [if_neg he]
  have hy : (if (!decide (o.Code = 13)) then (ck ((i : Int) + 1)).bind fun v8 => (app 8 ([] : List Int) ([v8] : List Int)).bind fun v12 => some v12 else some []) = some (if o.Code = 13 then [] else [((i + 1 : Nat) : Int)]) := by
    by_cases h : o.Code = 13
    · rw [decide_eq_true h, if_pos h]; rfl
    · rw [decide_eq_false h, if_neg h, Bool.not_false, if_pos rfl, cks (by omega), bindS, app_of (by simp) (by simp), bindS]; rfl
  rw [hy, bindS, letK_e]
  have hone : ∀ a : Int, (∀ b, decide (a < (c.l.length : Int)) = b → b = true → ∃ k : Nat, a = (k : Int) ∧ k < c.l.length) → ∃ L b, some ([a], decide (a < (c.l.length : Int))) = some (L, b) ∧ L.length ≤ 2 ∧ (b = true → ∀ x, x ∈ L → ∃ k : Nat, x = (k : Int) ∧ k < c.l.length) := fun a ha =>
    ⟨_, _, rfl, by simp, fun hb x hx => by simp at hx; subst hx; exact ha _ rfl hb⟩
  by_cases hj : ((decide (o.Code = 13)) || (decide (o.Code = 14))) = true
  · rw [if_pos hj]
    rcases place_run c o.A (by rw [← hc.len]; omega) hc.asc with ⟨k, e, hk⟩ | ⟨k, e, hk⟩
    · have hkl : k < c.l.length := by rw [hc.len]; exact (List.getElem?_eq_some_iff.1 hk).1
      rw [e, bindS, Bool.not_true, ifF]
      by_cases h : o.Code = 13
      · rw [if_pos h, app_of (by simp) (by simp), bindS, List.nil_append]
        dsimp only
        rw [tail1]
        exact hone _ fun b hb hb' => ⟨k, rfl, hkl⟩
      · rw [if_neg h, app_of (by simp) (by simp), bindS, List.singleton_append]
        dsimp only
        rw [tail2 _ _ _ (fun e => ⟨by omega, by omega⟩)]
        refine ⟨_, _, rfl, by split <;> (try split) <;> simp, fun hb x hx => ?_⟩
        have hb := of_decide_eq_true hb
        have : x = ((i + 1 : Nat) : Int) ∨ x = (k : Int) := by
          split at hx
          · simp at hx; exact .inl hx
          · split at hx
            · simp at hx; exact hx
            · simp at hx; exact hx.symm
        rcases this with rfl | rfl
        · exact ⟨i + 1, rfl, by omega⟩
        · exact ⟨k, rfl, hkl⟩
    · rw [e, bindS, Bool.not_false, if_pos rfl]
      exact ⟨_, _, rfl, by simp, fun h => by cases h⟩
  · rw [if_neg hj]
    have h : ¬ o.Code = 13 := fun h => hj (by rw [decide_eq_true h]; rfl)
    rw [if_neg h]
    dsimp only
    rw [tail1]
    exact hone _ fun b hb hb' => ⟨i + 1, rfl, by subst hb; have := of_decide_eq_true hb'; omega⟩
theorem joined_run {c : flow_code} (hc : GoodC c) : ∃ b, flow_code_joined c = some b ∧ (b = true → 0 < c.l.length ∧ ∀ i, i < c.l.length → ∃ L, flow_code_next c (i : Int) = some (L, true)) := by
 have hm := hc.max
 unfold flow_code_joined
 rw [letK_e]
 have key : ∀ (n q i : Nat), c.l.length - i ≤ n → n < q → i ≤ c.l.length → (∀ j, j < i → ∃ L, flow_code_next c (j : Int) = some (L, true)) →
   ∃ b, flow_code_joined_l1 c (fun _ => some (decide ((0 : Int) < (c.l.length : Int)))) q (i : Int) = some b ∧ (b = true → 0 < c.l.length ∧ ∀ i, i < c.l.length → ∃ L, flow_code_next c (i : Int) = some (L, true)) := by
  intro n
  induction n with
  | zero =>
   intro q i h1 h2 h3 h4
   obtain ⟨q, rfl⟩ : ∃ q', q = q' + 1 := ⟨q - 1, by omega⟩
   obtain rfl : i = c.l.length := by omega
   simp only [flow_code_joined_l1]
   rw [ge_len, ifF]
   exact ⟨_, rfl, fun h => ⟨by have := of_decide_eq_true h; omega, h4⟩⟩
  | succ n ih =>
   intro q i h1 h2 h3 h4
   obtain ⟨q, rfl⟩ : ∃ q', q = q' + 1 := ⟨q - 1, by omega⟩
   simp only [flow_code_joined_l1]
   by_cases hi : i < c.l.length
   ·have hx : c.l[i]? = some c.l[i] := List.getElem?_eq_getElem hi
    obtain ⟨L, b, e, _, _⟩ := next_run hc i hi
    rw [lt_len hi, if_pos rfl, lAt_nat hx, bindS, e, bindS]
    cases b with
    | false => exact ⟨false, rfl, fun h => by cases h⟩
    | true =>
     rw [Bool.not_true, ifF, letK_e, cks (by omega), bindS]
     have hn := ih q (i + 1) (by omega) (by omega) (by omega) (fun j hj => by
      by_cases e2 : j = i
      ·subst e2; exact ⟨L, e⟩
      ·exact h4 j (by omega))
     by_cases h14 : c.l[i].Code = 14
     ·rw [decide_eq_true h14, if_pos rfl]
      rcases place_run c c.l[i].B (by rw [← hc.len]; omega) hc.asc with ⟨k, e2, hk⟩ | ⟨k, e2, hk⟩
      ·have hkl : k < c.l.length := by rw [hc.len]; exact (List.getElem?_eq_some_iff.1 hk).1
       rw [e2, bindS, Bool.not_true, ifF, lAt_nat (List.getElem?_eq_getElem hkl), bindS, bindS]
       by_cases h15 : c.l[k].Code = 15
       ·rw [decide_eq_true h15, Bool.not_true, ifF]; exact hn
       ·rw [decide_eq_false h15, Bool.not_false, if_pos rfl]; exact ⟨false, rfl, fun h => by cases h⟩
      ·rw [e2, bindS, Bool.not_false, if_pos rfl, bindS, if_pos rfl]; exact ⟨false, rfl, fun h => by cases h⟩
     ·rw [decide_eq_false h14, ifF]; exact hn
   ·obtain rfl : i = c.l.length := by omega
    rw [ge_len, ifF]
    exact ⟨_, rfl, fun h => ⟨by have := of_decide_eq_true h; omega, h4⟩⟩
 have := key c.l.length fuel 0 (by omega) (by unfold fuel; omega) (by omega) (fun j hj => by omega)
 exact this
end Go.Cq

set_option maxRecDepth 100000
namespace Go.Cq
open Go Go.Av
theorem moves_run {o : op_Op} (h : goodOp o) : ∃ t p : Nat, flow_moves o = some ((t : Int), (p : Int)) ∧ t ≤ 65536 ∧ p ≤ 2 := by
 obtain ⟨c, a, b, rfl, hc, ha, hb⟩ := h
 have hck : ck ((b : Int) + 1) = some ((b + 1 : Nat) : Int) := cks (by omega)
 have : (flow_moves ⟨(c : Int), (a : Int), (b : Int)⟩ = some (1, 0)) ∨ (flow_moves ⟨(c : Int), (a : Int), (b : Int)⟩ = (ck ((b : Int) + 1)).bind fun v14 => some (v14, 1)) ∨ (flow_moves ⟨(c : Int), (a : Int), (b : Int)⟩ = some (0, 0)) ∨ (flow_moves ⟨(c : Int), (a : Int), (b : Int)⟩ = some (1, 2)) ∨ (flow_moves ⟨(c : Int), (a : Int), (b : Int)⟩ = some (0, 1)) := by
  unfold flow_moves
  dsimp only
  generalize (c : Int) = k
  by_cases h1 : k = 6
  ·left; subst h1; rfl
  by_cases h2 : k = 8
  ·left; subst h2; rfl
  by_cases h3 : k = 9
  ·left; subst h3; rfl
  by_cases h4 : k = 14
  ·left; subst h4; rfl
  by_cases h5 : k = 17
  ·left; subst h5; rfl
  by_cases h6 : k = 19
  ·left; subst h6; rfl
  right
  rw [decide_eq_false h1, decide_eq_false h2, decide_eq_false h3, decide_eq_false h4, decide_eq_false h5, decide_eq_false h6]
  simp only [ifF, bindS]
  by_cases h7 : k = 11
  ·left; rw [decide_eq_true h7]; simp only [ifTr, ifFa, ifT, ifF, bindS]
  by_cases h8 : k = 12
  ·left; rw [decide_eq_false h7, decide_eq_true h8]; simp only [ifTr, ifFa, ifF, ifT, bindS]
  right
  rw [decide_eq_false h7, decide_eq_false h8]
  simp only [ifF, bindS]
  by_cases h9 : k = 13
  ·left; subst h9; rfl
  by_cases h10 : k = 15
  ·left; subst h10; rfl
  by_cases h11 : k = 18
  ·left; subst h11; rfl
  right
  rw [decide_eq_false h9, decide_eq_false h10, decide_eq_false h11]
  simp only [ifF, bindS]
  by_cases h12 : k = 10
  ·left; subst h12; rfl
  right
  rw [decide_eq_false h12, ifF]
 rcases this with h | h | h | h | h
 ·exact ⟨1, 0, h, by omega, by omega⟩
 ·rw [hck, bindS] at h; exact ⟨b + 1, 1, h, by omega, by omega⟩
 ·exact ⟨0, 0, h, by omega, by omega⟩
 ·exact ⟨1, 2, h, by omega, by omega⟩
 ·exact ⟨0, 1, h, by omega, by omega⟩
structure InvD (c : flow_code) (out todo : List Int) : Prop where
 len : out.length = c.l.length
 rng : ∀ x, x ∈ out → -1 ≤ x ∧ x ≤ 32
 idx : ∀ x, x ∈ todo → ∃ k : Nat, x = (k : Int) ∧ k < c.l.length
def muD (out todo : List Int) : Nat := 2 * out.count (-1) + todo.length
theorem inner_run {c : flow_code} (n : Nat) (hn : n ≤ 32) (L : List Int) (b : Bool) (hL : ∀ x, x ∈ L → ∃ k : Nat, x = (k : Int) ∧ k < c.l.length) (hL2 : L.length ≤ 2) (M : Nat) (hM : M ≤ 100000) (K : List Int → List Int → Option (List Int × Bool))
  (hK : ∀ out todo, InvD c out todo → muD out todo ≤ M → ∃ r, K out todo = some r) : ∀ (m q j : Nat) (out todo : List Int), L.length - j ≤ m → m < q → j ≤ L.length → InvD c out todo → muD out todo ≤ M →
   ∃ r, flow_code_depths_l3 (n : Int) (L, b) K q (j : Int) out todo = some r := by
 intro m
 induction m with
 | zero =>
  intro q j out todo h1 h2 h3 hI hmu
  obtain ⟨q, rfl⟩ : ∃ q', q = q' + 1 := ⟨q - 1, by omega⟩
  obtain rfl : j = L.length := by omega
  simp only [flow_code_depths_l3]
  rw [ge_len, ifF]
  exact hK out todo hI hmu
 | succ m ih =>
  intro q j out todo h1 h2 h3 hI hmu
  obtain ⟨q, rfl⟩ : ∃ q', q = q' + 1 := ⟨q - 1, by omega⟩
  simp only [flow_code_depths_l3]
  by_cases hj : j < L.length
  ·have hx : L[j]? = some L[j] := List.getElem?_eq_getElem hj
   obtain ⟨k, hk, hkl⟩ := hL L[j] (List.getElem_mem hj)
   rw [hk] at hx
   have hko : k < out.length := by rw [hI.len]; exact hkl
   have hxo : out[k]? = some out[k] := List.getElem?_eq_getElem hko
   rw [lt_len hj, if_pos rfl, lAt_nat hx, bindS, lAt_nat hxo, bindS, letK_e]
   have ht : todo.length ≤ 100000 := by unfold muD at hmu; omega
   by_cases hm1 : out[k] = -1
   ·rw [decide_eq_true hm1, if_pos rfl, app_of (by simp; omega) (by simp; omega), bindS]
    unfold stAt
    rw [bindS, Int.toNat_natCast]
    dsimp only
    rw [cks (by omega), bindS]
    have hcount : (out.set k (n : Int)).count (-1) + 1 = out.count (-1) := by
     have hc := List.count_set (l := out) (i := k) (a := (n : Int)) (b := -1) hko
     have h0 : 0 < out.count (-1) := List.count_pos_iff.2 (hm1 ▸ List.getElem_mem hko)
     have e1 : (out[k] == -1) = true := by simp [hm1]
     have e2 : ((n : Int) == -1) = false := by simp
     rw [e1, e2] at hc
     simp at hc
     omega
    exact ih q (j + 1) _ _ (by omega) (by omega) (by omega) ⟨by rw [List.length_set]; exact hI.len, fun x hx => by
      rcases List.mem_or_eq_of_mem_set hx with h | rfl
      ·exact hI.rng x h
      ·omega, fun x hx => by
      rcases List.mem_append.1 hx with h | h
      ·exact hI.idx x h
      ·simp at h; exact ⟨k, h, hkl⟩⟩ (by unfold muD at hmu ⊢; simp; omega)
   ·rw [decide_eq_false hm1, ifF]
    by_cases hnn : out[k] = (n : Int)
    ·rw [decide_eq_true hnn, if_pos rfl]
     dsimp only
     rw [cks (by omega), bindS]
     exact ih q (j + 1) out todo (by omega) (by omega) (by omega) hI hmu
    ·rw [decide_eq_false hnn, ifF]; exact ⟨_, rfl⟩
  ·obtain rfl : j = L.length := by omega
   rw [ge_len, ifF]
   exact hK out todo hI hmu
theorem outer_run {c : flow_code} (hc : GoodC c) (hJ : ∀ i, i < c.l.length → ∃ L, flow_code_next c (i : Int) = some (L, true)) : ∀ (m q : Nat) (out todo : List Int), muD out todo ≤ m → m ≤ 100000 → m < q → InvD c out todo →
  ∃ r, flow_code_depths_l1 c (fun v191 v192 => some (v191, true)) q out todo = some r := by
 intro m
 induction m with
 | zero =>
  intro q out todo h1 hm h2 hI
  obtain ⟨q, rfl⟩ : ∃ q', q = q' + 1 := ⟨q - 1, by omega⟩
  have : todo = [] := List.eq_nil_of_length_eq_zero (by unfold muD at h1; omega)
  subst this
  simp only [flow_code_depths_l1]
  exact ⟨_, rfl⟩
 | succ m ih =>
  intro q out todo h1 hm h2 hI
  obtain ⟨q, rfl⟩ : ∃ q', q = q' + 1 := ⟨q - 1, by omega⟩
  simp only [flow_code_depths_l1]
  by_cases ht : 0 < todo.length
  ·have hl : todo.length ≤ 100001 := by unfold muD at h1; omega
   have e1 : ((todo.length : Nat) : Int) - 1 = ((todo.length - 1 : Nat) : Int) := by omega
   have hx : todo[todo.length - 1]? = some todo[todo.length - 1] := List.getElem?_eq_getElem (by omega)
   obtain ⟨k, hk, hkl⟩ := hI.idx todo[todo.length - 1] (List.getElem_mem _)
   rw [hk] at hx
   have hsub : sub todo 0 ((todo.length - 1 : Nat) : Int) = some (todo.take (todo.length - 1)) := by
    unfold sub; rw [if_pos ⟨by omega, by omega, by omega⟩]; simp
   have hko : k < out.length := by rw [hI.len]; exact hkl
   have hxo : out[k]? = some out[k] := List.getElem?_eq_getElem hko
   obtain ⟨r1, r2⟩ := hI.rng out[k] (List.getElem_mem hko)
   obtain ⟨t, p, e2, ht2, hp2⟩ := moves_run (hc.ops c.l[k] (List.getElem_mem hkl))
   rw [decide_eq_true (by omega), if_pos rfl, e1, ckn (by omega), bindS, lAt_nat hx, bindS, hsub, bindS, lAt_nat (List.getElem?_eq_getElem hkl), bindS, e2, bindS, lAt_nat hxo, bindS, ck_of (by omega) (by omega), bindS, ck_of (by omega) (by omega), bindS]
   by_cases hf : ((decide (out[k] < (t : Int))) || (decide ((32 : Int) < out[k] - (t : Int) + (p : Int)))) = true
   ·rw [if_pos hf]; exact ⟨_, rfl⟩
   ·rw [if_neg hf]
    simp only [Bool.or_eq_true, decide_eq_true_eq, not_or] at hf
    obtain ⟨L, b, e3, hL2, hL⟩ := next_run hc k hkl
    obtain ⟨n, hn⟩ : ∃ n : Nat, out[k] - (t : Int) + (p : Int) = (n : Int) := ⟨(out[k] - (t : Int) + (p : Int)).toNat, by omega⟩
    rw [e3, bindS, letK_e, hn]
    cases b with
    | true =>
     refine inner_run n (by omega) L true (hL rfl) hL2 m (by omega) _ (fun out' todo' hI' hmu => ih q out' todo' hmu (by omega) (by omega) hI') L.length fuel 0 out _ (by omega) (by unfold fuel; omega) (by omega) ⟨hI.len, hI.rng, fun x hx => hI.idx x (List.mem_of_mem_take hx)⟩ ?_
     unfold muD at h1 ⊢
     rw [List.length_take]; omega
    | false =>
     obtain ⟨L', e4⟩ := hJ k hkl
     rw [e3] at e4; simp at e4
  ·rw [decide_eq_false (by omega), ifF]; exact ⟨_, rfl⟩
theorem depths_run {c : flow_code} (hc : GoodC c) : ∃ r, flow_code_depths c = some r := by
 have hm := hc.max
 unfold flow_code_depths
 obtain ⟨b, e, hb⟩ := joined_run hc
 rw [e, bindS]
 cases b with
 | false => exact ⟨_, rfl⟩
 | true =>
  obtain ⟨h0, hJ⟩ := hb rfl
  rw [Bool.not_true, ifF]
  have hr : slices_Repeat_int ([(-1)] : List Int) (c.l.length : Int) = some (List.replicate c.l.length (-1)) := by
   unfold slices_Repeat_int
   rw [if_pos ⟨rfl, by omega, by simp only [maxB]; omega⟩]
   simp
  have hx : (List.replicate c.l.length (-1 : Int))[0]? = some (-1) := by rw [List.getElem?_replicate, if_pos h0]
  rw [hr, bindS, show (0 : Int) = ((0 : Nat) : Int) from rfl, lAt_nat hx, bindS]
  unfold stAt lit1
  rw [bindS, bindS, letK_e]
  refine outer_run hc hJ 2000 fuel _ _ ?_ (by omega) (by unfold fuel; omega) ⟨by simp, fun x hx => ?_, fun x hx => ?_⟩
  ·unfold muD
   have := List.count_le_length (a := (-1 : Int)) (l := (List.replicate c.l.length (-1 : Int)).set (((0 : Nat) : Int).toNat) ((0 : Nat) : Int))
   rw [List.length_set, List.length_replicate] at this
   simp only [List.length_singleton]
   omega
  ·rcases List.mem_or_eq_of_mem_set hx with h | rfl
   ·rw [List.mem_replicate] at h; omega
   ·omega
  ·simp at hx; exact ⟨0, hx, h0⟩
theorem flowCheck_run (b : List Int) (hb : bytesOk b) : ∃ e, flow_Check b = some e := by
  unfold flow_Check flow_Depths
  rcases read_run b hb with ⟨c, e, h⟩ | ⟨c, h, hc⟩
  · rw [h, bindS]; exact ⟨_, rfl⟩
  · rw [h, bindS]
    obtain ⟨r, hr⟩ := depths_run hc
    dsimp only [Option.isSome]
    rw [ifF, hr, bindS]
    cases r.2 <;> exact ⟨_, rfl⟩
end Go.Cq

