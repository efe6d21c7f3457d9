import Derived.Test.YtmedpledgchipaaGreatDoorLH
import Derived.Test.YtmedpledgchipaaGreatDoorLN
set_option linter.unusedSectionVars false
set_option linter.unusedVariables false
set_option linter.unusedSimpArgs false
set_option linter.unnecessarySimpa false
set_option maxRecDepth 100000
namespace Go.Cq
open Go Go.Av
theorem all_run {α : Type} (l : List α) (hl : l.length ≤ 100000) (F : Nat → Int → Option Bool) (hstep : ∀ (q j : Nat), j < l.length → F (q+1) (j : Int) = F q ((j + 1 : Nat) : Int)) (hend : ∀ q, F (q+1) (l.length : Int) = some true) : F fuel 0 = some true := by
 have key : ∀ (n q i : Nat), l.length - i ≤ n → n < q → i ≤ l.length → F q (i : Int) = some true := by
  intro n
  induction n with
  | zero =>
   intro q i h1 h2 h3
   obtain ⟨q, rfl⟩ : ∃ q', q = q' + 1 := ⟨q - 1, by omega⟩
   obtain rfl : i = l.length := by omega
   exact hend q
  | succ n ih =>
   intro q i h1 h2 h3
   obtain ⟨q, rfl⟩ : ∃ q', q = q' + 1 := ⟨q - 1, by omega⟩
   by_cases hi : i < l.length
   ·rw [hstep q i hi]
    exact ih q (i + 1) (by omega) (by omega) (by omega)
   ·obtain rfl : i = l.length := by omega
    exact hend q
 exact key l.length fuel 0 (by omega) (by unfold fuel; omega) (by omega)
theorem eqB_refl (l : List Int) (hl : l.length ≤ 100000) : slices_Equal_Lbyte_byte l l = some true := by
 unfold slices_Equal_Lbyte_byte
 rw [decide_eq_true rfl, Bool.not_true, ifF, letK_e]
 refine all_run l hl (fun q i => slices_Equal_Lbyte_byte_l1 l l (fun _ => some true) q i) (fun q j hj => ?_) (fun q => ?_)
 ·simp only [slices_Equal_Lbyte_byte_l1]
  rw [lt_len hj, if_pos rfl, lAt_nat (List.getElem?_eq_getElem hj), bindS, bindS, decide_eq_true rfl, Bool.not_true, ifF, cks (by omega), bindS]
 ·simp only [slices_Equal_Lbyte_byte_l1]
  rw [ge_len, ifF]
theorem eqL_refl (l : List method_Lit) (hl : l.length ≤ 100000) : slices_Equal_Lmethod_Lit_method_Lit l l = some true := by
 unfold slices_Equal_Lmethod_Lit_method_Lit
 rw [decide_eq_true rfl, Bool.not_true, ifF, letK_e]
 refine all_run l hl (fun q i => slices_Equal_Lmethod_Lit_method_Lit_l1 l l (fun _ => some true) q i) (fun q j hj => ?_) (fun q => ?_)
 ·simp only [slices_Equal_Lmethod_Lit_method_Lit_l1]
  rw [lt_len hj, if_pos rfl, lAt_nat (List.getElem?_eq_getElem hj), bindS, bindS, decide_eq_true rfl, Bool.true_and, beq_self_eq_true, Bool.not_true, ifF, cks (by omega), bindS]
 ·simp only [slices_Equal_Lmethod_Lit_method_Lit_l1]
  rw [ge_len, ifF]
theorem eqP_refl (l : List method_Part) (hl : l.length ≤ 100000) (hc : ∀ x, x ∈ l → x.Code.length ≤ 100000) : slices_EqualFunc_Lmethod_Part_Lmethod_Part_method_Part_method_Part l l method_Part_same = some true := by
 unfold slices_EqualFunc_Lmethod_Part_Lmethod_Part_method_Part_method_Part
 rw [decide_eq_true rfl, Bool.not_true, ifF, letK_e]
 refine all_run l hl (fun q i => slices_EqualFunc_Lmethod_Part_Lmethod_Part_method_Part_method_Part_l1 l l method_Part_same (fun _ => some true) q i) (fun q j hj => ?_) (fun q => ?_)
 ·have hs : method_Part_same l[j] l[j] = some true := by
   unfold method_Part_same
   rw [decide_eq_true rfl, decide_eq_true rfl, decide_eq_true rfl, eqB_refl _ (hc _ (List.getElem_mem hj))]
   rfl
  simp only [slices_EqualFunc_Lmethod_Part_Lmethod_Part_method_Part_method_Part_l1]
  rw [lt_len hj, if_pos rfl, lAt_nat (List.getElem?_eq_getElem hj), bindS, bindS, hs, bindS, Bool.not_true, ifF, cks (by omega), bindS]
 ·simp only [slices_EqualFunc_Lmethod_Part_Lmethod_Part_method_Part_method_Part_l1]
  rw [ge_len, ifF]
theorem same_refl (m : method_Method) (h1 : m.Lits.length ≤ 100000) (h2 : m.Parts.length ≤ 100000) (hc : ∀ x, x ∈ m.Parts → x.Code.length ≤ 100000) : method_Same m m = some true := by
 unfold method_Same
 rw [beq_self_eq_true, ifT, eqL_refl _ h1, bindS, ifT, eqP_refl _ h2 hc]
 rfl
end Go.Cq

set_option maxRecDepth 100000
namespace Go.Cq
open Go Go.Av
def giveLit (l : ref09_Lit) : method_Lit := ⟨l.K, l.S⟩
def givePart (p : ref09_Part) : method_Part := ⟨p.Outer, p.Args, p.Temps, p.Code⟩
def giveM (m : ref09_Method) : method_Method := ⟨m.Sel, m.Lits.map giveLit, m.Parts.map givePart⟩
structure SmallM (m : ref09_Method) : Prop where
 sel : m.Sel.length ≤ 1100
 lits : m.Lits.length ≤ 70
 parts : m.Parts.length ≤ 70
 strs : ∀ l, l ∈ m.Lits → l.S.length ≤ 1100
 codes : ∀ p, p ∈ m.Parts → p.Code.length ≤ 600
theorem big_run (m : ref09_Method) : law09_bigMethod m = some true ∨ (law09_bigMethod m = some false ∧ SmallM m) := by
  unfold law09_bigMethod
  by_cases h : (((decide ((1100 : Int) < (m.Sel.length : Int))) || (decide ((70 : Int) < (m.Lits.length : Int)))) || (decide ((70 : Int) < (m.Parts.length : Int)))) = true
  · rw [if_pos h]; exact .inl rfl
  rw [if_neg h]
  simp only [Bool.or_eq_true, decide_eq_true_eq, not_or] at h
  obtain ⟨⟨s1, s2⟩, s3⟩ := h
  rw [letK_e, letK_e]
  have k2 : ∀ (n q i : Nat), m.Parts.length - i ≤ n → n < q → i ≤ m.Parts.length → (∀ j x, j < i → m.Parts[j]? = some x → x.Code.length ≤ 600) →
      law09_bigMethod_l2 m (fun _ => some false) q (i : Int) = some true ∨ (law09_bigMethod_l2 m (fun _ => some false) q (i : Int) = some false ∧ ∀ x, x ∈ m.Parts → x.Code.length ≤ 600) := by
    intro n
    induction n with
    | zero =>
      intro q i h1 h2 h3 h4
      obtain ⟨q, rfl⟩ : ∃ q', q = q' + 1 := ⟨q - 1, by omega⟩
      obtain rfl : i = m.Parts.length := by omega
      simp only [law09_bigMethod_l2]
      rw [ge_len]
      simp only [ifF]
      exact .inr ⟨by first | rfl | trivial, fun x hx => by obtain ⟨j, hj⟩ := List.getElem?_of_mem hx; exact h4 j x (List.getElem?_eq_some_iff.1 hj).1 hj⟩
    | succ n ih =>
      intro q i h1 h2 h3 h4
      obtain ⟨q, rfl⟩ : ∃ q', q = q' + 1 := ⟨q - 1, by omega⟩
      simp only [law09_bigMethod_l2]
      by_cases hi : i < m.Parts.length
      · have hx : m.Parts[i]? = some m.Parts[i] := List.getElem?_eq_getElem hi
        have hck : ck ((i : Int) + 1) = some ((i + 1 : Nat) : Int) := cks (by omega)
        rw [lt_len hi, lAt_nat hx]
        simp only [if_true, bindS, hck]
        by_cases hs : 600 < m.Parts[i].Code.length
        · rw [decide_eq_true (by omega)]; exact .inl rfl
        · rw [decide_eq_false (by omega)]
          simp only [ifF]
          exact ih q (i + 1) (by omega) (by omega) (by omega) (fun j x hj hjx => by
            by_cases e : j = i
            · subst e; rw [hx] at hjx; cases hjx; omega
            · exact h4 j x (by omega) hjx)
      · obtain rfl : i = m.Parts.length := by omega
        rw [ge_len]
        simp only [ifF]
        exact .inr ⟨by first | rfl | trivial, fun x hx => by obtain ⟨j, hj⟩ := List.getElem?_of_mem hx; exact h4 j x (List.getElem?_eq_some_iff.1 hj).1 hj⟩
  have k1 : ∀ (n q i : Nat), m.Lits.length - i ≤ n → n < q → i ≤ m.Lits.length → (∀ j x, j < i → m.Lits[j]? = some x → x.S.length ≤ 1100) →
      law09_bigMethod_l1 m (fun _ => law09_bigMethod_l2 m (fun _ => some false) fuel 0) q (i : Int) = some true ∨ (law09_bigMethod_l1 m (fun _ => law09_bigMethod_l2 m (fun _ => some false) fuel 0) q (i : Int) = some false ∧ SmallM m) := by
    have hend : (∀ j x, j < m.Lits.length → m.Lits[j]? = some x → x.S.length ≤ 1100) → law09_bigMethod_l2 m (fun _ => some false) fuel 0 = some true ∨ (law09_bigMethod_l2 m (fun _ => some false) fuel 0 = some false ∧ SmallM m) := fun hL => by
      rcases k2 m.Parts.length fuel 0 (by omega) (by unfold fuel; omega) (by omega) (fun j x hj => by omega) with h | ⟨h, h2⟩
      · exact .inl h
      · exact .inr ⟨h, by omega, by omega, by omega, fun l hl => by obtain ⟨j, hj⟩ := List.getElem?_of_mem hl; exact hL j l (List.getElem?_eq_some_iff.1 hj).1 hj, h2⟩
    intro n
    induction n with
    | zero =>
      intro q i h1 h2 h3 h4
      obtain ⟨q, rfl⟩ : ∃ q', q = q' + 1 := ⟨q - 1, by omega⟩
      obtain rfl : i = m.Lits.length := by omega
      simp only [law09_bigMethod_l1]
      rw [ge_len]
      simp only [ifF]
      exact hend h4
    | succ n ih =>
      intro q i h1 h2 h3 h4
      obtain ⟨q, rfl⟩ : ∃ q', q = q' + 1 := ⟨q - 1, by omega⟩
      simp only [law09_bigMethod_l1]
      by_cases hi : i < m.Lits.length
      · have hx : m.Lits[i]? = some m.Lits[i] := List.getElem?_eq_getElem hi
        have hck : ck ((i : Int) + 1) = some ((i + 1 : Nat) : Int) := cks (by omega)
        rw [lt_len hi, lAt_nat hx]
        simp only [if_true, bindS, hck]
        by_cases hs : 1100 < m.Lits[i].S.length
        · rw [decide_eq_true (by omega)]; exact .inl rfl
        · rw [decide_eq_false (by omega)]
          simp only [ifF]
          exact ih q (i + 1) (by omega) (by omega) (by omega) (fun j x hj hjx => by
            by_cases e : j = i
            · subst e; rw [hx] at hjx; cases hjx; omega
            · exact h4 j x (by omega) hjx)
      · obtain rfl : i = m.Lits.length := by omega
        rw [ge_len]
        simp only [ifF]
        exact hend h4
  exact k1 m.Lits.length fuel 0 (by omega) (by unfold fuel; omega) (by omega) (fun j x hj => by omega)
theorem give_run {m : ref09_Method} (hm : SmallM m) : law09_giveMethod m = some (giveM m) := by
 have h1 := hm.lits
 have h2 := hm.parts
 have k1 : ∀ (n q i : Nat), m.Lits.length - i ≤ n → n < q → i ≤ m.Lits.length → law09_giveMethod_l1 m q (i : Int) ((m.Lits.take i).map giveLit) = some (m.Lits.map giveLit) := by
  intro n
  induction n with
  | zero =>
   intro q i h1 h2 h3
   obtain ⟨q, rfl⟩ : ∃ q', q = q' + 1 := ⟨q - 1, by omega⟩
   obtain rfl : i = m.Lits.length := by omega
   simp only [law09_giveMethod_l1]
   rw [ge_len, ifF, List.take_length]
  | succ n ih =>
   intro q i h3 h4 h5
   obtain ⟨q, rfl⟩ : ∃ q', q = q' + 1 := ⟨q - 1, by omega⟩
   simp only [law09_giveMethod_l1]
   by_cases hi : i < m.Lits.length
   ·rw [lt_len hi, if_pos rfl, lAt_nat (List.getElem?_eq_getElem hi), bindS, app_of (by simp; omega) (by simp; omega), bindS, cks (by omega), bindS]
    have := ih q (i + 1) (by omega) (by omega) (by omega)
    rw [List.take_succ_eq_append_getElem hi, List.map_append] at this
    exact this
   ·obtain rfl : i = m.Lits.length := by omega
    rw [ge_len, ifF, List.take_length]
 have k2 : ∀ (n q i : Nat), m.Parts.length - i ≤ n → n < q → i ≤ m.Parts.length → law09_giveMethod_l2 m q (i : Int) ((m.Parts.take i).map givePart) = some (m.Parts.map givePart) := by
  intro n
  induction n with
  | zero =>
   intro q i h1 h2 h3
   obtain ⟨q, rfl⟩ : ∃ q', q = q' + 1 := ⟨q - 1, by omega⟩
   obtain rfl : i = m.Parts.length := by omega
   simp only [law09_giveMethod_l2]
   rw [ge_len, ifF, List.take_length]
  | succ n ih =>
   intro q i h3 h4 h5
   obtain ⟨q, rfl⟩ : ∃ q', q = q' + 1 := ⟨q - 1, by omega⟩
   simp only [law09_giveMethod_l2]
   by_cases hi : i < m.Parts.length
   ·have hcl := hm.codes _ (List.getElem_mem hi)
    rw [lt_len hi, if_pos rfl, lAt_nat (List.getElem?_eq_getElem hi), bindS, app_of (by simp; omega) (by simp; omega), bindS, List.nil_append, app_of (by simp; omega) (by simp; omega), bindS, cks (by omega), bindS]
    have := ih q (i + 1) (by omega) (by omega) (by omega)
    rw [List.take_succ_eq_append_getElem hi, List.map_append] at this
    exact this
   ·obtain rfl : i = m.Parts.length := by omega
    rw [ge_len, ifF, List.take_length]
 unfold law09_giveMethod
 have e1 := k1 m.Lits.length fuel 0 (by omega) (by unfold fuel; omega) (by omega)
 have e2 := k2 m.Parts.length fuel 0 (by omega) (by unfold fuel; omega) (by omega)
 rw [List.take_zero, List.map_nil, show ((0 : Nat) : Int) = 0 from rfl] at e1 e2
 rw [e1, bindS, e2, bindS]
 rfl
theorem szM {m : ref09_Method} (hm : SmallM m) (hb : ∀ p, p ∈ m.Parts → bytesOk p.Code) : SzM (giveM m) := by
  have hS : ∀ l, l ∈ (giveM m).Lits → l.S.length ≤ 1100 := fun l hl => by
    obtain ⟨y, hy, rfl⟩ := List.mem_map.1 hl
    exact hm.strs y hy
  refine ⟨?_, ?_, fun l hl => by have := hS l hl; unfold bigN; omega, fun l hl => ?_, ?_, fun x hx => ?_⟩
  · have := hm.sel; show m.Sel.length ≤ bigN; unfold bigN; omega
  · have := hm.lits; simp [giveM]; omega
  · have := hS l hl
    unfold method_Check_1 method_Lit_may
    rw [number_eq l.S (by omega), arity_eq l.S (by unfold bigN; omega)]
    simp only [bindS]
    split
    · exact ⟨_, rfl⟩
    · split
      · exact ⟨_, rfl⟩
      · split <;> exact ⟨_, rfl⟩
  · have := hm.parts; simp [giveM]; omega
  · obtain ⟨y, hy, rfl⟩ := List.mem_map.1 hx
    exact hb y hy
theorem methodMore (m : ref09_Method) (of more : St53) (hb : ∀ p, p ∈ m.Parts → bytesOk p.Code) (h1 : 0 ≤ of.e0 ∧ of.e0 ≤ 255) (h2 : 0 ≤ of.e1 ∧ of.e1 ≤ 255) (h3 : 0 ≤ more.e0 ∧ more.e0 ≤ 255) (h4 : 0 ≤ more.e1 ∧ more.e1 ≤ 255) : law09_MethodMore m of more = some true := by
 unfold law09_MethodMore
 rcases big_run m with h | ⟨h, hm⟩
 ·rw [h, bindS, ifT, sure09]; rfl
 ·rw [h, bindS, ifF, give_run hm, bindS, ck_of (by omega) (by omega), bindS, ck_of (by omega) (by omega), bindS]
  obtain ⟨e, e1, e2, e3⟩ := check_run (szM hm hb) of.e0 of.e1
  rw [e1, bindS]
  rcases e2 with rfl | rfl
  ·rw [show (none : Option Int).isSome = false from rfl, ifF, ck_of (by omega) (by omega), bindS, ck_of (by omega) (by omega), bindS, ck_of (by omega) (by omega), bindS, ck_of (by omega) (by omega), bindS, e3 rfl _ _ (by omega) (by omega), bindS, show (none : Option Int).isNone = true from rfl, ifT,
    same_refl (giveM m) (by have := hm.lits; simp [giveM]; omega) (by have := hm.parts; simp [giveM]; omega) (fun x hx => by obtain ⟨y, hy, rfl⟩ := List.mem_map.1 hx; have := hm.codes y hy; show y.Code.length ≤ 100000; omega), bindS, ifT, sure09]
   rfl
  ·rw [show (some (8 : Int)).isSome = true from rfl, ifT, sure09]
   rfl
end Go.Cq

