import Derived.Test.YtmedpledgchipaaGreatDoorLF
set_option linter.unusedSectionVars false
set_option linter.unusedVariables false
set_option linter.unusedSimpArgs false
set_option linter.unnecessarySimpa false
set_option maxRecDepth 100000
namespace Go.Cq
open Go Go.Av
theorem lit_run (m : method_Method) (a : Nat) (s : Bool) : ∃ b, method_Method_lit m (a : Int) s = some b ∧ (b = true → a < m.Lits.length) := by
 unfold method_Method_lit
 by_cases h : a < m.Lits.length
 ·rw [lt_len h, if_pos rfl, lAt_nat (List.getElem?_eq_getElem h), bindS, bindS]
  exact ⟨_, rfl, fun _ => h⟩
 ·rw [decide_eq_false (by omega), ifF, bindS]
  exact ⟨false, rfl, fun h => by cases h⟩
def Chain (m : method_Method) (p : Nat) : Prop := ∀ (j : Nat) x, j ≤ p → m.Parts[j]? = some x → -1 ≤ x.Outer ∧ x.Outer < (j : Int)
theorem temp_run (m : method_Method) (p : Nat) (hp : p < m.Parts.length) (hc : Chain m p) : ∀ (n q : Nat) (v : Int), n < q → n ≤ 100000 → (v = -1 ∨ ∃ k : Nat, v = (k : Int) ∧ k ≤ p) → ∃ y, method_Method_temp_l1 m q v (n : Int) = some y ∧ (y = -1 ∨ ∃ k : Nat, y = (k : Int) ∧ k ≤ p)
 | 0, q, v, hq, _, hv => by
  obtain ⟨q, rfl⟩ : ∃ q', q = q' + 1 := ⟨q - 1, by omega⟩
  simp only [method_Method_temp_l1]
  refine ⟨v, ?_, hv⟩
  rfl
 | n+1, q, v, hq, hn, hv => by
  obtain ⟨q, rfl⟩ : ∃ q', q = q' + 1 := ⟨q - 1, by omega⟩
  simp only [method_Method_temp_l1]
  rcases hv with rfl | ⟨k, rfl, hk⟩
  ·rw [show ((decide ((0 : Int) < ((n + 1 : Nat) : Int))) && (decide ((0 : Int) ≤ -1))) = false by simp, ifF]
   exact ⟨_, rfl, .inl rfl⟩
  ·have hx : m.Parts[k]? = some m.Parts[k] := List.getElem?_eq_getElem (by omega)
   obtain ⟨h1, h2⟩ := hc k _ hk hx
   have e : ((n + 1 : Nat) : Int) - 1 = (n : Int) := by omega
   rw [decide_eq_true (by omega), decide_eq_true (by omega), Bool.and_self, if_pos rfl, lAt_nat hx, bindS, e, ckn (by omega), bindS]
   refine temp_run m p hp hc n q _ (by omega) (by omega) ?_
   by_cases h : m.Parts[k].Outer = -1
   ·exact .inl h
   ·exact .inr ⟨m.Parts[k].Outer.toNat, by omega, by omega⟩
theorem fits_run (m : method_Method) (p : Nat) (hp : p < m.Parts.length) (hc : Chain m p) (hS : ∀ l, l ∈ m.Lits → l.S.length ≤ bigN) {o : op_Op} (ho : goodOp o) (v c : Int) : ∃ b, method_Method_fits m (p : Int) o v c = some b ∧ (b = true → ∀ v' c', v ≤ v' → c ≤ c' → method_Method_fits m (p : Int) o v' c' = some true) := by
  obtain ⟨k, a, b, rfl, hk, ha, hb⟩ := ho
  have key : (∃ r, ∀ v c, method_Method_fits m (p : Int) ⟨(k : Int), (a : Int), (b : Int)⟩ v c = some r) ∨ (∀ v c, method_Method_fits m (p : Int) ⟨(k : Int), (a : Int), (b : Int)⟩ v c = some (decide ((a : Int) < v))) ∨ (∀ v c, method_Method_fits m (p : Int) ⟨(k : Int), (a : Int), (b : Int)⟩ v c = some (decide ((a : Int) < c))) := by
    unfold method_Method_fits
    dsimp only
    generalize (k : Int) = z
    by_cases h1 : z = 4
    · left
      obtain ⟨r, e, _⟩ := lit_run m a false
      exact ⟨r, fun v c => by rw [decide_eq_true h1, ifT, e, bindS]⟩
    by_cases h2 : (z = 11 ∨ z = 12)
    · left
      obtain ⟨r, e, hr⟩ := lit_run m a true
      have hy : (if (decide (z = 11)) = true then some (decide (z = 11)) else some (decide (z = 12))) = some true := by
        rcases h2 with rfl | rfl <;> rfl
      cases r with
      | false => exact ⟨false, fun v c => by rw [decide_eq_false h1, ifF, hy, bindS, ifT, e, bindS, Bool.not_false, ifT]⟩
      | true =>
        have hx := hr rfl
        exact ⟨_, fun v c => by rw [decide_eq_false h1, ifF, hy, bindS, ifT, e, bindS, Bool.not_true, ifF, lAt_nat (List.getElem?_eq_getElem hx), bindS, arity_eq _ (hS _ (List.getElem_mem hx)), bindS]⟩
    have hy1 : (if (decide (z = 11)) = true then some (decide (z = 11)) else some (decide (z = 12))) = some false := by
      rw [decide_eq_false (fun h => h2 (.inl h)), ifF, decide_eq_false (fun h => h2 (.inr h))]
    by_cases h3 : (z = 5 ∨ z = 6)
    · left
      have hy : (if (decide (z = 5)) = true then some (decide (z = 5)) else some (decide (z = 6))) = some true := by
        rcases h3 with rfl | rfl <;> rfl
      have ht : ∃ r, method_Method_temp m (p : Int) (a : Int) (b : Int) = some r := by
        unfold method_Method_temp
        obtain ⟨y, e, hy⟩ := temp_run m p hp hc a fuel (p : Int) (by unfold fuel; omega) (by omega) (.inr ⟨p, rfl, Nat.le_refl _⟩)
        rw [e, bindS]
        rcases hy with rfl | ⟨j, rfl, hj⟩
        · exact ⟨false, rfl⟩
        · rw [decide_eq_true (by omega), if_pos rfl, lAt_nat (List.getElem?_eq_getElem (by omega : j < m.Parts.length)), bindS, bindS]
          exact ⟨_, rfl⟩
      obtain ⟨r, e⟩ := ht
      exact ⟨r, fun v c => by rw [decide_eq_false h1, ifF, hy1, bindS, ifF, hy, bindS, ifT, e, bindS]⟩
    have hy2 : (if (decide (z = 5)) = true then some (decide (z = 5)) else some (decide (z = 6))) = some false := by
      rw [decide_eq_false (fun h => h3 (.inl h)), ifF, decide_eq_false (fun h => h3 (.inr h))]
    by_cases h4 : (z = 7 ∨ z = 8)
    · right; left
      have hy : (if (decide (z = 7)) = true then some (decide (z = 7)) else some (decide (z = 8))) = some true := by
        rcases h4 with rfl | rfl <;> rfl
      exact fun v c => by rw [decide_eq_false h1, ifF, hy1, bindS, ifF, hy2, bindS, ifF, hy, bindS, ifT]
    have hy3 : (if (decide (z = 7)) = true then some (decide (z = 7)) else some (decide (z = 8))) = some false := by
      rw [decide_eq_false (fun h => h4 (.inl h)), ifF, decide_eq_false (fun h => h4 (.inr h))]
    by_cases h5 : z = 20
    · right; right
      exact fun v c => by rw [decide_eq_false h1, ifF, hy1, bindS, ifF, hy2, bindS, ifF, hy3, bindS, ifF, decide_eq_true h5, ifT]
    left
    by_cases h6 : z = 16
    · by_cases hA : a < m.Parts.length
      · refine ⟨if decide ((0 : Int) < (a : Int)) = true then decide (m.Parts[a].Outer = (p : Int)) else false, fun v c => ?_⟩
        · rw [decide_eq_false h1, ifF, hy1, bindS, ifF, hy2, bindS, ifF, hy3, bindS, ifF, decide_eq_false h5, ifF, decide_eq_true h6, ifT, lt_len hA, ifT, lAt_nat (List.getElem?_eq_getElem hA), bindS]
          show ((if decide ((0 : Int) < (a : Int)) = true then some (decide (m.Parts[a].Outer = (p : Int))) else some false).bind fun y16 => some y16) = some (if decide ((0 : Int) < (a : Int)) = true then decide (m.Parts[a].Outer = (p : Int)) else false)
          cases decide ((0 : Int) < (a : Int)) <;> rfl
      · exact ⟨false, fun v c => by rw [decide_eq_false h1, ifF, hy1, bindS, ifF, hy2, bindS, ifF, hy3, bindS, ifF, decide_eq_false h5, ifF, decide_eq_true h6, ifT, decide_eq_false (by omega), ifF, bindS]⟩
    by_cases h7 : z = 19
    · exact ⟨_, fun v c => by rw [decide_eq_false h1, ifF, hy1, bindS, ifF, hy2, bindS, ifF, hy3, bindS, ifF, decide_eq_false h5, ifF, decide_eq_false h6, ifF, decide_eq_true h7, ifT]⟩
    by_cases h8 : z = 18
    · exact ⟨_, fun v c => by rw [decide_eq_false h1, ifF, hy1, bindS, ifF, hy2, bindS, ifF, hy3, bindS, ifF, decide_eq_false h5, ifF, decide_eq_false h6, ifF, decide_eq_false h7, ifF, decide_eq_true h8, ifT]⟩
    · exact ⟨true, fun v c => by rw [decide_eq_false h1, ifF, hy1, bindS, ifF, hy2, bindS, ifF, hy3, bindS, ifF, decide_eq_false h5, ifF, decide_eq_false h6, ifF, decide_eq_false h7, ifF, decide_eq_false h8, ifF]⟩
  rcases key with ⟨r, h⟩ | h | h
  · exact ⟨r, h v c, fun hr v' c' _ _ => by rw [h, hr]⟩
  · refine ⟨_, h v c, fun hr v' c' h1 h2 => ?_⟩
    have := of_decide_eq_true hr
    rw [h, decide_eq_true (by omega)]
  · refine ⟨_, h v c, fun hr v' c' h1 h2 => ?_⟩
    have := of_decide_eq_true hr
    rw [h, decide_eq_true (by omega)]
end Go.Cq

set_option maxRecDepth 100000
namespace Go.Cq
open Go Go.Av
theorem ixC_run (s : List op_Op) (hs : s.length ≤ 100000) (m : method_Method) (p v c : Int) (hf : ∀ o, o ∈ s → ∃ b, method_Method_fits m p o v c = some b) : ∀ (n q i : Nat), s.length - i ≤ n → n < q → i ≤ s.length →
  ∃ k : Int, slices_IndexFunc_Lop_Op_op_Op_c56_l1 s (fun v21 v22 v23 v24 => some ((-1), v21, v22, v23, v24)) q (i : Int) m p v c = some (k, m, p, v, c) ∧ (k < 0 ↔ ∀ (j : Nat) o, i ≤ j → s[j]? = some o → method_Method_fits m p o v c = some true) := by
 intro n
 induction n with
 | zero =>
  intro q i h1 h2 h3
  obtain ⟨q, rfl⟩ : ∃ q', q = q' + 1 := ⟨q - 1, by omega⟩
  obtain rfl : i = s.length := by omega
  simp only [slices_IndexFunc_Lop_Op_op_Op_c56_l1]
  rw [ge_len, ifF]
  exact ⟨-1, rfl, ⟨fun _ j o hj ho => by have := (List.getElem?_eq_some_iff.1 ho).1; omega, fun _ => by omega⟩⟩
 | succ n ih =>
  intro q i h1 h2 h3
  obtain ⟨q, rfl⟩ : ∃ q', q = q' + 1 := ⟨q - 1, by omega⟩
  simp only [slices_IndexFunc_Lop_Op_op_Op_c56_l1]
  by_cases hi : i < s.length
  ·have hx : s[i]? = some s[i] := List.getElem?_eq_getElem hi
   obtain ⟨b, hb⟩ := hf _ (List.getElem_mem hi)
   unfold method_Method_part_1
   rw [lt_len hi, if_pos rfl, lAt_nat hx, bindS, hb, bindS, bindS]
   dsimp only
   cases b with
   | true =>
    rw [Bool.not_true, ifF, cks (by omega), bindS]
    obtain ⟨k, e, hk⟩ := ih q (i + 1) (by omega) (by omega) (by omega)
    refine ⟨k, e, hk.trans ⟨fun h j o hj ho => ?_, fun h j o hj ho => h j o (by omega) ho⟩⟩
    by_cases e2 : j = i
    ·subst e2; rw [hx] at ho; cases ho; exact hb
    ·exact h j o (by omega) ho
   | false =>
    rw [Bool.not_false, ifT]
    refine ⟨(i : Int), rfl, ⟨fun h => by omega, fun h => ?_⟩⟩
    have := h i _ (Nat.le_refl _) hx
    rw [hb] at this; cases this
  ·obtain rfl : i = s.length := by omega
   rw [ge_len, ifF]
   exact ⟨-1, rfl, ⟨fun _ j o hj ho => by have := (List.getElem?_eq_some_iff.1 ho).1; omega, fun _ => by omega⟩⟩
theorem conC_run (s : List op_Op) (hs : s.length ≤ 100000) (m : method_Method) (p v c : Int) (hf : ∀ o, o ∈ s → ∃ b, method_Method_fits m p o v c = some b) : ∃ b, slices_ContainsFunc_Lop_Op_op_Op_c56 s m p v c = some (b, m, p, v, c) ∧ (b = false ↔ ∀ o, o ∈ s → method_Method_fits m p o v c = some true) := by
 unfold slices_ContainsFunc_Lop_Op_op_Op_c56 slices_IndexFunc_Lop_Op_op_Op_c56
 rw [letK_e]
 obtain ⟨k, e, hk⟩ := ixC_run s hs m p v c hf s.length fuel 0 (by omega) (by unfold fuel; omega) (by omega)
 rw [show ((0 : Nat) : Int) = 0 from rfl] at e
 rw [e, bindS]
 refine ⟨_, rfl, ?_⟩
 rw [decide_eq_false_iff_not, Int.not_le]
 refine hk.trans ⟨fun h o ho => ?_, fun h j o _ ho => h o (List.mem_of_getElem? ho)⟩
 obtain ⟨j, hj⟩ := List.getElem?_of_mem ho
 exact h j o (Nat.zero_le _) hj
structure SzM (m : method_Method) : Prop where
 sel : m.Sel.length ≤ bigN
 lits : m.Lits.length ≤ 100000
 str : ∀ l, l ∈ m.Lits → l.S.length ≤ bigN
 may : ∀ l, l ∈ m.Lits → ∃ b, method_Check_1 l = some b
 parts : m.Parts.length ≤ 100000
 code : ∀ x, x ∈ m.Parts → bytesOk x.Code
theorem part_run {m : method_Method} (hz : SzM m) (p : Nat) (hp : p < m.Parts.length) (hl : ∀ (j : Nat) x, j < p → m.Parts[j]? = some x → -1 ≤ x.Outer ∧ x.Outer < (j : Int)) (v c : Int) :
    ∃ b, method_Method_part m (p : Int) v c = some b ∧ (b = true → Chain m p ∧ ∀ v' c', v ≤ v' → c ≤ c' → method_Method_part m (p : Int) v' c' = some true) := by
  have hx : m.Parts[p]? = some m.Parts[p] := List.getElem?_eq_getElem hp
  have hbo := hz.code _ (List.getElem_mem hp)
  obtain ⟨fe, hfe⟩ := flowCheck_run _ hbo
  unfold method_Method_part
  rw [lAt_nat hx]
  simp only [bindS]
  generalize hX : m.Parts[p] = x at *
  have hg : ∃ g, (if (decide ((p : Int) ≤ x.Outer)) = true then some true else if (decide (x.Outer < (-1))) = true then some true else if (!((decide (x.Outer < 0)) == (decide ((p : Int) = 0)))) = true then some true else
      if (decide (x.Args < 0)) = true then some true else if (decide ((8 : Int) < x.Args)) = true then some true else if (decide (x.Temps < x.Args)) = true then some true else if (decide ((16 : Int) < x.Temps)) = true then some true else (flow_Check x.Code).bind fun v13 => some v13.isSome) = some g ∧ (g = false → -1 ≤ x.Outer ∧ x.Outer < (p : Int)) := by
    by_cases h1 : (p : Int) ≤ x.Outer
    · rw [decide_eq_true h1, ifT]; exact ⟨_, rfl, fun h => by cases h⟩
    rw [decide_eq_false h1, ifF]
    by_cases h2 : x.Outer < -1
    · rw [decide_eq_true h2, ifT]; exact ⟨_, rfl, fun h => by cases h⟩
    rw [decide_eq_false h2, ifF]
    have hh : ∀ g : Bool, g = false → -1 ≤ x.Outer ∧ x.Outer < (p : Int) := fun _ _ => ⟨by omega, by omega⟩
    cases (!((decide (x.Outer < 0)) == (decide ((p : Int) = 0)))) with
    | true => rw [ifT]; exact ⟨_, rfl, hh _⟩
    | false =>
      rw [ifF]
      cases decide (x.Args < 0) with
      | true => rw [ifT]; exact ⟨_, rfl, hh _⟩
      | false =>
        rw [ifF]
        cases decide ((8 : Int) < x.Args) with
        | true => rw [ifT]; exact ⟨_, rfl, hh _⟩
        | false =>
          rw [ifF]
          cases decide (x.Temps < x.Args) with
          | true => rw [ifT]; exact ⟨_, rfl, hh _⟩
          | false =>
            rw [ifF]
            cases decide ((16 : Int) < x.Temps) with
            | true => rw [ifT]; exact ⟨_, rfl, hh _⟩
            | false => rw [ifF, hfe, bindS]; exact ⟨_, rfl, hh _⟩
  obtain ⟨g, hg1, hg2⟩ := hg
  rw [hg1]
  simp only [bindS]
  cases g with
  | true => simp only [ifT]; exact ⟨_, rfl, fun h => by cases h⟩
  | false =>
    simp only [ifF]
    have hch : Chain m p := fun j y hj hy => by
      by_cases e : j = p
      · subst e
        rw [hx] at hy; cases hy
        exact hg2 rfl
      · exact hl j y (by omega) hy
    rw [opDecode _ hbo]
    simp only [bindS]
    by_cases h5 : 512 < x.Code.length
    · simp only [if_pos h5]; exact ⟨false, rfl, fun h => by cases h⟩
    · simp only [if_neg h5]
      cases hd : decP x.Code.length x.Code 0 with
      | none => exact ⟨false, rfl, fun h => by cases h⟩
      | some l =>
        obtain ⟨g1, g2, g3⟩ := decP_good _ _ _ _ hbo hd
        have hgo : ∀ o, o ∈ l.map (·.1) → goodOp o := fun o ho => by
          obtain ⟨y, hy, rfl⟩ := List.mem_map.1 ho
          exact (g1 y hy).1
        have hlen : (l.map (·.1)).length ≤ 100000 := by rw [List.length_map]; omega
        have hfr := fun (v c : Int) o ho => fits_run m p hp hch hz.str (hgo o ho) v c
        obtain ⟨b, e, hb⟩ := conC_run (l.map (·.1)) hlen m (p : Int) v c (fun o ho => by obtain ⟨b, h, _⟩ := hfr v c o ho; exact ⟨b, h⟩)
        dsimp only [Option.isNone]
        simp only [ifT]
        rw [e]
        refine ⟨!b, rfl, fun h => ⟨hch, fun v' c' h1 h2 => ?_⟩⟩
        have hbf : b = false := by cases b <;> simp_all
        obtain ⟨b', e', hb'⟩ := conC_run (l.map (·.1)) hlen m (p : Int) v' c' (fun o ho => by obtain ⟨b, h, _⟩ := hfr v' c' o ho; exact ⟨b, h⟩)
        rw [e']
        have : b' = false := hb'.2 fun o ho => by
          obtain ⟨r, e1, e2⟩ := hfr v c o ho
          have e3 := hb.1 hbf o ho
          rw [e1] at e3
          exact e2 (Option.some.inj e3) v' c' h1 h2
        rw [this]; rfl
end Go.Cq

set_option maxRecDepth 100000
namespace Go.Cq
open Go Go.Av
theorem conL_run (s : List method_Lit) (f : method_Lit → Option Bool) (hs : s.length ≤ 100000) (hf : ∀ o, o ∈ s → ∃ b, f o = some b) : ∃ b, slices_ContainsFunc_Lmethod_Lit_method_Lit s f = some b := by
 unfold slices_ContainsFunc_Lmethod_Lit_method_Lit slices_IndexFunc_Lmethod_Lit_method_Lit
 rw [letK_e]
 have key : ∀ (n q i : Nat), s.length - i ≤ n → n < q → i ≤ s.length → ∃ k : Int, slices_IndexFunc_Lmethod_Lit_method_Lit_l1 s f (fun _ => some (-1)) q (i : Int) = some k := by
  intro n
  induction n with
  | zero =>
   intro q i h1 h2 h3
   obtain ⟨q, rfl⟩ : ∃ q', q = q' + 1 := ⟨q - 1, by omega⟩
   obtain rfl : i = s.length := by omega
   simp only [slices_IndexFunc_Lmethod_Lit_method_Lit_l1]
   rw [ge_len, ifF]
   exact ⟨_, rfl⟩
  | succ n ih =>
   intro q i h1 h2 h3
   obtain ⟨q, rfl⟩ : ∃ q', q = q' + 1 := ⟨q - 1, by omega⟩
   simp only [slices_IndexFunc_Lmethod_Lit_method_Lit_l1]
   by_cases hi : i < s.length
   ·obtain ⟨b, hb⟩ := hf _ (List.getElem_mem hi)
    rw [lt_len hi, if_pos rfl, lAt_nat (List.getElem?_eq_getElem hi), bindS, hb, bindS]
    cases b with
    | true => rw [ifT]; exact ⟨_, rfl⟩
    | false =>
     rw [ifF, cks (by omega), bindS]
     exact ih q (i + 1) (by omega) (by omega) (by omega)
   ·obtain rfl : i = s.length := by omega
    rw [ge_len, ifF]
    exact ⟨_, rfl⟩
 obtain ⟨k, e⟩ := key s.length fuel 0 (by omega) (by unfold fuel; omega) (by omega)
 rw [show ((0 : Nat) : Int) = 0 from rfl] at e
 rw [e, bindS]
 exact ⟨_, rfl⟩
theorem checkL_run {m : method_Method} (hz : SzM m) (v c : Int) : ∀ (n q i : Nat), m.Parts.length - i ≤ n → n < q → i ≤ m.Parts.length → (∀ (j : Nat) x, j < i → m.Parts[j]? = some x → -1 ≤ x.Outer ∧ x.Outer < (j : Int)) →
    ∃ e, method_Check_l1 m v c (fun _ => some none) q (i : Int) = some e ∧ (e = none ∨ e = some 8) ∧ (e = none → ∀ v' c', v ≤ v' → c ≤ c' → method_Check_l1 m v' c' (fun _ => some none) q (i : Int) = some none) := by
  have hpl := hz.parts
  intro n
  induction n with
  | zero =>
    intro q i h1 h2 h3 h4
    obtain ⟨q, rfl⟩ : ∃ q', q = q' + 1 := ⟨q - 1, by omega⟩
    obtain rfl : i = m.Parts.length := by omega
    simp only [method_Check_l1]
    rw [ge_len]
    simp only [ifF]
    exact ⟨none, rfl, .inl rfl, fun _ _ _ _ _ => by first | rfl | trivial⟩
  | succ n ih =>
    intro q i h1 h2 h3 h4
    obtain ⟨q, rfl⟩ : ∃ q', q = q' + 1 := ⟨q - 1, by omega⟩
    simp only [method_Check_l1]
    by_cases hi : i < m.Parts.length
    · obtain ⟨b, hb, hm⟩ := part_run hz i hi h4 v c
      have hck : ck ((i : Int) + 1) = some ((i + 1 : Nat) : Int) := cks (by omega)
      rw [lt_len hi]
      simp only [if_true, hb, bindS, hck]
      cases b with
      | false => exact ⟨some 8, rfl, .inr rfl, fun h => by cases h⟩
      | true =>
        obtain ⟨hc, hm⟩ := hm rfl
        obtain ⟨e, e1, e2, e3⟩ := ih q (i + 1) (by omega) (by omega) (by omega) (fun j x hj hx => hc j x (by omega) hx)
        refine ⟨e, e1, e2, fun he v' c' h5 h6 => ?_⟩
        rw [hm v' c' h5 h6]
        exact e3 he v' c' h5 h6
    · obtain rfl : i = m.Parts.length := by omega
      rw [ge_len]
      simp only [ifF]
      exact ⟨none, rfl, .inl rfl, fun _ _ _ _ _ => by first | rfl | trivial⟩
theorem check_run {m : method_Method} (hz : SzM m) (v c : Int) : ∃ e, method_Check m v c = some e ∧ (e = none ∨ e = some 8) ∧ (e = none → ∀ v' c', v ≤ v' → c ≤ c' → method_Check m v' c' = some none) := by
 unfold method_Check
 rw [arity_eq _ hz.sel]
 simp only [bindS]
 obtain ⟨bl, hbl⟩ := conL_run m.Lits method_Check_1 hz.lits hz.may
 have hg : ∃ g, (if (!(arity m.Sel).2) = true then some true else if (decide ((64 : Int) < (m.Lits.length : Int))) = true then some true else (slices_ContainsFunc_Lmethod_Lit_method_Lit m.Lits method_Check_1).bind fun v6 => if v6 = true then some true else if (decide ((m.Parts.length : Int) < 1)) = true then some true else if (decide ((64 : Int) < (m.Parts.length : Int))) = true then some true else (lAt m.Parts 0).bind fun v12 => some (!decide (v12.Args = (arity m.Sel).1))) = some g := by
  cases (!(arity m.Sel).2) with
  | true => rw [ifT]; exact ⟨_, rfl⟩
  | false =>
   rw [ifF]
   cases decide ((64 : Int) < (m.Lits.length : Int)) with
   | true => rw [ifT]; exact ⟨_, rfl⟩
   | false =>
    rw [ifF, hbl, bindS]
    cases bl with
    | true => rw [ifT]; exact ⟨_, rfl⟩
    | false =>
     rw [ifF]
     by_cases h1 : m.Parts.length < 1
     ·rw [decide_eq_true (by omega), ifT]; exact ⟨_, rfl⟩
     ·rw [decide_eq_false (by omega), ifF]
      cases decide ((64 : Int) < (m.Parts.length : Int)) with
      | true => rw [ifT]; exact ⟨_, rfl⟩
      | false => rw [ifF, show (0 : Int) = ((0 : Nat) : Int) from rfl, lAt_nat (List.getElem?_eq_getElem (by omega : 0 < m.Parts.length)), bindS]; exact ⟨_, rfl⟩
 obtain ⟨g, hg⟩ := hg
 rw [hg]
 simp only [bindS]
 cases g with
 | true => simp only [ifT]; exact ⟨some 8, rfl, .inr rfl, fun h => by cases h⟩
 | false =>
  simp only [ifF, letK_e]
  have := checkL_run hz v c m.Parts.length fuel 0 (by omega) (by have := hz.parts; unfold fuel; omega) (by omega) (fun j x hj => by omega)
  exact this
end Go.Cq

