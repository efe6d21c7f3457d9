import Derived.Test.YtmedpledgchipaaGreatDoorL3
import Derived.KernelRfl
set_option linter.unusedSectionVars false
set_option linter.unusedVariables false
set_option linter.unusedSimpArgs false
set_option linter.unnecessarySimpa false
set_option maxRecDepth 100000
namespace Go.Cq
open Go Go.Av Go.Proofs
theorem sure09 : law09_sure = some true := by kernel_rfl
theorem arity_small {c : UInt8} {r : Str} (h : between 97 122 c = true) : arity (c :: r) = if 64 < (c :: r).length then (0, false) else arL 0 true (c :: r) := by
 have hs : signB c = false := by
  cases e : signB c with
  | false => rfl
  | true => have := sign_small e; rw [h] at this; cases this
 unfold arity
 simp only [hs, decide_eq_true_eq, Bool.false_eq_true, if_false]
theorem nm_head {s : Str} (h : nmB s = true) : ∃ c r, s = c :: r ∧ between 97 122 c = true := by
 unfold nmB at h
 split at h
 ·rename_i c r
  simp only [Bool.and_eq_true] at h
  exact ⟨c, r, rfl, h.1⟩
 ·cases h
theorem nm58 {s : Str} (h : (58 : UInt8) ∈ s) : nmB s = false := by
 cases e : nmB s with
 | false => rfl
 | true => exact absurd rfl (nmB_no58 e 58 h)
theorem splitC_at (c : UInt8) (t : Str) : ∀ s : Str, (∀ x, x ∈ s → x ≠ c) → splitC c (s ++ c :: t) = s :: splitC c t
  | [], _ => by
    rw [List.nil_append]
    conv => lhs; unfold splitC
    simp
  | x :: s, h => by
    have ih := splitC_at c t s (fun y hy => h y (by simp [hy]))
    have hx : x ≠ c := h x (by simp)
    rw [List.cons_append]
    conv => lhs; unfold splitC
    rw [if_neg hx, ih]
theorem arity_name {s : Str} (h0 : (arity s).1 = 0) (h1 : (arity s).2 = true) : nmB s = true ∧ s.length ≤ 64 := by
 cases s with
 | nil => cases h1
 | cons c r =>
  by_cases hl : 64 < (c :: r).length
  ·unfold arity at h1
   simp only [decide_eq_true hl, if_true] at h1
   cases h1
  ·refine ⟨?_, by omega⟩
   unfold arity at h0 h1
   simp only [decide_eq_false hl, Bool.false_eq_true, if_false] at h0 h1
   by_cases hs : signB c = true
   ·exfalso
    rw [if_pos hs] at h0 h1
    cases r with
    | nil => cases h0
    | cons d r =>
     cases r with
     | nil =>
      simp only at h0 h1
      by_cases hd : signB d = true
      ·rw [if_pos hd] at h0; cases h0
      ·rw [if_neg hd] at h1; cases h1
     | cons f r => cases h1
   ·rw [if_neg hs] at h0 h1
    rw [arL_word (c :: r) (by simp)] at h0 h1
    cases hn : nmB (c :: r) with
    | true => rfl
    | false =>
     exfalso
     rw [hn] at h0 h1
     simp only [Bool.false_eq_true, if_false] at h0 h1
     split at h1
     ·rename_i hlast
      rw [if_pos hlast] at h0
      split at h1
      ·rename_i hall
       rw [if_pos hall] at h0
       have := splitC_ne 58 (c :: r).dropLast
       have : (splitC 58 (c :: r).dropLast).length ≠ 0 := fun e => this (List.eq_nil_of_length_eq_zero e)
       simp only at h0
       omega
      ·cases h1
     ·cases h1
theorem arity_one {s : Str} (h : nmB s = true) : arity (s ++ [58]) = if s.length < 64 then (1, true) else (0, false) := by
 obtain ⟨c, r, rfl, hc⟩ := nm_head h
 rw [List.cons_append, arity_small hc]
 have hl : (c :: (r ++ [58])).length = (c :: r).length + 1 := by simp
 by_cases hh : (c :: r).length < 64
 ·rw [if_neg (by omega), if_pos hh, arL_word _ (by simp), nm58 (by simp), if_neg (by simp)]
  have e : (c :: (r ++ [58])) = (c :: r) ++ [58] := rfl
  rw [e, List.getLast?_append, List.dropLast_concat]
  simp only [List.getLast?_singleton, Option.some_or, if_true]
  rw [splitC_none 58 (c :: r) (nmB_no58 h)]
  simp [h]
 ·rw [if_pos (by omega), if_neg hh]
theorem arity_two {s t : Str} (h : nmB s = true) (ht : nmB t = true) : arity (s ++ [58] ++ t ++ [58]) = if s.length + t.length < 63 then (2, true) else (0, false) := by
 obtain ⟨c, r, rfl, hc⟩ := nm_head h
 have e : (c :: r ++ [58] ++ t ++ [58]) = c :: (r ++ 58 :: t ++ [58]) := by simp
 rw [e, arity_small hc]
 have hl : (c :: (r ++ 58 :: t ++ [58])).length = (c :: r).length + t.length + 2 := by simp; omega
 by_cases hh : (c :: r).length + t.length < 63
 ·rw [if_neg (by omega), if_pos hh, arL_word _ (by simp), nm58 (by simp), if_neg (by simp)]
  have e : (c :: (r ++ 58 :: t ++ [58])) = ((c :: r) ++ 58 :: t) ++ [58] := by simp
  rw [e, List.getLast?_append, List.dropLast_concat]
  simp only [List.getLast?_singleton, Option.some_or, if_true]
  rw [splitC_at 58 t (c :: r) (nmB_no58 h), splitC_none 58 t (nmB_no58 ht)]
  simp [h, ht]
 ·rw [if_pos (by omega), if_neg hh]
theorem arity_open {s t : Str} (h : nmB s = true) (ht : nmB t = true) : (arity (s ++ [58] ++ t)).2 = false := by
 obtain ⟨c, r, rfl, hc⟩ := nm_head h
 have e : (c :: r ++ [58] ++ t) = c :: (r ++ 58 :: t) := by simp
 rw [e, arity_small hc]
 by_cases hh : 64 < (c :: (r ++ 58 :: t)).length
 ·rw [if_pos hh]
 ·rw [if_neg hh, arL_word _ (by simp), nm58 (by simp), if_neg (by simp), if_neg]
  intro hl
  obtain ⟨d, q, rfl, hd⟩ := nm_head ht
  have e : (c :: (r ++ 58 :: d :: q)) = (c :: r ++ [58]) ++ (d :: q) := by simp
  rw [e, List.getLast?_append] at hl
  have hm := List.getLast?_eq_some_getLast (l := d :: q) (by simp)
  rw [hm] at hl
  simp only [Option.some_or, Option.some.injEq] at hl
  exact nmB_no58 ht 58 (hl ▸ List.getLast_mem (by simp)) rfl
theorem cat_eq {s t : Str} (h : s.length + t.length ≤ maxB) : cat s t = some (s ++ t) := by unfold cat; rw [if_pos h]
theorem methodKeys (s t : Str) : law09_MethodKeys s t = some true := by
  unfold law09_MethodKeys
  by_cases hb : ((decide ((100 : Int) < (s.length : Int))) || (decide ((100 : Int) < (t.length : Int)))) = true
  · rw [if_pos hb, sure09]; rfl
  · rw [if_neg hb]
    simp only [Bool.or_eq_true, decide_eq_true_eq, not_or] at hb
    obtain ⟨b1, b2⟩ := hb
    rw [arity_eq s (by unfold bigN; omega), bindS, arity_eq t (by unfold bigN; omega), bindS]
    by_cases hc : ((((!(arity s).2) || (!(arity t).2)) || (!decide ((arity s).1 = 0))) || (!decide ((arity t).1 = 0))) = true
    · rw [if_pos hc, sure09]; rfl
    · rw [if_neg hc]
      simp only [Bool.or_eq_true, Bool.not_eq_true', decide_eq_false_iff_not, not_or, Bool.not_eq_false, Decidable.not_not] at hc
      obtain ⟨⟨⟨c1, c2⟩, c3⟩, c4⟩ := hc
      obtain ⟨n1, n2⟩ := arity_name c3 c1
      obtain ⟨m1, m2⟩ := arity_name c4 c2
      have hS : ∀ x : Str, x.length ≤ 1000 → x.length ≤ bigN := fun x hx => by unfold bigN; omega
      rw [cat_eq (by simp [maxB]; omega), bindS, arity_eq _ (hS _ (by simp; omega)), bindS, cat_eq (by simp [maxB]; omega), bindS, cat_eq (by simp [maxB]; omega), bindS, arity_eq _ (hS _ (by simp; omega)), bindS, arity_eq _ (hS _ (by simp; omega)), bindS, arity_one n1, arity_two n1 m1, arity_open n1 m1]
      have hck : ck ((s.length : Int) + (t.length : Int)) = some ((s.length : Int) + (t.length : Int)) := by
        unfold ck; rw [if_pos (by omega)]
      rw [hck, sure09]
      have d1 : decide ((s.length : Int) < 64) = decide (s.length < 64) := by
        by_cases h : s.length < 64
        · rw [decide_eq_true h, decide_eq_true (by omega)]
        · rw [decide_eq_false h, decide_eq_false (by omega)]
      have d2 : decide ((s.length : Int) + (t.length : Int) < 63) = decide (s.length + t.length < 63) := by
        by_cases h : s.length + t.length < 63
        · rw [decide_eq_true h, decide_eq_true (by omega)]
        · rw [decide_eq_false h, decide_eq_false (by omega)]
      simp only [bindS, d1, d2]
      by_cases h1 : s.length < 64 <;> by_cases h2 : s.length + t.length < 63 <;> simp [h1, h2]
end Go.Cq

