import Derived.Test.YtpagjhigaicfpaaDoorLaE
set_option linter.unusedSectionVars false
set_option linter.unusedVariables false
set_option linter.unusedSimpArgs false
set_option maxRecDepth 100000
set_option linter.unusedVariables false
set_option linter.unusedSimpArgs false
namespace Go.Cq
open Go Go.Av

theorem scan_gen {s : Str} {p : UInt8 → Bool} {f : Nat → Int → Option Int}
    (hc : ∀ (j q : Nat) (b : UInt8) (r : Str), s.drop j = b :: r → f (q + 1) (j : Int) = bif p b then f q ((j + 1 : Nat) : Int) else some (j : Int))
    (hn : ∀ (j q : Nat), s.drop j = [] → f (q + 1) (j : Int) = some (j : Int)) (r : Str) : ∀ (j q : Nat), s.drop j = r → r.length < q → f q (j : Int) = some ((j + sc p r : Nat) : Int) := by
  induction r with
  | nil =>
    intro j q h hq
    obtain ⟨q, rfl⟩ : ∃ q', q = q' + 1 := ⟨q - 1, by omega⟩
    rw [hn j q h]; rfl
  | cons b r ih =>
    intro j q h hq
    rw [List.length_cons] at hq
    obtain ⟨q, rfl⟩ : ∃ q', q = q' + 1 := ⟨q - 1, by omega⟩
    rw [hc j q b r h]
    cases hb : p b with
    | false => rw [cond_false, sc, hb]; rfl
    | true =>
      rw [cond_true, ih (j + 1) q (drop_cons h).2.1 (by omega), sc, hb, cond_true]
      have : j + 1 + sc p r = j + (sc p r + 1) := by omega
      rw [this]
theorem at_cons {s : Str} {j : Nat} {b : UInt8} {r : Str} (h : s.drop j = b :: r) : ref13_at s (j : Int) = some (cl b) := by
  rw [ref13_at, lt_drop h, if_pos rfl, sIdx_drop h, Option.bind_some, class_eq, Option.bind_some]
theorem at_nil {s : Str} {j : Nat} (h : s.drop j = []) : ref13_at s (j : Int) = some 1 := by
  rw [ref13_at, ge_drop h]; rfl
def p34 (b : UInt8) : Bool := !decide (b = 34)
section
variable {s : Str} (hs : s.length ≤ 90000)
include hs
theorem l2_eq {j : Nat} (hj : j ≤ s.length) : ref13_Words_l2 s fuel (j : Int) = some ((j + sc p34 (s.drop j) : Nat) : Int) := by
  refine scan_gen (f := ref13_Words_l2 s) (fun j q b r h => ?_) (fun j q h => ?_) _ j fuel rfl ?_
  · have h3 := (drop_cons h).2.2
    rw [ref13_Words_l2, lt_drop h, if_pos rfl, sIdx_drop h, Option.bind_some, dec34, Option.bind_some, ck_succ (by omega), Option.bind_some]
    unfold p34
    cases decide (b = 34) <;> rfl
  · rw [ref13_Words_l2, ge_drop h]; rfl
  · rw [List.length_drop]; unfold fuel; omega
theorem l3_eq {j : Nat} (hj : j ≤ s.length) : ref13_Words_l3 s fuel (j : Int) = some ((j + sc pE (s.drop j) : Nat) : Int) := by
  refine scan_gen (f := ref13_Words_l3 s) (fun j q b r h => ?_) (fun j q h => ?_) _ j fuel rfl ?_
  · have h3 := (drop_cons h).2.2
    rw [ref13_Words_l3, at_cons h, Option.bind_some, ck_succ (by omega), Option.bind_some]
    unfold pE
    by_cases e1 : cl b = 97
    · rw [decide_eq_true e1, beq_iff_eq.2 e1]; rfl
    · by_cases e2 : cl b = 48
      · rw [decide_eq_false e1, decide_eq_true e2, beq_iff_eq.2 e2, Bool.or_true]; rfl
      · rw [decide_eq_false e1, decide_eq_false e2, beq_eq_false_iff_ne.2 e1, beq_eq_false_iff_ne.2 e2]; rfl
  · rw [ref13_Words_l3, at_nil h]; rfl
  · rw [List.length_drop]; unfold fuel; omega
theorem l4_eq {j : Nat} (hj : j ≤ s.length) : ref13_Words_l4 s fuel (j : Int) = some ((j + sc pD (s.drop j) : Nat) : Int) := by
  refine scan_gen (f := ref13_Words_l4 s) (fun j q b r h => ?_) (fun j q h => ?_) _ j fuel rfl ?_
  · have h3 := (drop_cons h).2.2
    rw [ref13_Words_l4, at_cons h, Option.bind_some, ck_succ (by omega), Option.bind_some]
    unfold pD
    by_cases e2 : cl b = 48
    · rw [decide_eq_true e2, beq_iff_eq.2 e2]; rfl
    · rw [decide_eq_false e2, beq_eq_false_iff_ne.2 e2]; rfl
  · rw [ref13_Words_l4, at_nil h]; rfl
  · rw [List.length_drop]; unfold fuel; omega

omit hs in
theorem r_nil {j q : Nat} {acc : List Int} (h : s.drop j = []) : ref13_Words_l5 s (q + 1) (j : Int) acc = some ((j : Int), acc) := by
  rw [ref13_Words_l5, ge_drop h]; rfl
theorem app1 {l : List Int} {c : Int} (h : l.length ≤ 90000) : app 1 l [c] = some (l ++ [c]) := by
  unfold app; rw [if_pos (by simp [maxB]; omega)]
theorem r_other {j q : Nat} {acc : List Int} {b : UInt8} {r : Str} (h : s.drop j = b :: r) (hb : b ≠ 39) (ha : acc.length ≤ 90000) : ref13_Words_l5 s (q + 1) (j : Int) acc = ref13_Words_l5 s q ((j + 1 : Nat) : Int) (acc ++ [(b.toNat : Int)]) := by
  have h3 := (drop_cons h).2.2
  rw [ref13_Words_l5, lt_drop h, if_pos rfl, sIdx_drop h, Option.bind_some, dec39, decide_eq_false hb, Bool.not_false, if_pos rfl, Option.bind_some, if_pos rfl, Option.bind_some, app1 hs ha, Option.bind_some, dec39, decide_eq_false hb, if_neg (by simp), Option.bind_some, ck_succ (by omega), Option.bind_some]
theorem r_one {j q : Nat} {acc : List Int} (h : s.drop j = [39]) : ref13_Words_l5 s (q + 1) (j : Int) acc = some ((j : Int), acc) := by
  obtain ⟨h1, h2, h3⟩ := drop_cons h
  rw [ref13_Words_l5, lt_drop h, if_pos rfl, sIdx_drop h, Option.bind_some, dec39, decide_eq_true rfl, Bool.not_true, if_neg (by simp), ck_succ (by omega), Option.bind_some, ge_drop h2]
  rfl
theorem r_lone {j q : Nat} {acc : List Int} {c : UInt8} {r : Str} (h : s.drop j = 39 :: c :: r) (hc : c ≠ 39) : ref13_Words_l5 s (q + 1) (j : Int) acc = some ((j : Int), acc) := by
  obtain ⟨h1, h2, h3⟩ := drop_cons h
  rw [ref13_Words_l5, lt_drop h, if_pos rfl, sIdx_drop h, Option.bind_some, dec39, decide_eq_true rfl, Bool.not_true, if_neg (by simp), ck_succ (by omega), Option.bind_some, lt_drop h2, if_pos rfl, sIdx_drop h2, Option.bind_some, dec39, decide_eq_false hc]
  rfl
theorem r_two {j q : Nat} {acc : List Int} {r : Str} (h : s.drop j = 39 :: 39 :: r) (ha : acc.length ≤ 90000) : ref13_Words_l5 s (q + 1) (j : Int) acc = ref13_Words_l5 s q ((j + 2 : Nat) : Int) (acc ++ [39]) := by
  obtain ⟨h1, h2, h3⟩ := drop_cons h
  have h4 := (drop_cons h2).2.2
  rw [ref13_Words_l5, lt_drop h, if_pos rfl, sIdx_drop h, Option.bind_some, dec39, decide_eq_true rfl, Bool.not_true, if_neg (by simp), ck_succ (by omega), Option.bind_some, lt_drop h2, if_pos rfl, sIdx_drop h2, Option.bind_some, dec39, decide_eq_true rfl, Option.bind_some, if_pos rfl, Option.bind_some, app1 hs ha, Option.bind_some, dec39, decide_eq_true rfl, if_pos rfl, Option.bind_some, Option.bind_some, ck_succ (by omega), Option.bind_some]
  rfl
theorem l5_eq (n : Nat) : ∀ (r : Str), r.length ≤ n → ∀ (j q : Nat) (acc : List Int), s.drop j = r → j ≤ s.length → r.length < q → acc.length ≤ j →
    ∃ acc', ref13_Words_l5 s q (j : Int) acc = some (match qd r with | some z => (((j + z.2 - 1 : Nat) : Int), acc ++ toInts z.1) | none => ((s.length : Int), acc')) := by
  induction n with
  | zero =>
    intro r hn j q acc h hj hq ha
    obtain rfl : r = [] := List.eq_nil_of_length_eq_zero (Nat.le_zero.1 hn)
    obtain ⟨q, rfl⟩ : ∃ q', q = q' + 1 := ⟨q - 1, by omega⟩
    have := drop_nil h
    obtain rfl : j = s.length := by omega
    exact ⟨acc, r_nil h⟩
  | succ n ih =>
    intro r hn j q acc h hj hq ha
    obtain ⟨q, rfl⟩ : ∃ q', q = q' + 1 := ⟨q - 1, by omega⟩
    cases r with
    | nil =>
      have := drop_nil h
      obtain rfl : j = s.length := by omega
      exact ⟨acc, r_nil h⟩
    | cons b r =>
      obtain ⟨h1, h2, h3⟩ := drop_cons h
      rw [List.length_cons] at hn hq
      by_cases hb : b = 39
      · subst hb
        cases r with
        | nil =>
          refine ⟨acc, ?_⟩
          rw [r_one hs h, qd_one]
          simp only [show toInts ([] : Str) = [] from rfl, List.append_nil, Nat.add_sub_cancel]
        | cons c r =>
          by_cases hc : c = 39
          · subst hc
            obtain ⟨g1, g2, g3⟩ := drop_cons h2
            rw [List.length_cons] at hn hq
            obtain ⟨acc', hh⟩ := ih r (by omega) (j + 2) q (acc ++ [39]) g2 g3 (by omega) (by rw [List.length_append, List.length_singleton]; omega)
            refine ⟨acc', ?_⟩
            rw [r_two hs h (by omega), hh, qd_two]
            cases qd r with
            | none => rfl
            | some z =>
              rw [Option.map_some]
              have e1 : (acc ++ [39]) ++ toInts z.1 = acc ++ toInts (39 :: z.1) := by rw [List.append_assoc]; rfl
              have e2 : j + 2 + z.2 - 1 = j + (z.2 + 2) - 1 := by omega
              simp only [e1, e2]
          · refine ⟨acc, ?_⟩
            rw [r_lone hs h hc, qd_lone hc]
            simp only [show toInts ([] : Str) = [] from rfl, List.append_nil, Nat.add_sub_cancel]
      · obtain ⟨acc', hh⟩ := ih r (by omega) (j + 1) q (acc ++ [(b.toNat : Int)]) h2 h3 (by omega) (by rw [List.length_append, List.length_singleton]; omega)
        refine ⟨acc', ?_⟩
        rw [r_other hs h hb (by omega), hh, qd_ne hb]
        cases qd r with
        | none => rfl
        | some z =>
          rw [Option.map_some]
          have e1 : (acc ++ [(b.toNat : Int)]) ++ toInts z.1 = acc ++ toInts (b :: z.1) := by rw [List.append_assoc]; rfl
          have e2 : j + 1 + z.2 - 1 = j + (z.2 + 1) - 1 := by omega
          simp only [e1, e2]
end
end Go.Cq

