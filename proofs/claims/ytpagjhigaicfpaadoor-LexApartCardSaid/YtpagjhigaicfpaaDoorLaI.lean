import Derived.Test.YtpagjhigaicfpaaDoorLaH
set_option linter.unusedSectionVars false
set_option linter.unusedVariables false
set_option linter.unusedSimpArgs false
set_option maxRecDepth 100000
set_option linter.unusedVariables false
set_option linter.unusedSimpArgs false
namespace Go.Cq
open Go Go.Av

theorem sub_from {s : Str} {j : Nat} (h : j ≤ s.length) : sub s (j : Int) (s.length : Int) = some (s.drop j) := sub_rest h
theorem w1_eq {s : Str} (K2 : List lex_Word → Option (List lex_Word × Int × Option Int)) (hs : s.length ≤ 70000) {i q : Nat} {b : UInt8} {r : Str} (h : s.drop i = b :: r) (out : List lex_Word) :
    lex_Words_l1 s K2 (q + 1) out (i : Int) =
      bif blB b then lex_Words_l1 s K2 q out ((i + 1 : Nat) : Int)
      else bif decide (b = 34) then (bif sc p34 r == r.length then some ([], (i : Int), some 9) else lex_Words_l1 s K2 q out ((i + (sc p34 r + 2) : Nat) : Int))
      else bif decide ((oneT b r).2 = 0) || !mayB (oneT b r).1.K (oneT b r).1.S (i : Int) then some ([], (i : Int), some 9)
      else (app 32 out [lex_Word.mk (oneT b r).1.K (oneT b r).1.S (i : Int)]).bind fun v => lex_Words_l1 s K2 q v ((i : Int) + (oneT b r).2) := by
  obtain ⟨h1, h2, h3⟩ := drop_cons h
  have hlen : s.length = i + (r.length + 1) := by have := congrArg List.length h; rw [List.length_drop, List.length_cons] at this; omega
  rw [lex_Words_l1, lt_drop h, if_pos rfl]
  simp only [letK]
  rw [sIdx_drop h, Option.bind_some, idxByte_eq, Option.bind_some, blank_idx]
  cases blB b with
  | true => rw [if_pos rfl, cond_true, ck_succ (by omega), Option.bind_some]
  | false =>
    rw [if_neg (by simp), cond_false, dec34]
    cases decide (b = 34) with
    | true =>
      rw [if_pos rfl, cond_true, ck_succ (by omega), Option.bind_some, sub_from (by omega), Option.bind_some, h2]
      have e34 : strings_IndexByte r 34 = some (idxB r 34) := idxByte_eq r 34
      rw [e34, Option.bind_some, idx34]
      cases sc p34 r == r.length with
      | true => rfl
      | false =>
        have := sc_le p34 r
        have e : ∀ n : Nat, n ≤ 80000 → ck ((n : Int) + 2) = some ((n + 2 : Nat) : Int) := fun n hn => by unfold ck; rw [if_pos (by omega)]; rfl
        have e2 : ∀ n : Nat, n ≤ 80000 → ck ((i : Int) + (n : Int)) = some ((i + n : Nat) : Int) := fun n hn => by unfold ck; rw [if_pos (by omega)]; rfl
        have e3 : decide (((sc p34 r : Nat) : Int) < 0) = false := by rw [decide_eq_false_iff_not]; omega
        rw [cond_false, cond_false, e3, if_neg (by simp), e _ (by omega), Option.bind_some, e2 _ (by omega), Option.bind_some]
    | false =>
      have hb := one_bound b r
      have hl := one_len b r
      rw [List.length_cons] at hb
      rw [if_neg (by simp), cond_false, sub_from (by omega), Option.bind_some, h, one_eq (by omega), Option.bind_some, may_eq (w := lex_Word.mk (oneT b r).1.K (oneT b r).1.S (i : Int)) (by show (oneT b r).1.S.length ≤ _; omega), Option.bind_some]
      have e2 : ck ((i : Int) + (oneT b r).2) = some ((i : Int) + (oneT b r).2) := by unfold ck; rw [if_pos (by omega)]
      rw [e2]
      simp only
      cases decide ((oneT b r).2 = 0) <;> cases mayB (oneT b r).1.K (oneT b r).1.S (i : Int) <;> rfl
end Go.Cq

