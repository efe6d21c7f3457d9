import Derived.Test.YtpagjhigaicfpaaDoorLaG
set_option linter.unusedSectionVars false
set_option linter.unusedVariables false
set_option linter.unusedSimpArgs false
set_option maxRecDepth 100000
set_option linter.unusedVariables false
set_option linter.unusedSimpArgs false
namespace Go.Cq
open Go Go.Av

def blB (b : UInt8) : Bool := decide (b ∈ [32, 9, 10, (13 : UInt8)])
theorem blank_idx (b : UInt8) : decide ((0 : Int) ≤ idxB [32, 9, 10, 13] b) = blB b := by
  unfold blB; rw [decide_eq_decide]; exact idxB_pos
theorem idx34 (r : Str) : idxB r 34 = bif sc p34 r == r.length then -1 else ((sc p34 r : Nat) : Int) := by
  induction r with
  | nil => rfl
  | cons b r ih =>
    rw [idxB, ih, sc, p34]
    by_cases hb : b = 34
    · subst hb
      rw [decide_eq_true rfl]
      have e : ((0 : Nat) == (34 :: r : Str).length) = false := by simp
      simp only [Bool.not_true, cond_false, e]
      rfl
    · rw [decide_eq_false hb, Bool.not_false, cond_true, if_neg (by simpa using hb)]
      by_cases h2 : sc p34 r = r.length
      · have e1 : (sc p34 r == r.length) = true := by simpa using h2
        have e2 : (sc p34 r + 1 == (b :: r).length) = true := by simp [h2]
        rw [e1, e2]; rfl
      · have e1 : (sc p34 r == r.length) = false := by simpa using h2
        have e2 : (sc p34 r + 1 == (b :: r).length) = false := by simpa using h2
        rw [e1, e2, cond_false, cond_false]; rfl
theorem sc_pos {p : UInt8 → Bool} {b : UInt8} {r : Str} (h : p b = true) : sc p (b :: r) = sc p r + 1 := by rw [sc, h]; rfl
theorem isKey_ne {u : Str} (h : isKey u = true) : u ≠ [] := by rintro rfl; cases h
theorem one_bound (b : UInt8) (r : Str) : 0 ≤ (oneT b r).2 ∧ (oneT b r).2 ≤ ((b :: r).length : Int) := by
  have hL : (b :: r).length = r.length + 1 := rfl
  unfold oneT
  cases pL b with
  | true =>
    have h1 := sc_le pE (b :: r)
    rw [cond_true]
    cases hk : isKey ((b :: r).drop (sc pE (b :: r))) with
    | true =>
      have := isKey_ne hk
      have h2 : sc pE (b :: r) < (b :: r).length := by
        rcases Nat.lt_or_ge (sc pE (b :: r)) (b :: r).length with h | h
        · exact h
        · exact absurd (List.drop_eq_nil_of_le h) this
      rw [cond_true]; simp only; omega
    | false => rw [cond_false]; simp only; omega
  | false =>
    rw [cond_false]
    cases pD b with
    | true => have h1 := sc_le pD (b :: r); rw [cond_true]; simp only; omega
    | false =>
      rw [cond_false]
      cases pB b with
      | true => have h1 := sc_le pB (b :: r); rw [cond_true]; simp only; omega
      | false =>
        rw [cond_false]
        cases decide (b = 58) with
        | true =>
          rw [cond_true]
          cases r with
          | nil => simp [colT]
          | cons d r =>
            have h1 := sc_le pE (d :: r)
            rw [colT_cons]
            have hl : (d :: r).length = r.length + 1 := rfl
            cases decide (d = 61) with
            | true => rw [cond_true]; simp only; omega
            | false =>
              rw [cond_false]
              cases pL d with
              | true => rw [cond_true]; simp only; omega
              | false => rw [cond_false]; simp only; omega
        | false =>
          rw [cond_false]
          cases decide (b = 39) with
          | true =>
            rw [cond_true]
            cases hq : qd r with
            | none => simp only; omega
            | some z =>
              have := (qd_le _ r (Nat.le_refl _) z.1 z.2 hq).1
              simp only; omega
          | false =>
            rw [cond_false]
            cases decide (0 ≤ idxB mks b) with
            | true => rw [cond_true]; simp only; omega
            | false => rw [cond_false]; simp only; omega
theorem one_len (b : UInt8) (r : Str) : (oneT b r).1.S.length ≤ r.length + 1 := by
  have hL : (b :: r).length = r.length + 1 := rfl
  have ht : ∀ (n : Nat) (l : Str), (l.take n).length ≤ l.length := fun n l => by rw [List.length_take]; omega
  unfold oneT
  cases pL b with
  | true =>
    rw [cond_true]
    cases isKey ((b :: r).drop (sc pE (b :: r))) with
    | true => exact ht _ _
    | false => exact ht _ _
  | false =>
    rw [cond_false]
    cases pD b with
    | true => exact ht _ _
    | false =>
      rw [cond_false]
      cases pB b with
      | true => exact ht _ _
      | false =>
        rw [cond_false]
        cases decide (b = 58) with
        | true =>
          rw [cond_true]
          cases r with
          | nil => simp [colT]
          | cons d r =>
            rw [colT_cons]
            cases decide (d = 61) with
            | true => simp
            | false =>
              rw [cond_false]
              cases pL d with
              | true => exact Nat.le_trans (ht _ _) (Nat.le_succ _)
              | false => simp
        | false =>
          rw [cond_false]
          cases decide (b = 39) with
          | true =>
            rw [cond_true]
            cases hq : qd r with
            | none => simp
            | some z =>
              have := (qd_le _ r (Nat.le_refl _) z.1 z.2 hq)
              simp only; omega
          | false =>
            rw [cond_false]
            cases decide (0 ≤ idxB mks b) with
            | true => simp
            | false => simp
end Go.Cq

