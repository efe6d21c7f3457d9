import Derived.Test.YtpagjhigaicfpaaDoorLaC
set_option linter.unusedSectionVars false
set_option linter.unusedVariables false
set_option linter.unusedSimpArgs false
set_option maxRecDepth 100000
set_option linter.unusedVariables false
set_option linter.unusedSimpArgs false
namespace Go.Cq
open Go Go.Av

theorem sIdx_zero {b : UInt8} {r : Str} : sIdx (b :: r) 0 = some (b.toNat : Int) := sIdx_drop (s := b :: r) (j := 0) rfl
def nmB : Str → Bool
  | [] => false
  | b :: r => decide (((b :: r).length : Int) ≤ 64) && (pL b && (b :: r).all pE)
theorem nmB_cons {b : UInt8} {r : Str} : nmB (b :: r) = (decide (((b :: r).length : Int) ≤ 64) && (pL b && (b :: r).all pE)) := rfl
theorem pE_def (b : UInt8) : (cl b == 97 || cl b == 48) = pE b := rfl
theorem named_eq {s : Str} (hs : s.length ≤ 8000000000000000000) : lex_named s = some (nmB s) := by
  cases s with
  | nil => rfl
  | cons b r =>
    unfold lex_named
    rw [nmB_cons, sIdx_zero, Option.bind_some, letter_eq, Option.bind_some, many_eq (p := pE) either_eq hs, Option.bind_some, sc_dec]
    have e : (!(b :: r == [])) = true := rfl
    rw [e, if_pos rfl]
    cases decide (((b :: r).length : Int) ≤ 64) <;> cases pL b <;> rfl
def nuB : Str → Bool
  | [] => false
  | b :: r => decide (((b :: r).length : Int) ≤ 700) && ((b :: r).all pD && (decide (((b :: r).length : Int) = 1) || !decide ((b.toNat : Int) = 48)))
theorem nuB_cons {b : UInt8} {r : Str} : nuB (b :: r) = (decide (((b :: r).length : Int) ≤ 700) && ((b :: r).all pD && (decide (((b :: r).length : Int) = 1) || !decide ((b.toNat : Int) = 48)))) := rfl
theorem number_eq {s : Str} (hs : s.length ≤ 8000000000000000000) : lex_number s = some (nuB s) := by
  cases s with
  | nil => rfl
  | cons b r =>
    unfold lex_number
    rw [nuB_cons, many_eq (p := pD) digit_eq hs, Option.bind_some, sc_dec, sIdx_zero, Option.bind_some]
    have e : (!(b :: r == [])) = true := rfl
    rw [e, if_pos rfl]
    cases decide (((b :: r).length : Int) ≤ 700) <;> cases (b :: r).all pD <;> cases decide ((b.toNat : Int) = 48) <;> cases decide (((b :: r).length : Int) = 1) <;> rfl
def biB : Str → Bool
  | [] => false
  | b :: r => decide (((b :: r).length : Int) ≤ 2) && (b :: r).all pB
theorem biB_cons {b : UInt8} {r : Str} : biB (b :: r) = (decide (((b :: r).length : Int) ≤ 2) && (b :: r).all pB) := rfl
def mayB (K : Int) (S : Str) (At : Int) : Bool :=
  if At < 0 then false else if K = 0 ∨ K = 1 ∨ K = 5 then nmB S else if K = 2 then biB S else if K = 3 then nuB S else if K = 4 then decide ((S.length : Int) ≤ 1024) else decide (K ≤ 16) && (S == [])
theorem may_eq {w : lex_Word} (hs : w.S.length ≤ 8000000000000000000) : lex_May w = some (mayB w.K w.S w.At) := by
  obtain ⟨K, S, At⟩ := w
  simp only at hs
  unfold lex_May mayB
  simp only
  by_cases h0 : At < 0
  · simp only [h0, decide_true, if_true]
  simp only [h0, decide_false, if_false, Bool.false_eq_true]
  by_cases k0 : K = 0
  · subst k0; simp only [decide_true, if_true, Option.bind_some, named_eq hs, true_or]
  by_cases k1 : K = 1
  · subst k1; simp [named_eq hs]
  by_cases k5 : K = 5
  · subst k5; simp [named_eq hs]
  simp only [k0, k1, k5, decide_false, decide_true, Bool.false_eq_true, if_false, Option.bind_some, or_self]
  by_cases k2 : K = 2
  · simp only [k2, decide_true, if_true]
    cases S with
    | nil => rfl
    | cons b r =>
      rw [many_eq (p := pB) bin_eq hs, Option.bind_some, sc_dec]
      have e : (!(b :: r == [])) = true := rfl
      rw [e, if_pos rfl]
      rw [biB_cons]
      cases decide (((b :: r).length : Int) ≤ 2) <;> cases (b :: r).all pB <;> rfl
  simp only [k2, decide_false, Bool.false_eq_true, if_false]
  by_cases k3 : K = 3
  · simp only [k3, decide_true, if_true, number_eq hs, Option.bind_some]
  simp only [k3, decide_false, Bool.false_eq_true, if_false]
  by_cases k4 : K = 4
  · simp only [k4, decide_true, if_true]
  simp only [k4, decide_false, Bool.false_eq_true, if_false]
theorem all_E (s : Str) : (s.all fun b => cl b == 97 || cl b == 48) = s.all pE := rfl
theorem all_B (s : Str) : (s.all fun b => cl b == 43 || cl b == 43) = s.all pB := by congr 1; funext b; exact Bool.or_self _
theorem all_D (s : Str) : (s.all fun b => cl b == 48 || cl b == 48) = s.all pD := by congr 1; funext b; exact Bool.or_self _
theorem pL_dec (b : UInt8) : decide (cl b = 97) = pL b := by unfold pL; rw [Bool.eq_iff_iff]; simp
theorem rmay_eq {w : ref13_Word} (hs : w.S.length ≤ 8000000000000000000) : ref13_May w = some (mayB w.K w.S w.At) := by
  obtain ⟨K, S, At⟩ := w
  simp only at hs
  unfold ref13_May mayB
  simp only
  by_cases h0 : At < 0
  · simp only [h0, decide_true, if_true, Bool.true_or]
  by_cases h16 : 16 < K
  · have e1 : ¬ (K = 0 ∨ K = 1 ∨ K = 5) := by omega
    have e2 : K ≠ 2 := by omega
    have e3 : K ≠ 3 := by omega
    have e4 : K ≠ 4 := by omega
    have e5 : ¬ K ≤ 16 := by omega
    simp [h0, h16, e1, e2, e3, e4, e5]
  simp only [h0, h16, decide_false, if_false, Bool.false_eq_true, Bool.or_self]
  have l1 : ∀ (b : UInt8) (r : Str), decide ((1 : Int) ≤ ((b :: r).length : Int)) = true := fun b r => by simp; omega
  by_cases hk : K = 0 ∨ K = 1 ∨ K = 5
  · have : ((decide (K = 0) || decide (K = 1)) || decide (K = 5)) = true := by rcases hk with rfl | rfl | rfl <;> rfl
    rw [this, if_pos rfl, if_pos hk]
    cases S with
    | nil => rfl
    | cons b r =>
      rw [l1, if_pos rfl, all_eq hs, Option.bind_some, sIdx_zero, Option.bind_some, class_eq, Option.bind_some, all_E, pL_dec]
      rw [nmB_cons]
      cases decide (((b :: r).length : Int) ≤ 64) <;> cases pL b <;> cases (b :: r).all pE <;> rfl
  have : ((decide (K = 0) || decide (K = 1)) || decide (K = 5)) = false := by
    have a : K ≠ 0 := fun e => hk (.inl e)
    have b : K ≠ 1 := fun e => hk (.inr (.inl e))
    have c : K ≠ 5 := fun e => hk (.inr (.inr e))
    simp [a, b, c]
  rw [this, if_neg (by simp), if_neg hk]
  by_cases k2 : K = 2
  · simp only [k2, decide_true, if_true]
    cases S with
    | nil => rfl
    | cons b r =>
      rw [l1, if_pos rfl, all_eq hs, Option.bind_some, all_B]
      rw [biB_cons]
      cases decide (((b :: r).length : Int) ≤ 2) <;> cases (b :: r).all pB <;> rfl
  simp only [k2, decide_false, Bool.false_eq_true, if_false]
  by_cases k3 : K = 3
  · simp only [k3, decide_true, if_true]
    cases S with
    | nil => rfl
    | cons b r =>
      rw [l1, if_pos rfl, all_eq hs, Option.bind_some, all_D, sIdx_zero, Option.bind_some]
      rw [nuB_cons]
      cases decide (((b :: r).length : Int) ≤ 700) <;> cases (b :: r).all pD <;> cases decide ((b.toNat : Int) = 48) <;> cases decide (((b :: r).length : Int) = 1) <;> rfl
  simp only [k3, decide_false, Bool.false_eq_true, if_false]
  by_cases k4 : K = 4
  · simp only [k4, decide_true, if_true]
  simp only [k4, decide_false, Bool.false_eq_true, if_false]
  have : decide (K ≤ 16) = true := by simp; omega
  rw [this, Bool.true_and]
end Go.Cq

