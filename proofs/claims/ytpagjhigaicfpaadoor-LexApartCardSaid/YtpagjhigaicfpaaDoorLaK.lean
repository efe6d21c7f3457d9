import Derived.Test.YtpagjhigaicfpaaDoorLaJ
set_option linter.unusedSectionVars false
set_option linter.unusedVariables false
set_option linter.unusedSimpArgs false
set_option maxRecDepth 100000
set_option linter.unusedVariables false
set_option linter.unusedSimpArgs false
namespace Go.Cq
open Go Go.Av

theorem r1_eq {s : Str} (K2 : List ref13_Word → Option (List ref13_Word × Int × Int)) (hs : s.length ≤ 70000) {i q : Nat} {b : UInt8} {r : Str} (h : s.drop i = b :: r) (out : List ref13_Word) :
    ref13_Words_l1 s K2 (q + 1) out (i : Int) =
      bif blB b then ref13_Words_l1 s K2 q out ((i + 1 : Nat) : Int)
      else bif decide (b = 34) then (bif sc p34 r == r.length then some ([], (i : Int), 9) else ref13_Words_l1 s K2 q out ((i + (sc p34 r + 2) : Nat) : Int))
      else bif decide ((oneT b r).2 = 0) || !mayB (oneT b r).1.K (oneT b r).1.S (i : Int) then some ([], (i : Int), 9)
      else (app 32 out [ref13_Word.mk (oneT b r).1.K (oneT b r).1.S (i : Int)]).bind fun v => ref13_Words_l1 s K2 q v ((i : Int) + (oneT b r).2) := by
  obtain ⟨h1, h2, h3⟩ := drop_cons h
  have hlen : s.length = i + (r.length + 1) := by have := congrArg List.length h; rw [List.length_drop, List.length_cons] at this; omega
  have hl := one_len b r
  rw [ref13_Words_l1, lt_drop h, if_pos rfl]
  simp only [letK]
  rw [sIdx_drop h, Option.bind_some, class_eq, Option.bind_some, ck_succ (by omega), Option.bind_some, blank_cl, cl34]
  cases blB b with
  | true => rw [if_pos rfl, cond_true]
  | false =>
  rw [if_neg (by simp), cond_false]
  cases h34 : decide (b = 34) with
  | true =>
    rw [if_pos rfl, cond_true, l2_eq (by omega) (by omega), h2, Option.bind_some]
    have hsc := sc_le p34 r
    rw [ck_succ (by omega), Option.bind_some]
    have e : decide (((i + 1 + sc p34 r : Nat) : Int) = (s.length : Int)) = (sc p34 r == r.length) := by
      rw [Bool.eq_iff_iff, beq_iff_eq, decide_eq_true_iff]; omega
    rw [e, show i + 1 + sc p34 r + 1 = i + (sc p34 r + 2) by omega]
    cases sc p34 r == r.length <;> rfl
  | false =>
  rw [if_neg (by simp), cond_false]
  simp only [pL_dec, pD_dec, pB_dec, cl58, cl39]
  cases hL : pL b with
  | true =>
    have hc := cl97 hL
    have e58 : decide (b = 58) = false := by rw [← cl58, hc]; rfl
    have hpe : pE b = true := by unfold pE; rw [hc]; rfl
    have hsc := sc_le pE r
    have hone : oneT b r = bif isKey ((b :: r).drop (sc pE (b :: r))) then (lex_Word.mk 1 ((b :: r).take (sc pE (b :: r))) 0, ((sc pE (b :: r) + 1 : Nat) : Int)) else (lex_Word.mk 0 ((b :: r).take (sc pE (b :: r))) 0, ((sc pE (b :: r) : Nat) : Int)) := by unfold oneT; rw [hL, cond_true]
    rw [hone, sc_pos hpe]
    simp only [eq_self_iff_true, if_true, Bool.false_eq_true, if_false, Option.bind_some, e58]
    rw [l3_eq (by omega) (by omega), h2, Option.bind_some, show i + 1 + sc pE r = i + (sc pE r + 1) by omega, sub_drop (by omega), Option.bind_some, h, key_at hs (by omega), Option.bind_some, ck_succ (by omega), Option.bind_some]
    have hdd : s.drop (i + (sc pE r + 1)) = (b :: r).drop (sc pE r + 1) := by rw [← h, List.drop_drop]
    rw [hdd]
    have hln : ((b :: r).take (sc pE r + 1)).length ≤ 8000000000000000000 := by rw [List.length_take, List.length_cons]; omega
    cases isKey ((b :: r).drop (sc pE r + 1)) with
    | true =>
      simp only [eq_self_iff_true, if_true, Option.bind_some, cond_true]
      rw [rfin (F := fun v Y => ref13_Words_l1 s K2 q v Y) hln]
      have e0 : decide (((sc pE r + 1 + 1 : Nat) : Int) = 0) = false := by rw [decide_eq_false_iff_not]; omega
      rw [e0, Bool.false_or]
      rfl
    | false =>
      simp only [Bool.false_eq_true, if_false, Option.bind_some, cond_false]
      rw [rfin (F := fun v Y => ref13_Words_l1 s K2 q v Y) hln]
      have e0 : decide (((sc pE r + 1 : Nat) : Int) = 0) = false := by rw [decide_eq_false_iff_not]; omega
      rw [e0, Bool.false_or]
      rfl
  | false =>
  simp only [Bool.false_eq_true, if_false]
  have bad : ∀ {Y : Int} {S : Str}, (oneT b r).2 = 0 → S.length ≤ 8000000000000000000 →
      ((ref13_May (ref13_Word.mk 99 S (i : Int))).bind fun v152 => if (!v152) = true then some ([], (i : Int), 9) else (app 32 out [ref13_Word.mk 99 S (i : Int)]).bind fun v155 => ref13_Words_l1 s K2 q v155 Y) =
      bif decide ((oneT b r).2 = 0) || !mayB (oneT b r).1.K (oneT b r).1.S (i : Int) then some ([], (i : Int), 9)
      else (app 32 out [ref13_Word.mk (oneT b r).1.K (oneT b r).1.S (i : Int)]).bind fun v => ref13_Words_l1 s K2 q v ((i : Int) + (oneT b r).2) := by
    intro Y S h0 hS
    rw [rfin (F := fun v Y => ref13_Words_l1 s K2 q v Y) hS, may99, h0]
    rfl
  cases e58 : decide (b = 58) with
  | true =>
    have hb : b = 58 := of_decide_eq_true e58
    subst hb
    have d1 : pD 58 = false := by decide
    have d2 : pB 58 = false := by decide
    have hl6 := l6_eq 58 hL d1 d2
    rw [l6_58] at hl6
    have d39 : decide ((58 : UInt8) = 39) = false := by decide
    have hone : oneT 58 r = colT r := by unfold oneT; rw [hL, d1, d2]; rfl
    simp only [d1, d2, d39, eq_self_iff_true, if_true, Bool.false_eq_true, if_false, Option.bind_some, hl6]
    cases r with
    | nil =>
      rw [at_nil h2, Option.bind_some, show decide ((1 : Int) = 97) = false by rfl, Option.bind_some, if_neg (by simp), ge_drop h2, if_neg (by simp), Option.bind_some, if_neg (by simp), Option.bind_some, Option.bind_some]
      exact bad (by rw [hone]; rfl) (by simp)
    | cons d r =>
      have hsc := sc_le pE (d :: r)
      rw [at_cons h2, Option.bind_some, pL_dec, Option.bind_some, lt_drop h2, if_pos (show true = true from rfl), sIdx_drop h2, Option.bind_some, dec61, Option.bind_some]
      cases hd : pL d with
      | true =>
        have hone2 : oneT 58 (d :: r) = (lex_Word.mk 5 ((d :: r).take (sc pE (d :: r))) 0, ((sc pE (d :: r) + 1 : Nat) : Int)) := by rw [hone, colT_cons, w61 hd, hd]; rfl
        have hln : ((d :: r).take (sc pE (d :: r))).length ≤ 8000000000000000000 := by rw [List.length_take]; omega
        rw [hone2]
        simp only [eq_self_iff_true, if_true]
        rw [l3_eq (by omega) (by omega), h2, Option.bind_some, show i + 1 + sc pE (d :: r) = i + (sc pE (d :: r) + 1) by omega, sub_drop (by omega), Option.bind_some, show i + (sc pE (d :: r) + 1) = i + 1 + sc pE (d :: r) by omega, sub_drop (by omega), Option.bind_some, h2, Option.bind_some, Option.bind_some]
        rw [rfin (F := fun v Y => ref13_Words_l1 s K2 q v Y) hln]
        have e0 : decide (((sc pE (d :: r) + 1 : Nat) : Int) = 0) = false := by rw [decide_eq_false_iff_not]; omega
        rw [e0, Bool.false_or, show i + 1 + sc pE (d :: r) = i + (sc pE (d :: r) + 1) by omega]
        rfl
      | false =>
        simp only [Bool.false_eq_true, if_false]
        cases hd6 : decide (d = 61) with
        | true =>
          have hone2 : oneT 58 (d :: r) = (lex_Word.mk 6 [] 0, 2) := by rw [hone, colT_cons, hd6]; rfl
          rw [hone2]
          simp only [eq_self_iff_true, if_true]
          rw [ck_succ (by omega), Option.bind_some, Option.bind_some, Option.bind_some]
          rw [rfin (F := fun v Y => ref13_Words_l1 s K2 q v Y) (by simp)]
          rfl
        | false =>
          have hone2 : (oneT 58 (d :: r)).2 = 0 := by rw [hone, colT_cons, hd6, hd]; rfl
          simp only [Bool.false_eq_true, if_false, Option.bind_some]
          exact bad hone2 (by simp)
  | false =>
  simp only [Bool.false_eq_true, if_false, Option.bind_some]
  cases hD : pD b with
  | true =>
    have hsc := sc_le pD r
    have hone : oneT b r = (lex_Word.mk 3 ((b :: r).take (sc pD r + 1)) 0, ((sc pD r + 1 : Nat) : Int)) := by unfold oneT; rw [hL, hD, sc_pos hD]; rfl
    have hln : ((b :: r).take (sc pD r + 1)).length ≤ 8000000000000000000 := by rw [List.length_take, List.length_cons]; omega
    rw [hone]
    simp only [eq_self_iff_true, if_true]
    rw [l4_eq (by omega) (by omega), h2, Option.bind_some, show i + 1 + sc pD r = i + (sc pD r + 1) by omega, sub_drop (by omega), Option.bind_some, h]
    simp only [Option.bind_some]
    rw [rfin (F := fun v Y => ref13_Words_l1 s K2 q v Y) hln]
    have e0 : decide (((sc pD r + 1 : Nat) : Int) = 0) = false := by rw [decide_eq_false_iff_not]; omega
    rw [e0, Bool.false_or]
    rfl
  | false =>
  simp only [Bool.false_eq_true, if_false]
  cases hB : pB b with
  | true =>
    simp only [eq_self_iff_true, if_true]
    have e2 : sub s (i : Int) ((i + 1 : Nat) : Int) = some [b] := by rw [sub_drop (by omega), h]; rfl
    cases r with
    | nil =>
      have hone : oneT b [] = (lex_Word.mk 2 [b] 0, 1) := by unfold oneT; rw [hL, hD, hB, sc_pos hB]; rfl
      rw [hone, at_nil h2, Option.bind_some, show decide ((1 : Int) = 43) = false by rfl, if_neg (by simp), Option.bind_some, e2]
      simp only [Option.bind_some]
      rw [rfin (F := fun v Y => ref13_Words_l1 s K2 q v Y) (by simp)]
      rfl
    | cons d r =>
      rw [at_cons h2, Option.bind_some, pB_dec]
      cases hd : pB d with
      | true =>
        have hone : oneT b (d :: r) = (lex_Word.mk 2 [b, d] 0, 2) := by
          unfold oneT; rw [hL, hD, hB, sc_pos hB, sc_pos hd]
          rw [show min 2 (sc pB r + 1 + 1) = 2 by omega]; rfl
        have e3 : sub s (i : Int) ((i + 2 : Nat) : Int) = some [b, d] := by
          rw [sub_drop (by rw [List.length_cons] at hlen; omega), h]; rfl
        rw [hone, if_pos rfl, ck_succ (by omega), Option.bind_some, Option.bind_some, show i + 1 + 1 = i + 2 by rfl, e3]
        simp only [Option.bind_some]
        rw [rfin (F := fun v Y => ref13_Words_l1 s K2 q v Y) (by simp)]
        rfl
      | false =>
        have hone : oneT b (d :: r) = (lex_Word.mk 2 [b] 0, 1) := by
          have e0 : sc pB (d :: r) = 0 := by rw [sc, hd]; rfl
          unfold oneT; rw [hL, hD, hB, sc_pos hB, e0]; rfl
        rw [hone, if_neg (by simp), Option.bind_some, e2]
        simp only [Option.bind_some]
        rw [rfin (F := fun v Y => ref13_Words_l1 s K2 q v Y) (by simp)]
        rfl
  | false =>
  simp only [Bool.false_eq_true, if_false]
  cases h39 : decide (b = 39) with
  | true =>
    obtain ⟨acc', hq5⟩ := l5_eq (s := s) (by omega) r.length r (Nat.le_refl _) (i + 1) fuel [] h2 (by omega) (by unfold fuel; omega) (Nat.zero_le _)
    simp only [eq_self_iff_true, if_true]
    rw [hq5, Option.bind_some]
    cases hz : qd r with
    | none =>
      have hone : (oneT b r).2 = 0 := by unfold oneT; rw [hL, hD, hB, e58, h39, hz]; rfl
      simp only
      have e0 : decide ((s.length : Int) < (s.length : Int)) = false := by rw [decide_eq_false_iff_not]; omega
      rw [e0, if_neg (by simp), Option.bind_some, ck_succ (by omega)]
      simp only [Option.bind_some]
      exact bad hone (by simp)
    | some z =>
      have hz2 := qd_le _ r (Nat.le_refl _) z.1 z.2 hz
      have hone : oneT b r = (lex_Word.mk 4 z.1 0, ((z.2 + 1 : Nat) : Int)) := by unfold oneT; rw [hL, hD, hB, e58, h39, hz]; rfl
      have e0 : decide (((i + 1 + z.2 - 1 : Nat) : Int) < (s.length : Int)) = true := by rw [decide_eq_true_iff]; omega
      simp only
      rw [e0, if_pos rfl, Option.bind_some, ck_succ (by omega)]
      simp only [Option.bind_some]
      rw [List.nil_append, ofInts_toInts, hone]
      rw [rfin (F := fun v Y => ref13_Words_l1 s K2 q v Y) (by simp only; omega)]
      have e1 : decide (((z.2 + 1 : Nat) : Int) = 0) = false := by rw [decide_eq_false_iff_not]; omega
      rw [e1, Bool.false_or, show i + 1 + z.2 - 1 + 1 = i + (z.2 + 1) by omega]
      rfl
  | false =>
    simp only [Bool.false_eq_true, if_false]
    rw [l6_eq b hL hD hB]
    simp only [Option.bind_some]
    cases hm : decide (0 ≤ idxB mks b) with
    | true =>
      have hone : oneT b r = (lex_Word.mk (7 + idxB mks b) [] 0, 1) := by unfold oneT; rw [hL, hD, hB, e58, h39, hm]; rfl
      rw [hone, cond_true]
      rw [rfin (F := fun v Y => ref13_Words_l1 s K2 q v Y) (by simp)]
      rfl
    | false =>
      have hone : (oneT b r).2 = 0 := by unfold oneT; rw [hL, hD, hB, e58, h39, hm]; rfl
      rw [cond_false]
      exact bad hone (by simp)
end Go.Cq

