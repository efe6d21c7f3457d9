import Derived.Test.YtpagjhigaicfpaaDoorLaF
set_option linter.unusedSectionVars false
set_option linter.unusedVariables false
set_option linter.unusedSimpArgs false
set_option maxRecDepth 100000
set_option linter.unusedVariables false
set_option linter.unusedSimpArgs false
namespace Go.Cq
open Go Go.Av

theorem cl58 (b : UInt8) : decide (cl b = 58) = decide (b = 58) := by
  rw [← dec58, decide_eq_decide]
  have := allB (p := fun b => (cl b == 58) == (b.toNat == 58)) (by kernel_rfl) b
  have h : cl b = 58 ↔ b.toNat = 58 := by
    rw [← beq_iff_eq, ← beq_iff_eq (a := b.toNat)]
    rw [beq_iff_eq] at this; rw [this]
  rw [h]; omega
theorem cl39 (b : UInt8) : decide (cl b = 39) = decide (b = 39) := by
  rw [← dec39, decide_eq_decide]
  have := allB (p := fun b => (cl b == 39) == (b.toNat == 39)) (by kernel_rfl) b
  have h : cl b = 39 ↔ b.toNat = 39 := by
    rw [← beq_iff_eq, ← beq_iff_eq (a := b.toNat)]
    rw [beq_iff_eq] at this; rw [this]
  rw [h]; omega
theorem cl34 (b : UInt8) : decide (cl b = 34) = decide (b = 34) := by
  rw [← dec34, decide_eq_decide]
  have := allB (p := fun b => (cl b == 34) == (b.toNat == 34)) (by kernel_rfl) b
  have h : cl b = 34 ↔ b.toNat = 34 := by
    rw [← beq_iff_eq, ← beq_iff_eq (a := b.toNat)]
    rw [beq_iff_eq] at this; rw [this]
  rw [h]; omega
def isKey : Str → Bool
  | [] => false
  | [c] => decide (c = 58)
  | c :: d :: _ => decide (c = 58) && !decide (d = 61)
theorem isKey_1 {c : UInt8} : isKey [c] = decide (c = 58) := rfl
theorem isKey_2 {c d : UInt8} {u : Str} : isKey (c :: d :: u) = (decide (c = 58) && !decide (d = 61)) := rfl
theorem drop_le {t : Str} {n : Nat} (h : n ≤ t.length) {u : Str} (hu : t.drop n = u) : u.length = t.length - n := by rw [← hu, List.length_drop]
theorem letters_eq {t : Str} (ht : t.length ≤ 90000) : lex_letters t = some (bif isKey (t.drop (sc pE t)) then (lex_Word.mk 1 (t.take (sc pE t)) 0, ((sc pE t + 1 : Nat) : Int)) else (lex_Word.mk 0 (t.take (sc pE t)) 0, ((sc pE t : Nat) : Int))) := by
  have hle := sc_le pE t
  rw [lex_letters, many_eq (p := pE) either_eq (by omega), Option.bind_some, sub_zero hle, Option.bind_some, Option.bind_some, ck_succ (by omega), Option.bind_some]
  generalize hu : t.drop (sc pE t) = u
  cases u with
  | nil => rw [ge_drop hu]; rfl
  | cons c u =>
    obtain ⟨h1, h2, h3⟩ := drop_cons hu
    rw [lt_drop hu, if_pos rfl, sIdx_drop hu, Option.bind_some, dec58, Option.bind_some, len_dec h2 h3]
    cases u with
    | nil => rw [isKey_1]; cases decide (c = 58) <;> rfl
    | cons d u =>
      rw [List.isEmpty_cons, if_neg (show ¬ (false = true) from Bool.false_ne_true), sIdx_drop h2, Option.bind_some, dec61]
      rw [isKey_2]
      cases decide (c = 58) <;> cases decide (d = 61) <;> rfl
def colT : Str → lex_Word × Int
  | [] => (lex_Word.mk 0 [] 0, 0)
  | d :: r => bif decide (d = 61) then (lex_Word.mk 6 [] 0, 2) else bif pL d then (lex_Word.mk 5 ((d :: r).take (sc pE (d :: r))) 0, ((sc pE (d :: r) + 1 : Nat) : Int)) else (lex_Word.mk 0 [] 0, 0)
theorem colT_cons {d : UInt8} {r : Str} : colT (d :: r) = bif decide (d = 61) then (lex_Word.mk 6 [] 0, 2) else bif pL d then (lex_Word.mk 5 ((d :: r).take (sc pE (d :: r))) 0, ((sc pE (d :: r) + 1 : Nat) : Int)) else (lex_Word.mk 0 [] 0, 0) := rfl
theorem colon_eq {b : UInt8} {r : Str} (ht : r.length ≤ 80000) : lex_colon (b :: r) = some (colT r) := by
  have h0 : sub (b :: r) 1 ((b :: r).length : Int) = some r := sub_rest (s := b :: r) (i := 1) (by simp)
  rw [lex_colon, h0, Option.bind_some]
  cases r with
  | nil => rfl
  | cons d r =>
    have hle := sc_le pE (d :: r)
    have e : (!(d :: r == [])) = true := rfl
    rw [e, if_pos rfl, if_pos rfl, sIdx_zero, Option.bind_some, Option.bind_some, Option.bind_some, dec61, letter_eq, Option.bind_some, Option.bind_some, many_eq (p := pE) either_eq (by omega), Option.bind_some, sub_zero hle, Option.bind_some, ck_succ (by omega), Option.bind_some]
    rw [colT_cons]
    cases decide (d = 61) <;> cases pL d <;> rfl

def mks : Str := [94, 59, 46, 40, 41, 91, 93, 124, 123, 125]
theorem mks_small (b : UInt8) : idxB mks b ≤ 9 := by
  letI : Lay := ⟨fun _ _ _ => False⟩
  rw [idxB_spec]
  cases h : mks.findIdx? (· == b) with
  | none => decide
  | some i =>
    have := (List.findIdx?_eq_some_iff_getElem.1 h).1
    have e : mks.length = 10 := rfl
    simp only; omega
/-- The word that a text begins with, and how long it is; 0: there is none. -/
def oneT (b : UInt8) (r : Str) : lex_Word × Int :=
  bif pL b then (bif isKey ((b :: r).drop (sc pE (b :: r))) then (lex_Word.mk 1 ((b :: r).take (sc pE (b :: r))) 0, ((sc pE (b :: r) + 1 : Nat) : Int)) else (lex_Word.mk 0 ((b :: r).take (sc pE (b :: r))) 0, ((sc pE (b :: r) : Nat) : Int)))
  else bif pD b then (lex_Word.mk 3 ((b :: r).take (sc pD (b :: r))) 0, ((sc pD (b :: r) : Nat) : Int))
  else bif pB b then (lex_Word.mk 2 ((b :: r).take (min 2 (sc pB (b :: r)))) 0, ((min 2 (sc pB (b :: r)) : Nat) : Int))
  else bif decide (b = 58) then colT r
  else bif decide (b = 39) then (match qd r with | some z => (lex_Word.mk 4 z.1 0, ((z.2 + 1 : Nat) : Int)) | none => (lex_Word.mk 0 [] 0, 0))
  else bif decide (0 ≤ idxB mks b) then (lex_Word.mk (7 + idxB mks b) [] 0, 1) else (lex_Word.mk 0 [] 0, 0)
theorem wrap_small {n : Int} (h : 0 ≤ n) (h2 : n ≤ 255) : IntKind.wrap .u8 n = n := by
  simp only [IntKind.wrap, IntKind.bits, IntKind.signed]
  simp
  omega
theorem one_eq {b : UInt8} {r : Str} (ht : r.length ≤ 80000) : lex_one (b :: r) = some (oneT b r) := by
  have hl : (b :: r).length ≤ 90000 := by rw [List.length_cons]; omega
  rw [lex_one, sIdx_zero, Option.bind_some, letter_eq, Option.bind_some]
  unfold oneT
  cases pL b with
  | true =>
    rw [if_pos rfl, cond_true, letters_eq hl, Option.bind_some]
  | false =>
    rw [if_neg (by simp), cond_false, digit_eq, Option.bind_some]
    cases pD b with
    | true =>
      rw [if_pos rfl, cond_true, many_eq (p := pD) digit_eq (by omega), Option.bind_some, sub_zero (sc_le pD _), Option.bind_some]
    | false =>
      rw [if_neg (by simp), cond_false, bin_eq, Option.bind_some]
      cases pB b with
      | true =>
        have hm : min (2 : Int) ((sc pB (b :: r) : Nat) : Int) = ((min 2 (sc pB (b :: r)) : Nat) : Int) := by omega
        rw [if_pos rfl, cond_true, many_eq (p := pB) bin_eq (by omega), Option.bind_some, hm, sub_zero (by have := sc_le pB (b :: r); omega), Option.bind_some]
      | false =>
        rw [if_neg (by simp), cond_false, dec58]
        cases decide (b = 58) with
        | true => rw [if_pos rfl, cond_true, colon_eq ht, Option.bind_some]
        | false =>
          rw [if_neg (by simp), cond_false, dec39]
          cases decide (b = 39) with
          | true =>
            have h0 : sub (b :: r) 1 ((b :: r).length : Int) = some r := sub_rest (s := b :: r) (i := 1) (by simp)
            rw [if_pos rfl, cond_true, h0, Option.bind_some, quoted_eq (by omega), Option.bind_some]
            cases hq : qd r with
            | none => rfl
            | some z =>
              have := (qd_le _ r (Nat.le_refl _) z.1 z.2 hq).1
              simp only [if_true]
              rw [ck_succ (by omega), Option.bind_some]
          | false =>
            rw [if_neg (by simp), cond_false, idxByte_eq, Option.bind_some]
            show (if decide (0 ≤ idxB mks b) = true then _ else _) = _
            cases hd : decide (0 ≤ idxB mks b) with
            | false => rfl
            | true =>
              have h1 := of_decide_eq_true hd
              have h2 := mks_small b
              have hck : ck (7 + idxB mks b) = some (7 + idxB mks b) := by unfold ck; rw [if_pos (by omega)]
              rw [if_pos rfl, cond_true]
              show (ck (7 + idxB mks b)).bind _ = _
              rw [hck, Option.bind_some, wrap_small (by omega) (by omega)]
end Go.Cq

