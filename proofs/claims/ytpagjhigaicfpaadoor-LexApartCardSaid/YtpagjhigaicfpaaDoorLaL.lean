import Derived.Test.YtpagjhigaicfpaaDoorLaK
import Derived.KernelRfl
set_option linter.unusedSectionVars false
set_option linter.unusedVariables false
set_option linter.unusedSimpArgs false
set_option maxRecDepth 100000
set_option linter.unusedVariables false
set_option linter.unusedSimpArgs false
namespace Go.Cq
open Go Go.Av

def cv (w : lex_Word) : ref13_Word := ⟨w.K, w.S, w.At⟩
def code : Option Int → Int
  | none => 0
  | some n => n
theorem app32 {α : Type} {l : List α} {w : α} (h : l.length ≤ 100000) : app 32 l [w] = some (l ++ [w]) := by
  unfold app; rw [if_pos (by rw [List.length_singleton]; simp only [maxB]; constructor <;> omega)]
def KL (v : List lex_Word) : Option (List lex_Word × Int × Option Int) := some (v, 0, none)
def KR (v : List ref13_Word) : Option (List ref13_Word × Int × Int) := some (v, 0, 0)
theorem loops {s : Str} (hs : s.length ≤ 65536) (n : Nat) : ∀ (r : Str) (i q q' : Nat) (out : List lex_Word), s.drop i = r → i ≤ s.length → r.length ≤ n → r.length < q → r.length < q' → out.length ≤ i →
    ∃ res : List lex_Word × Int × Option Int, lex_Words_l1 s KL q out (i : Int) = some res ∧ ref13_Words_l1 s KR q' (out.map cv) (i : Int) = some (res.1.map cv, res.2.1, code res.2.2) ∧ res.1.length ≤ 65536 := by
  have hnil : ∀ (i q q' : Nat) (out : List lex_Word), s.drop i = [] → i ≤ s.length → out.length ≤ i → ∃ res : List lex_Word × Int × Option Int, lex_Words_l1 s KL (q + 1) out (i : Int) = some res ∧ ref13_Words_l1 s KR (q' + 1) (out.map cv) (i : Int) = some (res.1.map cv, res.2.1, code res.2.2) ∧ res.1.length ≤ 65536 := by
    intro i q q' out h hi ho
    refine ⟨(out, 0, none), ?_, ?_, by simp only; omega⟩
    · rw [lex_Words_l1, ge_drop h]; rfl
    · rw [ref13_Words_l1, ge_drop h]; rfl
  induction n with
  | zero =>
    intro r i q q' out h hi hn hq hq' ho
    obtain rfl : r = [] := List.eq_nil_of_length_eq_zero (Nat.le_zero.1 hn)
    obtain ⟨q, rfl⟩ : ∃ k, q = k + 1 := ⟨q - 1, by omega⟩
    obtain ⟨q', rfl⟩ : ∃ k, q' = k + 1 := ⟨q' - 1, by omega⟩
    exact hnil i q q' out h hi ho
  | succ n ih =>
    intro r i q q' out h hi hn hq hq' ho
    obtain ⟨q, rfl⟩ : ∃ k, q = k + 1 := ⟨q - 1, by omega⟩
    obtain ⟨q', rfl⟩ : ∃ k, q' = k + 1 := ⟨q' - 1, by omega⟩
    cases r with
    | nil => exact hnil i q q' out h hi ho
    | cons b r =>
      obtain ⟨h1, h2, h3⟩ := drop_cons h
      have hlen : s.length = i + (r.length + 1) := by have := congrArg List.length h; rw [List.length_drop, List.length_cons] at this; omega
      rw [List.length_cons] at hn hq hq'
      have hbad : ∀ x : Int, ∃ res : List lex_Word × Int × Option Int, some (([] : List lex_Word), x, some (9 : Int)) = some res ∧ some (([] : List ref13_Word), x, (9 : Int)) = some (res.1.map cv, res.2.1, code res.2.2) ∧ res.1.length ≤ 65536 :=
        fun x => ⟨([], x, some 9), rfl, rfl, Nat.zero_le _⟩
      rw [w1_eq KL (by omega) h, r1_eq KR (by omega) h]
      cases blB b with
      | true => exact ih r (i + 1) q q' out h2 h3 (by omega) (by omega) (by omega) (by omega)
      | false =>
        rw [cond_false, cond_false]
        cases decide (b = 34) with
        | true =>
          rw [cond_true, cond_true]
          cases he : sc p34 r == r.length with
          | true => exact hbad _
          | false =>
            have h4 := sc_le p34 r
            have h5 : sc p34 r ≠ r.length := by simpa using he
            have h6 : ((s.drop (i + (sc p34 r + 2))).length) = s.length - (i + (sc p34 r + 2)) := List.length_drop
            exact ih _ (i + (sc p34 r + 2)) q q' out rfl (by omega) (by omega) (by omega) (by omega) (by omega)
        | false =>
          rw [cond_false, cond_false]
          have hb := one_bound b r
          rw [List.length_cons] at hb
          cases he : (decide ((oneT b r).2 = 0) || !mayB (oneT b r).1.K (oneT b r).1.S (i : Int)) with
          | true => exact hbad _
          | false =>
            rw [cond_false, cond_false]
            have h5 : (oneT b r).2 ≠ 0 := by
              intro e; rw [decide_eq_true e, Bool.true_or] at he; cases he
            obtain ⟨m, hm⟩ : ∃ m : Nat, (oneT b r).2 = (m : Int) := ⟨(oneT b r).2.toNat, by omega⟩
            rw [hm] at hb h5
            have h6 : ((s.drop (i + m)).length) = s.length - (i + m) := List.length_drop
            have := ih _ (i + m) q q' (out ++ [lex_Word.mk (oneT b r).1.K (oneT b r).1.S (i : Int)]) rfl (by omega) (by omega) (by omega) (by omega) (by rw [List.length_append, List.length_singleton]; omega)
            rw [List.map_append] at this
            rw [app32 (by omega), app32 (by rw [List.length_map]; omega), Option.bind_some, Option.bind_some, hm]
            exact this
theorem words_l {s : Str} (hd : decide ((65536 : Int) < (s.length : Int)) = false) : lex_Words s = lex_Words_l1 s KL fuel [] ((0 : Nat) : Int) := by
  have eL : (fun v : List lex_Word => (some (v, 0, none) : Option (List lex_Word × Int × Option Int))) = KL := rfl
  rw [lex_Words, hd, if_neg (by simp)]
  simp only [letK]
  rw [eL, Int.natCast_zero]
theorem words_r {s : Str} (hd : decide ((65536 : Int) < (s.length : Int)) = false) : ref13_Words s = ref13_Words_l1 s KR fuel ([].map cv) ((0 : Nat) : Int) := by
  have eR : (fun v : List ref13_Word => (some (v, 0, 0) : Option (List ref13_Word × Int × Int))) = KR := rfl
  rw [ref13_Words, hd, if_neg (by simp)]
  simp only [letK]
  rw [eR, Int.natCast_zero, List.map_nil]
theorem words_eq {s : Str} (hs : s.length ≤ 70000) : ∃ res : List lex_Word × Int × Option Int, lex_Words s = some res ∧ ref13_Words s = some (res.1.map cv, res.2.1, code res.2.2) ∧ res.1.length ≤ 65536 := by
  cases hd : decide ((65536 : Int) < (s.length : Int)) with
  | true =>
    refine ⟨([], 0, some 4), ?_, ?_, Nat.zero_le _⟩
    · rw [lex_Words, hd, if_pos rfl]
    · rw [ref13_Words, hd, if_pos rfl]; rfl
  | false =>
    rw [words_l hd, words_r hd]
    rw [decide_eq_false_iff_not] at hd
    have hf : s.length < fuel := by unfold fuel; omega
    exact loops (s := s) (by omega) s.length s 0 fuel fuel [] rfl (Nat.zero_le _) (Nat.le_refl _) hf hf (Nat.zero_le _)
theorem are_l1 {l : List lex_Word} {K : Unit → Option Bool} (hl : l.length ≤ 65536) (n : Nat) : ∀ (j q : Nat), l.length - j ≤ n → j ≤ l.length → l.length - j < q → law13_areWords_l1 l (l.map cv) K q (j : Int) = K () := by
  induction n with
  | zero =>
    intro j q hn hj hq
    obtain ⟨q, rfl⟩ : ∃ k, q = k + 1 := ⟨q - 1, by omega⟩
    rw [law13_areWords_l1, if_neg (by rw [List.length_map, decide_eq_true_iff]; omega)]
  | succ n ih =>
    intro j q hn hj hq
    obtain ⟨q, rfl⟩ : ∃ k, q = k + 1 := ⟨q - 1, by omega⟩
    rcases Nat.lt_or_ge j l.length with h | h
    · have e1 : lAt l (j : Int) = some l[j] := by
        unfold lAt; rw [if_pos (by omega), show ((j : Nat) : Int).toNat = j by omega, List.getElem?_eq_getElem h]
      have e2 : lAt (l.map cv) (j : Int) = some (cv l[j]) := by
        unfold lAt; rw [if_pos (by omega), show ((j : Nat) : Int).toNat = j by omega, List.getElem?_map, List.getElem?_eq_getElem h]; rfl
      have e3 : (decide (l[j].K = (cv l[j]).K) && ((l[j].S == (cv l[j]).S) && decide (l[j].At = (cv l[j]).At))) = true := by
        show (decide (l[j].K = l[j].K) && ((l[j].S == l[j].S) && decide (l[j].At = l[j].At))) = true
        simp
      rw [law13_areWords_l1, if_pos (by rw [List.length_map, decide_eq_true_iff]; omega), e1, Option.bind_some, e2, Option.bind_some, e3, if_neg (by simp), ck_succ (by omega), Option.bind_some]
      exact ih (j + 1) q (by omega) (by omega) (by omega)
    · rw [law13_areWords_l1, if_neg (by rw [List.length_map, decide_eq_true_iff]; omega)]
theorem are_eq {l : List lex_Word} (hl : l.length ≤ 65536) : law13_areWords l (l.map cv) = some true := by
  have e : decide ((l.length : Int) = ((l.map cv).length : Int)) = true := by rw [List.length_map, decide_eq_true_iff]
  have := are_l1 (K := fun _ => some true) hl l.length 0 fuel (by omega) (Nat.zero_le _) (by unfold fuel; omega)
  rw [law13_areWords, e, if_neg (by simp)]
  simp only [letK]
  exact this
theorem sure_ok : law13_sure = some true := by kernel_rfl
theorem law_reads (s : Str) : law13_LexReads s = some true := by
  rw [law13_LexReads, sure_ok, Option.bind_some]
  cases hd : decide ((70000 : Int) < (s.length : Int)) with
  | true => rfl
  | false =>
    rw [decide_eq_false_iff_not] at hd
    obtain ⟨res, h1, h2, h3⟩ := words_eq (s := s) (by omega)
    have hn : law_num res.2.2 = some (code res.2.2) := by
      unfold law_num code; cases res.2.2 <;> rfl
    rw [if_neg (by simp), h1, Option.bind_some, h2, Option.bind_some, hn, Option.bind_some, decide_eq_true rfl, if_pos rfl, decide_eq_true rfl, if_pos rfl, are_eq h3, Option.bind_some, if_pos rfl, Option.bind_some]
end Go.Cq

