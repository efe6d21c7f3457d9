import Derived.Test.YteeokchpojaaoaaGreatDoorLP
set_option linter.unusedSectionVars false
set_option linter.unusedVariables false
set_option linter.unusedSimpArgs false
set_option maxRecDepth 100000
set_option linter.unusedVariables false
set_option linter.unusedSimpArgs false
namespace Go.Cq
open Go Go.Av

theorem cutPre_nil (c : UInt8) : strings_CutPrefix [] [c] = some ([], false) := rfl
theorem cutPre_cons (c x : UInt8) (r : Str) : strings_CutPrefix (x :: r) [c] = some (if x = c then (r, true) else (x :: r, false)) := by
  unfold strings_CutPrefix internal_stringslite_CutPrefix internal_stringslite_HasPrefix
  rw [show decide ((([c] : Str).length : Int) ≤ ((x :: r).length : Int)) = true from decide_eq_true (by simp; omega), ifT]
  have e1 : sub (x :: r) 0 (([c] : Str).length : Int) = some [x] := by
    unfold sub; rw [if_pos ⟨Int.le_refl _, by simp, by simp; omega⟩]; rfl
  have e2 : sub (x :: r) (([c] : Str).length : Int) ((x :: r).length : Int) = some r := by
    unfold sub; rw [if_pos ⟨by simp, by simp; omega, Int.le_refl _⟩]; simp
  rw [e1, bindS, bindS, bindS]
  by_cases h : x = c
  · subst h
    rw [show ([x] == [x]) = true by simp, show (!true) = false from rfl, ifF, e2, bindS, bindS, if_pos rfl]
  · rw [show ([x] == [c]) = false by simpa using h, show (!false) = true from rfl, ifT, bindS, if_neg h]
/-- Where the first byte of a kind stands. -/
theorem value_loop (s : Str) (hs : s.length ≤ 1000000) : ∀ (r : Str) (j q : Nat), s.drop j = r → j ≤ s.length → r.length < q → ref30_value_l1 s q (j : Int) = some ((j + (cutAt 47 r).1.length : Nat) : Int)
  | [], j, q+1, h, hj, _ => by
    have : j = s.length := by have : s.length ≤ j := by simpa using h
                              omega
    subst this
    rw [ref30_value_l1, ge_len, ifF, bindS, ifF]; rfl
  | x :: r, j, q+1, h, hj, hq => by
    obtain ⟨e1, e2, e3⟩ := getDrop h
    rw [ref30_value_l1, lt_len e3, ifT, sIdx_at h, bindS, bindS]
    unfold cutAt
    by_cases hx : x = 47
    · rw [show decide ((x.toNat : Int) = 47) = true from decide_eq_true (by rw [hx]; rfl), show (!true) = false from rfl, ifF, if_pos hx]; rfl
    · have hx' : ¬ (x.toNat : Int) = 47 := fun e => hx (UInt8.toNat_inj.1 (show x.toNat = 47 by omega))
      rw [decide_eq_false hx', show (!false) = true from rfl, ifT, cks (by omega), bindS, value_loop s hs r (j+1) q e2 (by omega) (by simp at hq; omega), if_neg hx]
      congr 1; simp; omega
  | [], _, 0, _, _, hq => by omega
  | _ :: _, _, 0, _, _, hq => by omega
/-- The kind of a value's text, and where its number begins. -/
def kindP (s : Str) : Int × Str := match s with
  | [] => (3, [])
  | x :: r => if x = 35 then (4, r) else if x = 64 then (5, r) else (3, x :: r)
def isNm (s : Str) : Bool := (s == [110, 105, 108]) || (s == [102, 97, 108, 115, 101]) || (s == [116, 114, 117, 101])
def nmK (s : Str) : Int := if s == [110, 105, 108] then 0 else if s == [102, 97, 108, 115, 101] then 1 else 2
theorem script_kind_eq (s : Str) : script_kind s = if isNm s = true then some (nmK s, 0, true) else (script_number (kindP s).2).bind fun v => some ((kindP s).1, v.1, v.2) := by
  unfold script_kind isNm nmK
  cases h1 : (s == [110, 105, 108]) with
  | true => simp only [ifT, ifTr, Bool.true_or]
  | false =>
    cases h2 : (s == [102, 97, 108, 115, 101]) with
    | true => simp only [ifT, ifF, ifTr, ifFa, Bool.false_eq_true, Bool.true_or, Bool.false_or]
    | false =>
      cases h3 : (s == [116, 114, 117, 101]) with
      | true => simp only [ifT, ifF, ifTr, ifFa, Bool.false_eq_true, Bool.true_or, Bool.false_or]
      | false =>
        simp only [ifF, ifFa, Bool.false_eq_true, Bool.false_or]
        cases s with
        | nil => rw [cutPre_nil, bindS, ifF, cutPre_nil, bindS, ifF, bindS, bindS]; rfl
        | cons x r =>
          rw [cutPre_cons, bindS, cutPre_cons, bindS]
          unfold kindP
          dsimp only
          by_cases a : x = 35
          · rw [if_pos a, if_pos a, ifT, bindS]
          · rw [if_neg a, if_neg a]
            by_cases b : x = 64
            · rw [if_pos b, if_pos b, ifF, ifT, bindS, bindS]
            · rw [if_neg b, if_neg b, ifF, ifF, bindS, bindS]
end Go.Cq

