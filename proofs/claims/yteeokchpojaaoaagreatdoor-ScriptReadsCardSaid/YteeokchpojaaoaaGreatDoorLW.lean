import Derived.Test.YteeokchpojaaoaaGreatDoorLK
set_option linter.unusedSectionVars false
set_option linter.unusedVariables false
set_option linter.unusedSimpArgs false
set_option maxRecDepth 100000
set_option linter.unusedVariables false
set_option linter.unusedSimpArgs false
namespace Go.Cq
open Go Go.Av

/-- The document's kind and number of a value's text. -/
def refMid (v20 : Str) (l : Int) : Option (Bool × ref11_Val) :=
      if (((v20 == [110, 105, 108]) || (v20 == [102, 97, 108, 115, 101])) || (v20 == [116, 114, 117, 101])) then
        (
          if (v20 == [102, 97, 108, 115, 101]) then
            some 1
          else
            some 0
        ).bind fun y24 =>
        (
          if (v20 == [116, 114, 117, 101]) then
            some 2
          else
            some y24
        ).bind fun y26 =>
        some (true, (ref11_Val.mk y26 0 l))
      else
        (
          if (decide ((0 : Int) < (v20.length : Int))) then
            (sIdx v20 0).bind fun v33 =>
            some (decide (v33 = 35))
          else
            some false
        ).bind fun y28 =>
        (
          if y28 then
            (sub v20 1 (v20.length : Int)).bind fun v38 =>
            some (v38, 4)
          else
            (
              if (decide ((0 : Int) < (v20.length : Int))) then
                (sIdx v20 0).bind fun v44 =>
                some (decide (v44 = 64))
              else
                some false
            ).bind fun y39 =>
            (
              if y39 then
                (sub v20 1 (v20.length : Int)).bind fun v49 =>
                some (v49, 5)
              else
                some (v20, 3)
            ).bind fun y45 =>
            some (y45.1, y45.2)
        ).bind fun y34 =>
        (ref30_num y34.1).bind fun v50 =>
        some (v50.2, (ref11_Val.mk y34.2 v50.1 l))
theorem refMid_eq (p : Str) (l : Int) : refMid p l = if isNm p = true then some (true, ⟨nmK p, 0, l⟩) else (ref30_num (kindP p).2).bind fun v => some (v.2, ⟨(kindP p).1, v.1, l⟩) := by
  unfold refMid isNm nmK
  cases h1 : (p == [110, 105, 108]) with
  | true =>
    have hp := eq_of_beq h1
    subst hp
    rfl
  | false =>
    cases h2 : (p == [102, 97, 108, 115, 101]) with
    | true =>
      have hp := eq_of_beq h2
      subst hp
      rfl
    | false =>
      cases h3 : (p == [116, 114, 117, 101]) with
      | true =>
        have hp := eq_of_beq h3
        subst hp
        rfl
      | false =>
        simp only [ifF, ifFa, Bool.false_eq_true, Bool.false_or]
        cases p with
        | nil => rfl
        | cons x r =>
          have e0 : sIdx (x :: r) 0 = some (x.toNat : Int) := sIdx_at (s := x :: r) (j := 0) rfl
          have es : sub (x :: r) 1 ((x :: r).length : Int) = some r := by
            unfold sub; rw [if_pos ⟨by decide, by simp; omega, Int.le_refl _⟩]; simp
          rw [show decide ((0 : Int) < ((x :: r).length : Int)) = true by simp, ifT, e0, bindS, bindS, ifT, bindS]
          unfold kindP
          dsimp only
          by_cases a : x = 35
          · subst a
            rw [show decide (((35 : UInt8).toNat : Int) = 35) = true from rfl, ifT, es, bindS, bindS, if_pos rfl]
          · have a' : decide ((x.toNat : Int) = 35) = false := decide_eq_false fun e => a (UInt8.toNat_inj.1 (show x.toNat = 35 by omega))
            rw [a', ifF, if_neg a, bindS]
            by_cases b : x = 64
            · subst b
              rw [show decide (((64 : UInt8).toNat : Int) = 64) = true from rfl, ifT, es, bindS, bindS, bindS, if_pos rfl]
            · have b' : decide ((x.toNat : Int) = 64) = false := decide_eq_false fun e => b (UInt8.toNat_inj.1 (show x.toNat = 64 by omega))
              rw [b', ifF, if_neg b, bindS, bindS]
theorem kindP_len (s : Str) : (kindP s).2.length ≤ s.length := by
  unfold kindP
  cases s with
  | nil => simp
  | cons x r => dsimp only; split <;> (try split) <;> simp
/-- Both read the same values. -/
theorem value_same {s : Str} (hs : s.length ≤ 1000000) : ∃ v w b, script_value s = some (v, b) ∧ ref30_value s = some (w, b) ∧ (b = true → v = toV w) := by
  have hl := cutAt_len 47 s
  have hb := cutAt_back 47 s
  unfold script_value
  rw [cut_one' 47 (by omega), bindS]
  have hv : ref30_value_l1 s fuel 0 = some (((cutAt 47 s).1.length : Nat) : Int) := by
    have := value_loop s hs s 0 fuel rfl (by omega) (Nat.lt_of_le_of_lt hs (by decide))
    simpa using this
  unfold ref30_value
  rw [hv, bindS]
  generalize hc : cutAt 47 s = ct at *
  obtain ⟨p, t, fd⟩ := ct
  dsimp only at *
  obtain ⟨l, l', bl, n1, n2, n3⟩ := nums_same (s := t) (by omega)
  have hkp := kindP_len p
  obtain ⟨n, n', bn, m1, m2, m3⟩ := nums_same (s := (kindP p).2) (by omega)
  rw [script_kind_eq, n1]
  cases fd with
  | false =>
    rw [ifF] at hb
    subst hb
    rw [decide_eq_true rfl, ifT]
    cases hn : isNm s with
    | true => exact ⟨_, _, false, by simp only [ifT, ifF, ifTr, ifFa, Bool.false_eq_true, bindS]; rfl, rfl, fun h => by cases h⟩
    | false => exact ⟨_, _, false, by rw [m1]; simp only [ifT, ifF, ifTr, ifFa, Bool.false_eq_true, bindS]; rfl, rfl, fun h => by cases h⟩
  | true =>
    rw [ifT] at hb
    have hlen : s.length = p.length + 1 + t.length := by rw [hb]; simp; omega
    have e1 : sub s (((p.length + 1 : Nat)) : Int) (s.length : Int) = some t := by
      rw [sub_nat (by omega) (Nat.le_refl _), List.take_length, hb]
      simp
    have e2 : sub s 0 ((p.length : Nat) : Int) = some p := by
      have := sub_nat (s := s) (a := 0) (b := p.length) (by omega) (by omega)
      rw [show ((0 : Nat) : Int) = 0 from rfl] at this
      rw [this, hb]; simp
    rw [decide_eq_false (by omega), ifF, cks (by omega), bindS, e1, bindS, n2, bindS, e2, bindS]
    have hmid := refMid_eq p l'
    unfold refMid at hmid
    rw [hmid]
    cases hn : isNm p with
    | true =>
      rw [ifT, ifT, bindS, bindS, bindS]
      dsimp only
      rw [ifT, ifT, ifT]
      cases bl with
      | false => exact ⟨_, _, false, rfl, rfl, fun h => by cases h⟩
      | true =>
        have := n3 rfl
        subst this
        rw [ifT, ifT, may_obj, may_ref]
        exact ⟨_, _, _, rfl, rfl, fun _ => rfl⟩
    | false =>
      rw [ifF, ifF, m1, m2, bindS, bindS, bindS, bindS, bindS]
      dsimp only
      rw [ifT]
      cases bl with
      | false =>
        cases bn with
        | false => exact ⟨_, _, false, rfl, rfl, fun h => by cases h⟩
        | true => exact ⟨_, _, false, rfl, rfl, fun h => by cases h⟩
      | true =>
        have := n3 rfl
        subst this
        cases bn with
        | false => exact ⟨_, _, false, rfl, rfl, fun h => by cases h⟩
        | true =>
          have := m3 rfl
          subst this
          rw [ifT, ifT, ifT, ifT, may_obj, may_ref]
          exact ⟨_, _, _, rfl, rfl, fun _ => rfl⟩
end Go.Cq

