import Derived.Test.YteeokchpojaaoaaGreatDoorLN1
set_option linter.unusedSectionVars false
set_option linter.unusedVariables false
set_option linter.unusedSimpArgs false
set_option maxRecDepth 100000
set_option linter.unusedVariables false
set_option linter.unusedSimpArgs false
namespace Go.Cq
open Go Go.Av

/-- The end of the document's reading of a number. -/
def numK (neg : Bool) (v : Int) : Option (Int × Bool) :=
  if neg then some ((IntKind.wrap .i64 (0 - (IntKind.wrap .i64 v))), (decide (v ≤ 9223372036854775808)))
  else some ((IntKind.wrap .i64 v), (decide (v ≤ 9223372036854775807)))
def numC (neg : Bool) (y : Str) : Option (Int × Bool) :=
  (
    if (decide ((y.length : Int) < 1)) then
      some true
    else
      if (decide ((19 : Int) < (y.length : Int))) then
        some true
      else
        (sIdx y 0).bind fun v18 =>
        if (decide (v18 = 48)) then
          if neg then
            some true
          else
            some (decide ((1 : Int) < (y.length : Int)))
        else
          some false
  ).bind fun y12 =>
  if y12 then
    some (0, false)
  else
    letK (numK neg) fun (K22 : (Int → Option (Int × Bool))) =>
    ref30_num_l1 y K22 fuel 0 0
theorem numC_eq (neg : Bool) (y : Str) : numC neg y = if okDg neg y = true then numK neg (decV 0 y : Nat) else some (0, false) := by
  unfold numC okDg
  by_cases h1 : (y.length : Int) < 1
  · rw [decide_eq_true h1, ifT, bindS, ifT]
    simp only [Bool.not_true, Bool.false_and, ifF]
  · rw [decide_eq_false h1, ifF]
    by_cases h2 : (19 : Int) < (y.length : Int)
    · rw [decide_eq_true h2, ifT, bindS, ifT]
      simp only [Bool.not_true, Bool.not_false, Bool.true_and, Bool.false_and, ifF]
    · rw [decide_eq_false h2, ifF]
      cases hy : y with
      | nil => rw [hy] at h1; simp at h1
      | cons c r =>
        have e0 : sIdx (c :: r) 0 = some (c.toNat : Int) := sIdx_at (s := c :: r) (j := 0) rfl
        rw [e0, bindS]
        have h19 : (c :: r).length ≤ 19 := by rw [hy] at h2; omega
        have hf : (c :: r).length < fuel := Nat.lt_of_le_of_lt h19 (by decide)
        have hl := refnum_loop (c :: r) (numK neg) h19 (c :: r) 0 fuel 0 rfl (by omega) (by omega) hf
        have hl' : ref30_num_l1 (c :: r) (numK neg) fuel 0 0 = if (c :: r).all dgB = true then numK neg (decV 0 (c :: r) : Nat) else some (0, false) := hl
        by_cases h3 : c.toNat = 48
        · have hc : c = 48 := UInt8.toNat_inj.1 h3
          have e1 : ((c :: r).head? == some 48) = true := by rw [hc]; rfl
          rw [decide_eq_true (by omega), ifT, e1]
          cases neg with
          | true =>
            rw [ifT, bindS, ifT]
            simp only [Bool.not_true, Bool.not_false, Bool.true_and, Bool.true_or, Bool.and_false, Bool.false_and, ifF]
          | false =>
            rw [ifF, bindS]
            by_cases h4 : (1 : Int) < ((c :: r).length : Int)
            · rw [decide_eq_true h4, ifT]
              simp only [Bool.not_true, Bool.not_false, Bool.true_and, Bool.false_or, Bool.and_false, Bool.false_and, ifF]
            · rw [decide_eq_false h4, ifF, letK_e, hl']
              simp only [Bool.not_true, Bool.not_false, Bool.true_and, Bool.false_or]
        · have hc : ((c :: r).head? == some 48) = false := by
            have : c ≠ 48 := fun e => h3 (by rw [e]; rfl)
            simpa using this
          rw [decide_eq_false (by omega), ifF, bindS, ifF, letK_e, hl', hc]
          simp only [Bool.not_true, Bool.not_false, Bool.true_and, Bool.false_and]
theorem num_eqC (s : Str) : ref30_num s = match s with
    | [] => some (0, false)
    | c :: r => if c = 45 then numC true r else numC false (c :: r) := by
  cases s with
  | nil => rfl
  | cons c r =>
    unfold ref30_num
    have e0 : sIdx (c :: r) 0 = some (c.toNat : Int) := sIdx_at (s := c :: r) (j := 0) rfl
    rw [show decide ((0 : Int) < ((c :: r).length : Int)) = true by simp, ifT, e0, bindS, bindS]
    by_cases h : c = 45
    · subst h
      rw [show decide (((45 : UInt8).toNat : Int) = 45) = true from rfl, ifT]
      have es : sub ((45 : UInt8) :: r) 1 (((45 : UInt8) :: r).length : Int) = some r := by
        unfold sub; rw [if_pos ⟨by decide, by simp; omega, Int.le_refl _⟩]; simp
      rw [es, bindS, bindS]
      dsimp only
      rw [if_pos rfl]
      rfl
    · have : decide ((c.toNat : Int) = 45) = false := decide_eq_false fun e => h (UInt8.toNat_inj.1 (show c.toNat = 45 by omega))
      rw [this, ifF, bindS]
      dsimp only
      rw [if_neg h]
      rfl
/-- The document's numbers: those texts that are a number's own. -/
theorem refnum_ok (s : Str) : ∃ v b, ref30_num s = some (v, b) ∧ (b = true → Lib.itoa v = s ∧ -9223372036854775808 ≤ v ∧ v ≤ 9223372036854775807) ∧
    (b = false → ∀ n, -9223372036854775808 ≤ n → n ≤ 9223372036854775807 → Lib.itoa n ≠ s) := by
  rw [num_eqC]
  cases s with
  | nil =>
    refine ⟨0, false, rfl, fun h => (by cases h), fun _ n h0 h1 e => ?_⟩
    rcases itoa_cases n h0 h1 with ⟨u, _, _, h⟩ | ⟨u, _, _, _, h⟩
    · rw [h] at e; exact (digits_all u).2.2.1 e
    · rw [h] at e; cases e
  | cons c r =>
    dsimp only
    by_cases h : c = 45
    · subst h
      rw [if_pos rfl, numC_eq]
      cases hk : okDg true r with
      | false =>
        rw [ifF]
        refine ⟨0, false, rfl, fun h => (by cases h), fun _ n h0 h1 e => ?_⟩
        rcases itoa_cases n h0 h1 with ⟨u, _, _, h⟩ | ⟨u, q1, q2, _, h⟩
        · rw [h] at e
          have := (digits_all u).1 45 (by rw [e]; simp)
          unfold isDg at this; simp at this
        · rw [h] at e; injection e with _ e
          rw [← e, dec_ok u q2 true (fun _ => q1)] at hk; cases hk
      | true =>
        rw [ifT]
        obtain ⟨k1, k2⟩ := ok_dec hk
        have k3 := k2 rfl
        unfold numK
        rw [ifT]
        refine ⟨_, _, rfl, fun hb => ?_, fun hb n h0 h1 e => ?_⟩
        · have hb' := of_decide_eq_true hb
          have ew : IntKind.wrap .i64 (0 - IntKind.wrap .i64 ((decV 0 r : Nat) : Int)) = -((decV 0 r : Nat) : Int) := by
            rw [IntKind.wrap_i64, IntKind.wrap_i64]; omega
          rw [ew]
          refine ⟨?_, by omega, by omega⟩
          rw [Lib.itoa_neg _ k3, k1]
        · have hb' := of_decide_eq_false hb
          rcases itoa_cases n h0 h1 with ⟨u, _, _, h⟩ | ⟨u, q1, q2, _, h⟩
          · rw [h] at e
            have := (digits_all u).1 45 (by rw [e]; simp)
            unfold isDg at this; simp at this
          · rw [h] at e; injection e with _ e
            rw [← e, (digits_all u).2.1] at hb'; omega
    · rw [if_neg h, numC_eq]
      cases hk : okDg false (c :: r) with
      | false =>
        rw [ifF]
        refine ⟨0, false, rfl, fun h => (by cases h), fun _ n h0 h1 e => ?_⟩
        rcases itoa_cases n h0 h1 with ⟨u, q2, _, h'⟩ | ⟨u, q1, q2, _, h'⟩
        · rw [h'] at e
          rw [← e, dec_ok u (by omega) false (fun h => by cases h)] at hk; cases hk
        · rw [h'] at e; injection e with e _; exact h e.symm
      | true =>
        rw [ifT]
        obtain ⟨k1, k2⟩ := ok_dec hk
        unfold numK
        rw [ifF]
        refine ⟨_, _, rfl, fun hb => ?_, fun hb n h0 h1 e => ?_⟩
        · have hb' := of_decide_eq_true hb
          have ew : IntKind.wrap .i64 ((decV 0 (c :: r) : Nat) : Int) = ((decV 0 (c :: r) : Nat) : Int) := by
            rw [IntKind.wrap_i64]; omega
          rw [ew]
          refine ⟨?_, by omega, by omega⟩
          rw [Lib.itoa_nonneg, k1]
        · have hb' := of_decide_eq_false hb
          rcases itoa_cases n h0 h1 with ⟨u, q2, _, h'⟩ | ⟨u, q1, q2, _, h'⟩
          · rw [h'] at e
            rw [← e, (digits_all u).2.1] at hb'; omega
          · rw [h'] at e; injection e with e _; exact h e.symm
/-- Both read the same numbers. -/
theorem nums_same {s : Str} (hs : s.length ≤ 140737488355328) : ∃ v w b, script_number s = some (v, b) ∧ ref30_num s = some (w, b) ∧ (b = true → v = w) := by
  obtain ⟨v, b, h1, h2, h3⟩ := number_ok hs
  obtain ⟨w, b', g1, g2, g3⟩ := refnum_ok s
  cases b with
  | true =>
    cases b' with
    | true =>
      refine ⟨v, w, true, h1, g1, fun _ => ?_⟩
      have e1 := atoi_itoa v (h2 rfl).2.1 (h2 rfl).2.2
      have e2 := atoi_itoa w (g2 rfl).2.1 (g2 rfl).2.2
      rw [(h2 rfl).1] at e1
      rw [(g2 rfl).1, e1] at e2
      injection e2
    | false => exact absurd (h2 rfl).1 (g3 rfl v (h2 rfl).2.1 (h2 rfl).2.2)
  | false =>
    cases b' with
    | true => exact absurd (g2 rfl).1 (h3 rfl w (g2 rfl).2.1 (g2 rfl).2.2)
    | false => exact ⟨v, w, false, h1, g1, fun h => by cases h⟩
end Go.Cq

