import Derived.Test.YteeokchpojaaoaaGreatDoorSSp
import Derived.Test.YteeokchpojaaoaaGreatDoorLU
import Derived.Lib.ItoaMem
import Derived.Lib.AtoiAllCases
set_option linter.unusedSectionVars false
set_option linter.unusedVariables false
set_option linter.unusedSimpArgs false
set_option maxRecDepth 100000
set_option linter.unusedVariables false
set_option linter.unusedSimpArgs false
namespace Go.Cq
open Go Go.Av

/-! ### Numerals -/
def isDg (c : UInt8) : Prop := 48 ≤ c.toNat ∧ c.toNat ≤ 57
def dv (c : UInt8) : Nat := c.toNat - 48
def decV (a : Nat) : List UInt8 → Nat
  | [] => a
  | c :: r => decV (a * 10 + dv c) r
theorem decV_app (a : Nat) (l : List UInt8) (c : UInt8) : decV a (l ++ [c]) = decV a l * 10 + dv c := by
  induction l generalizing a with
  | nil => rfl
  | cons x l ih => exact ih _
theorem dg_of (d : Nat) (h : d < 10) : isDg (UInt8.ofNat (48 + d)) ∧ dv (UInt8.ofNat (48 + d)) = d := by
  have : (UInt8.ofNat (48 + d)).toNat = 48 + d := by rw [UInt8.toNat_ofNat']; omega
  unfold isDg dv; rw [this]; omega
theorem of_dg {c : UInt8} (h : isDg c) : UInt8.ofNat (48 + dv c) = c := by
  obtain ⟨h1, h2⟩ := h
  apply UInt8.toNat_inj.1
  rw [UInt8.toNat_ofNat']; unfold dv; omega
theorem decDigits_step {u : Nat} (h : ¬ u < 10) : Lib.decDigits u = Lib.decDigits (u / 10) ++ [UInt8.ofNat (48 + u % 10)] := by
  rw [Lib.decDigits, dif_neg h]
theorem digits_all (u : Nat) : (∀ c, c ∈ Lib.decDigits u → isDg c) ∧ decV 0 (Lib.decDigits u) = u ∧ Lib.decDigits u ≠ [] ∧ (10 ≤ u → (Lib.decDigits u).head? ≠ some 48) ∧ (1 ≤ u → (Lib.decDigits u).head? ≠ some 48) := by
  induction u using Nat.strongRecOn with
  | _ u ih =>
    by_cases h : u < 10
    · rw [Lib.decDigits_one h]
      obtain ⟨h1, h2⟩ := dg_of u h
      refine ⟨fun c hc => (by rw [List.mem_singleton] at hc; subst hc; exact h1), (show 0 * 10 + dv _ = u by rw [h2]; omega), List.cons_ne_nil _ _, fun h => absurd h (by omega), fun hu => ?_⟩
      simp only [List.head?_cons, ne_eq, Option.some.injEq]
      intro e
      have := congrArg UInt8.toNat e
      rw [UInt8.toNat_ofNat'] at this
      simp at this; omega
    · rw [decDigits_step h]
      obtain ⟨i1, i2, i3, i4, i5⟩ := ih (u / 10) (by omega)
      obtain ⟨h1, h2⟩ := dg_of (u % 10) (by omega)
      have hh : (Lib.decDigits (u / 10) ++ [UInt8.ofNat (48 + u % 10)]).head? = (Lib.decDigits (u / 10)).head? := by
        cases e : Lib.decDigits (u / 10) with
        | nil => exact absurd e i3
        | cons x l => rfl
      refine ⟨fun c hc => ?_, by rw [decV_app, i2, h2]; omega, by simp, fun _ => by rw [hh]; exact i5 (by omega), fun _ => by rw [hh]; exact i5 (by omega)⟩
      rcases List.mem_append.1 hc with hc | hc
      · exact i1 c hc
      · rw [List.mem_singleton] at hc; subst hc; exact h1
theorem decV_pos {l : List UInt8} (hd : ∀ c, c ∈ l → isDg c) (hne : l ≠ []) (h0 : l.head? ≠ some 48) : 1 ≤ decV 0 l := by
  have key : ∀ (l : List UInt8) (a : Nat), a ≤ decV a l := by
    intro l
    induction l with
    | nil => intro a; exact Nat.le_refl _
    | cons c l ih => intro a; exact Nat.le_trans (by omega) (ih _)
  cases l with
  | nil => exact absurd rfl hne
  | cons c l =>
    have hc := hd c (by simp)
    have : dv c ≠ 0 := fun e => by
      unfold dv isDg at *
      apply h0
      simp only [List.head?_cons, Option.some.injEq]
      apply UInt8.toNat_inj.1
      show c.toNat = 48
      omega
    have := key l (0 * 10 + dv c)
    show 1 ≤ decV (0 * 10 + dv c) l
    omega
/-- Digits without a zero ahead are the numeral of their number. -/
theorem digits_of : ∀ (n : Nat) (l : List UInt8), l.length = n → (∀ c, c ∈ l → isDg c) → l ≠ [] → (l.head? = some 48 → l = [48]) → Lib.decDigits (decV 0 l) = l := by
  intro n
  induction n with
  | zero => intro l hl _ hne; exact absurd (List.length_eq_zero_iff.1 hl) hne
  | succ n ih =>
    intro l hl hd hne h0
    obtain ⟨l', c, rfl⟩ : ∃ l' c, l = l' ++ [c] := ⟨l.dropLast, l.getLast hne, (List.dropLast_concat_getLast hne).symm⟩
    have hc := hd c (by simp)
    have hc9 : dv c < 10 := by unfold dv isDg at *; omega
    rw [decV_app]
    by_cases he : l' = []
    · subst he
      have e : decV 0 [] * 10 + dv c = dv c := by show 0 * 10 + dv c = dv c; omega
      rw [e, Lib.decDigits_one hc9, of_dg hc, List.nil_append]
    · have h0' : l'.head? ≠ some 48 := fun e => by
        have : (l' ++ [c]).head? = some 48 := by
          cases l' with
          | nil => exact absurd rfl he
          | cons x l => exact e
        have := h0 this
        cases l' with
        | nil => exact absurd rfl he
        | cons x l => simp at this
      have hd' : ∀ x, x ∈ l' → isDg x := fun x hx => hd x (by simp [hx])
      have hp := decV_pos hd' he h0'
      rw [decDigits_step (by omega)]
      have e1 : (decV 0 l' * 10 + dv c) / 10 = decV 0 l' := by omega
      have e2 : (decV 0 l' * 10 + dv c) % 10 = dv c := by omega
      rw [e1, e2, of_dg hc, ih l' (by simp at hl; omega) hd' he (fun e => absurd e h0')]
/-- The library's reading of digits. -/
theorem parse_digits : ∀ (l : List UInt8) (a : Nat), (∀ c, c ∈ l → isDg c) → decV a l < 18446744073709551616 → Lib.parseUint10 a l = .ok (decV a l)
  | [], a, _, _ => rfl
  | c :: l, a, hd, hb => by
    have key : ∀ (l : List UInt8) (a : Nat), a ≤ decV a l := by
      intro l
      induction l with
      | nil => intro a; exact Nat.le_refl _
      | cons c l ih => intro a; exact Nat.le_trans (by omega) (ih _)
    have hc := hd c (by simp)
    have h1 := key l (a * 10 + dv c)
    have hb' : decV (a * 10 + dv c) l < 18446744073709551616 := hb
    unfold Lib.parseUint10
    rw [if_pos (show 48 ≤ c.toNat ∧ c.toNat ≤ 57 from hc), if_neg (show ¬ 1844674407370955162 ≤ a by omega), if_neg (show ¬ 18446744073709551616 ≤ a * 10 + (c.toNat - 48) by unfold dv at *; omega)]
    exact parse_digits l (a * 10 + dv c) (fun x hx => hd x (by simp [hx])) hb'
/-- A numeral is read as its number. -/
theorem atoi_itoa (n : Int) (h0 : -9223372036854775808 ≤ n) (h1 : n ≤ 9223372036854775807) : Lib.atoiAll (Lib.itoa n) = .ok n := by
  unfold Lib.itoa
  by_cases hn : n < 0
  · rw [if_pos hn]
    obtain ⟨d1, d2, d3, d4, d5⟩ := digits_all n.natAbs
    unfold Lib.atoiAll
    have hm : Lib.parseMag (Lib.decDigits n.natAbs) = .ok n.natAbs := by
      unfold Lib.parseMag; rw [if_neg d3, parse_digits _ 0 d1 (by rw [d2]; omega), d2]
    have e45 : (if (45 : UInt8).toNat = 43 ∨ (45 : UInt8).toNat = 45 then Lib.decDigits n.natAbs else 45 :: Lib.decDigits n.natAbs) = Lib.decDigits n.natAbs := if_pos (by decide)
    dsimp only
    rw [e45, hm]
    dsimp only
    rw [if_neg (fun h => h.1 (by decide)), if_neg (by omega), if_pos (by decide)]
    congr 1; omega
  · rw [if_neg hn]
    obtain ⟨d1, d2, d3, d4, d5⟩ := digits_all n.toNat
    cases e : Lib.decDigits n.toNat with
    | nil => exact absurd e d3
    | cons c r =>
      obtain ⟨hc1, hc2⟩ : 48 ≤ c.toNat ∧ c.toNat ≤ 57 := d1 c (by rw [e]; simp)
      unfold Lib.atoiAll
      have hm : Lib.parseMag (c :: r) = .ok n.toNat := by
        rw [← e]
        unfold Lib.parseMag; rw [if_neg d3, parse_digits _ 0 d1 (by rw [d2]; omega), d2]
      have hne : ¬ (c.toNat = 43 ∨ c.toNat = 45) := by omega
      have hne2 : ¬ c.toNat = 45 := by omega
      dsimp only
      rw [if_neg hne, hm]
      dsimp only
      rw [if_neg (by omega), if_neg (by omega), if_neg hne2]
      congr 1; omega
/-- The program's numbers: those texts that are a number's own. -/
theorem number_ok {s : Str} (hs : s.length ≤ 140737488355328) : ∃ v b, script_number s = some (v, b) ∧ (b = true → Lib.itoa v = s ∧ -9223372036854775808 ≤ v ∧ v ≤ 9223372036854775807) ∧
    (b = false → ∀ n, -9223372036854775808 ≤ n → n ≤ 9223372036854775807 → Lib.itoa n ≠ s) := by
  unfold script_number strconv_Atoi strconv_Itoa atoiS itoaS
  rw [if_pos hs, bindS]
  cases e : Lib.atoiAll s with
  | ok v =>
    have hv := Lib.atoiAll_bounds e
    refine ⟨v, Lib.itoa v == s, by simp only [ifT, ifTr, bindS], fun h => ⟨eq_of_beq h, hv⟩, fun h n h0 h1 hn => ?_⟩
    have := atoi_itoa n h0 h1
    rw [hn, e] at this
    cases this
    rw [hn] at h; simp at h
  | range =>
    refine ⟨Lib.atoiSat s, false, by simp only [ifF, ifFa, Bool.false_eq_true, bindS], fun h => (by cases h), fun _ n h0 h1 hn => ?_⟩
    have := atoi_itoa n h0 h1
    rw [hn, e] at this; cases this
  | _ =>
    refine ⟨0, false, by simp only [ifF, ifFa, Bool.false_eq_true, bindS], fun h => (by cases h), fun _ n h0 h1 hn => ?_⟩
    have := atoi_itoa n h0 h1
    rw [hn, e] at this; cases this
end Go.Cq

