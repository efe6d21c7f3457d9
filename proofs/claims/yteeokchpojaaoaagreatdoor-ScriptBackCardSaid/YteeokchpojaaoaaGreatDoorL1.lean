import Derived.Test.YteeokchpojaaoaaGreatDoorEx4
import Derived.Test.YteeokchpojaaoaaGreatDoorSSp
import Derived.KernelRfl
import Derived.Lib.ItoaMem
import Derived.Lib.AtoiAllCases
set_option linter.unusedSectionVars false
set_option linter.unusedVariables false
set_option linter.unusedSimpArgs false
set_option maxRecDepth 100000
set_option linter.unusedVariables false
set_option linter.unusedSimpArgs false
namespace Go.Cq
open Go Go.Av

/-! ### Loops over a list, by the list itself -/
section
variable {α σ ρ : Type}
def loopI (g : Nat → α → σ → (σ → Option ρ) → Option ρ) (K : σ → Option ρ) : Nat → List α → σ → Option ρ
  | _, [], s => K s
  | j, x :: r, s => g j x s (loopI g K (j+1) r)
theorem getDrop {l : List α} {j : Nat} {x : α} {r : List α} (h : l.drop j = x :: r) : l[j]? = some x ∧ l.drop (j + 1) = r ∧ j < l.length := by
  have h1 : l[j]? = some x := by
    have := congrArg (·[0]?) h
    simpa using this
  refine ⟨h1, ?_, (List.getElem?_eq_some_iff.1 h1).1⟩
  have := congrArg (List.drop 1) h
  simpa [List.drop_drop, Nat.add_comm] using this
theorem loopI_eq {F : Nat → σ → Int → Option ρ} {g : Nat → α → σ → (σ → Option ρ) → Option ρ} {K : σ → Option ρ} {l : List α}
    (h1 : ∀ q s (j : Nat) x, l[j]? = some x → j < l.length → F (q+1) s (j : Int) = g j x s (fun s' => F q s' ((j+1 : Nat) : Int))) (h0 : ∀ q s, F (q+1) s (l.length : Int) = K s) :
    ∀ (r : List α) (j q : Nat) (s : σ), l.drop j = r → j ≤ l.length → r.length < q → F q s (j : Int) = loopI g K j r s
  | [], j, q+1, s, h, hj, _ => by
    have : j = l.length := by have : l.length ≤ j := by simpa using h
                              omega
    subst this; rw [h0]; rfl
  | x :: r, j, q+1, s, h, hj, hq => by
    obtain ⟨e1, e2, e3⟩ := getDrop h
    rw [h1 q s j x e1 e3]
    show _ = g j x s (loopI g K (j+1) r)
    congr 1
    funext s'
    exact loopI_eq h1 h0 r (j+1) q s' e2 e3 (by simp at hq; omega)
  | _, _, 0, _, _, _, hq => by omega
theorem loopI_run {F : Nat → σ → Int → Option ρ} {g : Nat → α → σ → (σ → Option ρ) → Option ρ} {K : σ → Option ρ} {l : List α}
    (h1 : ∀ q s (j : Nat) x, l[j]? = some x → j < l.length → F (q+1) s (j : Int) = g j x s (fun s' => F q s' ((j+1 : Nat) : Int))) (h0 : ∀ q s, F (q+1) s (l.length : Int) = K s) (s : σ) (hl : l.length < fuel) :
    F fuel s 0 = loopI g K 0 l s := loopI_eq h1 h0 l 0 fuel s rfl (Nat.zero_le _) hl
end
theorem letK_e {Y Z ρ : Type} {K : Y → Z} {body : (Y → Z) → ρ} : letK K body = body K := .trans rfl rfl
theorem ifF {α : Type} {a b : α} {d : Decidable (false = true)} : (@ite α (false = true) d a b) = b := if_neg (by simp)
theorem ifT {α : Type} {a b : α} {d : Decidable (true = true)} : (@ite α (true = true) d a b) = a := if_pos rfl
theorem ifFa {α : Type} {a b : α} {d : Decidable False} : (@ite α False d a b) = b := if_neg id
theorem ifTr {α : Type} {a b : α} {d : Decidable True} : (@ite α True d a b) = a := if_pos trivial
theorem bindS {α β : Type} {a : α} {f : α → Option β} : (some a).bind f = f a := .trans rfl rfl
theorem lAt_nat {α : Type} {l : List α} {j : Nat} {x : α} (h : l[j]? = some x) : lAt l (j : Int) = some x := by
  unfold lAt; rw [if_pos (by omega)]; simpa using h
theorem ckn {n : Nat} (h : n ≤ 9000000000000000000) : ck (n : Int) = some (n : Int) := by
  unfold ck; rw [if_pos (by omega)]
theorem cks {n : Nat} (h : n ≤ 8000000000000000000) : ck ((n : Int) + 1) = some ((n + 1 : Nat) : Int) := by
  unfold ck; rw [if_pos (by omega)]; rfl
theorem ck_of {n : Int} (h1 : -9223372036854775808 ≤ n) (h2 : n ≤ 9223372036854775807) : ck n = some n := by
  unfold ck; rw [if_pos ⟨h1, h2⟩]
theorem app_of {α : Type} {b : Nat} {l m : List α} (h1 : l.length + m.length ≤ 140737488355328) (h2 : (l.length + m.length) * b ≤ 140737488355328) : app b l m = some (l ++ m) := by
  unfold app maxB; rw [if_pos ⟨h1, h2⟩]
theorem cat_of {s t : List UInt8} (h : s.length + t.length ≤ 140737488355328) : cat s t = some (s ++ t) := by
  unfold cat maxB; rw [if_pos h]
theorem lt_len {α : Type} {l : List α} {j : Nat} (h : j < l.length) : decide ((j : Int) < (l.length : Int)) = true := by simpa using h
theorem ge_len {α : Type} {l : List α} : decide ((l.length : Int) < (l.length : Int)) = false := by simp
end Go.Cq

set_option maxRecDepth 100000
set_option maxHeartbeats 4000000
set_option linter.unusedVariables false
set_option linter.unusedSimpArgs false
namespace Go.Cq
open Go Go.Av Go.Proofs
def nmL : List Str := [[108, 101, 118, 101, 108, 115], [99, 104, 97, 110], [115, 116, 97, 114, 116], [114, 111, 111, 116], [115, 101, 110, 100], [97, 114, 114, 97, 121], [111, 98, 106, 101, 99, 116], [116, 101, 120, 116], [115, 101, 109], [99, 108, 97, 115, 115], [105, 110], [116, 105, 99, 107, 115], [102, 117, 101, 108], [112, 108, 97, 121], [98, 101, 103, 105, 110], [115, 116, 101, 112, 115], [97, 103, 97, 105, 110], [115, 101, 101, 110], [109, 97, 115, 107], [112, 114, 105, 110, 116]]
def fmL : List Str := [[42], [105], [105, 105], [118], [119], [105, 86], [119, 105, 86], [105, 115], [105, 105], [115], [105, 42], [105, 42], [105], [], [], [105], [], [105], [105], [115]]
theorem names_eq : ref30_Names = some (nmL, fmL) := rfl
/-- The form of a name. -/
def formF (name : Str) : Str × Bool := match (nmL.zip fmL).find? (fun p => p.1 == name) with
  | some p => (p.2, true)
  | none => ([], false)
theorem ref_form_l (name : Str) (K : Unit → Option (Str × Bool)) (hK : K () = some ([], false)) : ∀ (r : List (Str × Str)) (j q : Nat), (nmL.zip fmL).drop j = r → j ≤ 20 → r.length < q →
    ref30_Form_l1 name (nmL, fmL) K q (j : Int) = some (match r.find? (fun p => p.1 == name) with | some p => (p.2, true) | none => ([], false))
  | [], j, q+1, h, hj, _ => by
    have : j = 20 := by
      have h2 : (nmL.zip fmL).length ≤ j := by simpa using h
      have h3 : (nmL.zip fmL).length = 20 := rfl
      omega
    subst this
    rw [ref30_Form_l1, show (decide (((20 : Nat) : Int) < (nmL.length : Int))) = false from rfl]
    simp only [ifF, hK, List.find?_nil]
  | x :: r, j, q+1, h, hj, hq => by
    obtain ⟨e1, e2, e3⟩ := getDrop h
    have hz : nmL[j]? = some x.1 ∧ fmL[j]? = some x.2 := by
      rw [List.getElem?_zip_eq_some] at e1
      exact e1
    have h3 : (nmL.zip fmL).length = 20 := rfl
    rw [ref30_Form_l1, show (decide ((j : Int) < (nmL.length : Int))) = true from by simp; show j < 20; omega, ifT, lAt_nat hz.1, bindS, lAt_nat hz.2, bindS, cks (by omega), bindS, List.find?_cons]
    cases hb : x.1 == name with
    | true => rw [ifT]
    | false =>
      rw [ifF]
      exact ref_form_l name K hK r (j+1) q e2 (by omega) (by simp at hq; omega)
  | _, _, 0, _, _, hq => by omega
theorem ref_form (name : Str) : ref30_Form name = some (formF name) := by
  unfold ref30_Form
  rw [names_eq, bindS, letK_e]
  exact ref_form_l name _ rfl (nmL.zip fmL) 0 fuel rfl (by omega) (by decide)

theorem form_other (name : Str) (h : ∀ n, n ∈ nmL → (name == n) = false) : script_Form name = some ([], false) := by
  have h0 := h [108, 101, 118, 101, 108, 115] (by decide)
  have h1 := h [99, 104, 97, 110] (by decide)
  have h2 := h [115, 116, 97, 114, 116] (by decide)
  have h3 := h [114, 111, 111, 116] (by decide)
  have h4 := h [115, 101, 110, 100] (by decide)
  have h5 := h [97, 114, 114, 97, 121] (by decide)
  have h6 := h [111, 98, 106, 101, 99, 116] (by decide)
  have h7 := h [116, 101, 120, 116] (by decide)
  have h8 := h [115, 101, 109] (by decide)
  have h9 := h [99, 108, 97, 115, 115] (by decide)
  have h10 := h [105, 110] (by decide)
  have h11 := h [116, 105, 99, 107, 115] (by decide)
  have h12 := h [102, 117, 101, 108] (by decide)
  have h13 := h [112, 108, 97, 121] (by decide)
  have h14 := h [98, 101, 103, 105, 110] (by decide)
  have h15 := h [115, 116, 101, 112, 115] (by decide)
  have h16 := h [97, 103, 97, 105, 110] (by decide)
  have h17 := h [115, 101, 101, 110] (by decide)
  have h18 := h [109, 97, 115, 107] (by decide)
  have h19 := h [112, 114, 105, 110, 116] (by decide)
  unfold script_Form
  simp only [h0, h1, h2, h3, h4, h5, h6, h7, h8, h9, h10, h11, h12, h13, h14, h15, h16, h17, h18, h19, ifF, bindS]
theorem script_form (name : Str) : script_Form name = some (formF name) := by
  by_cases h : name ∈ nmL
  · simp only [nmL, List.mem_cons, List.not_mem_nil, or_false] at h
    rcases h with rfl | rfl | rfl | rfl | rfl | rfl | rfl | rfl | rfl | rfl | rfl | rfl | rfl | rfl | rfl | rfl | rfl | rfl | rfl | rfl <;> rfl
  · have h1 : ∀ n, n ∈ nmL → (name == n) = false := fun n hn => by
      have hne : name ≠ n := fun e => h (by rw [e]; exact hn)
      simpa using hne
    rw [form_other name h1]
    have : (nmL.zip fmL).find? (fun p => p.1 == name) = none := by
      rw [List.find?_eq_none]; intro p hp e
      have := (List.of_mem_zip hp).1
      exact h ((eq_of_beq e) ▸ this)
    unfold formF; rw [this]
end Go.Cq

set_option maxRecDepth 100000
set_option linter.unusedVariables false
set_option linter.unusedSimpArgs false
namespace Go.Cq
open Go Go.Av

/-! ### Numerals -/
def isDg (c : UInt8) : Prop := 48 ≤ c.toNat ∧ c.toNat ≤ 57
def dv (c : UInt8) : Nat := c.toNat - 48
def decV (a : Nat) : List UInt8 → Nat
  | [] => a
  | c :: r => decV (a * 10 + dv c) r
theorem decV_app (a : Nat) (l : List UInt8) (c : UInt8) : decV a (l ++ [c]) = decV a l * 10 + dv c := by
  induction l generalizing a with
  | nil => rfl
  | cons x l ih => exact ih _
theorem dg_of (d : Nat) (h : d < 10) : isDg (UInt8.ofNat (48 + d)) ∧ dv (UInt8.ofNat (48 + d)) = d := by
  have : (UInt8.ofNat (48 + d)).toNat = 48 + d := by rw [UInt8.toNat_ofNat']; omega
  unfold isDg dv; rw [this]; omega
theorem of_dg {c : UInt8} (h : isDg c) : UInt8.ofNat (48 + dv c) = c := by
  obtain ⟨h1, h2⟩ := h
  apply UInt8.toNat_inj.1
  rw [UInt8.toNat_ofNat']; unfold dv; omega
theorem decDigits_step {u : Nat} (h : ¬ u < 10) : Lib.decDigits u = Lib.decDigits (u / 10) ++ [UInt8.ofNat (48 + u % 10)] := by
  rw [Lib.decDigits, dif_neg h]
theorem digits_all (u : Nat) : (∀ c, c ∈ Lib.decDigits u → isDg c) ∧ decV 0 (Lib.decDigits u) = u ∧ Lib.decDigits u ≠ [] ∧ (10 ≤ u → (Lib.decDigits u).head? ≠ some 48) ∧ (1 ≤ u → (Lib.decDigits u).head? ≠ some 48) := by
  induction u using Nat.strongRecOn with
  | _ u ih =>
    by_cases h : u < 10
    · rw [Lib.decDigits_one h]
      obtain ⟨h1, h2⟩ := dg_of u h
      refine ⟨fun c hc => (by rw [List.mem_singleton] at hc; subst hc; exact h1), (show 0 * 10 + dv _ = u by rw [h2]; omega), List.cons_ne_nil _ _, fun h => absurd h (by omega), fun hu => ?_⟩
      simp only [List.head?_cons, ne_eq, Option.some.injEq]
      intro e
      have := congrArg UInt8.toNat e
      rw [UInt8.toNat_ofNat'] at this
      simp at this; omega
    · rw [decDigits_step h]
      obtain ⟨i1, i2, i3, i4, i5⟩ := ih (u / 10) (by omega)
      obtain ⟨h1, h2⟩ := dg_of (u % 10) (by omega)
      have hh : (Lib.decDigits (u / 10) ++ [UInt8.ofNat (48 + u % 10)]).head? = (Lib.decDigits (u / 10)).head? := by
        cases e : Lib.decDigits (u / 10) with
        | nil => exact absurd e i3
        | cons x l => rfl
      refine ⟨fun c hc => ?_, by rw [decV_app, i2, h2]; omega, by simp, fun _ => by rw [hh]; exact i5 (by omega), fun _ => by rw [hh]; exact i5 (by omega)⟩
      rcases List.mem_append.1 hc with hc | hc
      · exact i1 c hc
      · rw [List.mem_singleton] at hc; subst hc; exact h1
theorem decV_pos {l : List UInt8} (hd : ∀ c, c ∈ l → isDg c) (hne : l ≠ []) (h0 : l.head? ≠ some 48) : 1 ≤ decV 0 l := by
  have key : ∀ (l : List UInt8) (a : Nat), a ≤ decV a l := by
    intro l
    induction l with
    | nil => intro a; exact Nat.le_refl _
    | cons c l ih => intro a; exact Nat.le_trans (by omega) (ih _)
  cases l with
  | nil => exact absurd rfl hne
  | cons c l =>
    have hc := hd c (by simp)
    have : dv c ≠ 0 := fun e => by
      unfold dv isDg at *
      apply h0
      simp only [List.head?_cons, Option.some.injEq]
      apply UInt8.toNat_inj.1
      show c.toNat = 48
      omega
    have := key l (0 * 10 + dv c)
    show 1 ≤ decV (0 * 10 + dv c) l
    omega
/-- Digits without a zero ahead are the numeral of their number. -/
theorem digits_of : ∀ (n : Nat) (l : List UInt8), l.length = n → (∀ c, c ∈ l → isDg c) → l ≠ [] → (l.head? = some 48 → l = [48]) → Lib.decDigits (decV 0 l) = l := by
  intro n
  induction n with
  | zero => intro l hl _ hne; exact absurd (List.length_eq_zero_iff.1 hl) hne
  | succ n ih =>
    intro l hl hd hne h0
    obtain ⟨l', c, rfl⟩ : ∃ l' c, l = l' ++ [c] := ⟨l.dropLast, l.getLast hne, (List.dropLast_concat_getLast hne).symm⟩
    have hc := hd c (by simp)
    have hc9 : dv c < 10 := by unfold dv isDg at *; omega
    rw [decV_app]
    by_cases he : l' = []
    · subst he
      have e : decV 0 [] * 10 + dv c = dv c := by show 0 * 10 + dv c = dv c; omega
      rw [e, Lib.decDigits_one hc9, of_dg hc, List.nil_append]
    · have h0' : l'.head? ≠ some 48 := fun e => by
        have : (l' ++ [c]).head? = some 48 := by
          cases l' with
          | nil => exact absurd rfl he
          | cons x l => exact e
        have := h0 this
        cases l' with
        | nil => exact absurd rfl he
        | cons x l => simp at this
      have hd' : ∀ x, x ∈ l' → isDg x := fun x hx => hd x (by simp [hx])
      have hp := decV_pos hd' he h0'
      rw [decDigits_step (by omega)]
      have e1 : (decV 0 l' * 10 + dv c) / 10 = decV 0 l' := by omega
      have e2 : (decV 0 l' * 10 + dv c) % 10 = dv c := by omega
      rw [e1, e2, of_dg hc, ih l' (by simp at hl; omega) hd' he (fun e => absurd e h0')]
/-- The library's reading of digits. -/
theorem parse_digits : ∀ (l : List UInt8) (a : Nat), (∀ c, c ∈ l → isDg c) → decV a l < 18446744073709551616 → Lib.parseUint10 a l = .ok (decV a l)
  | [], a, _, _ => rfl
  | c :: l, a, hd, hb => by
    have key : ∀ (l : List UInt8) (a : Nat), a ≤ decV a l := by
      intro l
      induction l with
      | nil => intro a; exact Nat.le_refl _
      | cons c l ih => intro a; exact Nat.le_trans (by omega) (ih _)
    have hc := hd c (by simp)
    have h1 := key l (a * 10 + dv c)
    have hb' : decV (a * 10 + dv c) l < 18446744073709551616 := hb
    unfold Lib.parseUint10
    rw [if_pos (show 48 ≤ c.toNat ∧ c.toNat ≤ 57 from hc), if_neg (show ¬ 1844674407370955162 ≤ a by omega), if_neg (show ¬ 18446744073709551616 ≤ a * 10 + (c.toNat - 48) by unfold dv at *; omega)]
    exact parse_digits l (a * 10 + dv c) (fun x hx => hd x (by simp [hx])) hb'
/-- A numeral is read as its number. -/
theorem atoi_itoa (n : Int) (h0 : -9223372036854775808 ≤ n) (h1 : n ≤ 9223372036854775807) : Lib.atoiAll (Lib.itoa n) = .ok n := by
  unfold Lib.itoa
  by_cases hn : n < 0
  · rw [if_pos hn]
    obtain ⟨d1, d2, d3, d4, d5⟩ := digits_all n.natAbs
    unfold Lib.atoiAll
    have hm : Lib.parseMag (Lib.decDigits n.natAbs) = .ok n.natAbs := by
      unfold Lib.parseMag; rw [if_neg d3, parse_digits _ 0 d1 (by rw [d2]; omega), d2]
    have e45 : (if (45 : UInt8).toNat = 43 ∨ (45 : UInt8).toNat = 45 then Lib.decDigits n.natAbs else 45 :: Lib.decDigits n.natAbs) = Lib.decDigits n.natAbs := if_pos (by decide)
    dsimp only
    rw [e45, hm]
    dsimp only
    rw [if_neg (fun h => h.1 (by decide)), if_neg (by omega), if_pos (by decide)]
    congr 1; omega
  · rw [if_neg hn]
    obtain ⟨d1, d2, d3, d4, d5⟩ := digits_all n.toNat
    cases e : Lib.decDigits n.toNat with
    | nil => exact absurd e d3
    | cons c r =>
      obtain ⟨hc1, hc2⟩ : 48 ≤ c.toNat ∧ c.toNat ≤ 57 := d1 c (by rw [e]; simp)
      unfold Lib.atoiAll
      have hm : Lib.parseMag (c :: r) = .ok n.toNat := by
        rw [← e]
        unfold Lib.parseMag; rw [if_neg d3, parse_digits _ 0 d1 (by rw [d2]; omega), d2]
      have hne : ¬ (c.toNat = 43 ∨ c.toNat = 45) := by omega
      have hne2 : ¬ c.toNat = 45 := by omega
      dsimp only
      rw [if_neg hne, hm]
      dsimp only
      rw [if_neg (by omega), if_neg (by omega), if_neg hne2]
      congr 1; omega
/-- The program's numbers: those texts that are a number's own. -/
theorem number_ok {s : Str} (hs : s.length ≤ 140737488355328) : ∃ v b, script_number s = some (v, b) ∧ (b = true → Lib.itoa v = s ∧ -9223372036854775808 ≤ v ∧ v ≤ 9223372036854775807) ∧
    (b = false → ∀ n, -9223372036854775808 ≤ n → n ≤ 9223372036854775807 → Lib.itoa n ≠ s) := by
  unfold script_number strconv_Atoi strconv_Itoa atoiS itoaS
  rw [if_pos hs, bindS]
  cases e : Lib.atoiAll s with
  | ok v =>
    have hv := Lib.atoiAll_bounds e
    refine ⟨v, Lib.itoa v == s, by simp only [ifT, ifTr, bindS], fun h => ⟨eq_of_beq h, hv⟩, fun h n h0 h1 hn => ?_⟩
    have := atoi_itoa n h0 h1
    rw [hn, e] at this
    cases this
    rw [hn] at h; simp at h
  | range =>
    refine ⟨Lib.atoiSat s, false, by simp only [ifF, ifFa, Bool.false_eq_true, bindS], fun h => (by cases h), fun _ n h0 h1 hn => ?_⟩
    have := atoi_itoa n h0 h1
    rw [hn, e] at this; cases this
  | _ =>
    refine ⟨0, false, by simp only [ifF, ifFa, Bool.false_eq_true, bindS], fun h => (by cases h), fun _ n h0 h1 hn => ?_⟩
    have := atoi_itoa n h0 h1
    rw [hn, e] at this; cases this
end Go.Cq

set_option maxRecDepth 100000
set_option linter.unusedVariables false
set_option linter.unusedSimpArgs false
namespace Go.Cq
open Go Go.Av

theorem sIdx_at {s : Str} {j : Nat} {b : UInt8} {r : Str} (h : s.drop j = b :: r) : sIdx s (j : Int) = some (b.toNat : Int) := by
  obtain ⟨h1, _, h3⟩ := getDrop h
  unfold sIdx
  rw [if_pos ⟨by omega, by omega⟩]
  simp [List.getD_eq_getElem?_getD, h1]
def dgB (c : UInt8) : Bool := !(decide ((c.toNat : Int) < 48)) && !(decide ((57 : Int) < (c.toNat : Int)))
theorem dgB_iff {c : UInt8} : dgB c = true ↔ isDg c := by
  unfold dgB isDg
  simp only [Bool.and_eq_true, Bool.not_eq_true', decide_eq_false_iff_not]
  omega
theorem u64i {n : Int} (h0 : 0 ≤ n) (h1 : n < 18446744073709551616) : IntKind.wrap .u64 n = n := by rw [IntKind.wrap_u64]; omega
theorem u8i {n : Int} (h0 : 0 ≤ n) (h1 : n < 256) : IntKind.wrap .u8 n = n := by rw [IntKind.wrap_u8]; omega
theorem refnum_loop (y : Str) (K : Int → Option (Int × Bool)) (hy : y.length ≤ 19) : ∀ (r : Str) (j q a : Nat), y.drop j = r → j ≤ y.length → a < 10 ^ j → r.length < q →
    ref30_num_l1 y K q (a : Int) (j : Int) = if r.all dgB = true then K (decV a r : Nat) else some (0, false)
  | [], j, q+1, a, h, hj, _, _ => by
    have : j = y.length := by have : y.length ≤ j := by simpa using h
                              omega
    subst this
    rw [ref30_num_l1, ge_len, ifF, List.all_nil, ifT]; rfl
  | c :: r, j, q+1, a, h, hj, ha, hq => by
    obtain ⟨e1, e2, e3⟩ := getDrop h
    rw [ref30_num_l1, lt_len e3, ifT, sIdx_at h, bindS, List.all_cons]
    by_cases h1 : (c.toNat : Int) < 48
    · rw [show decide ((c.toNat : Int) < 48) = true from decide_eq_true h1, ifT, bindS, ifT, show dgB c = false by unfold dgB; rw [decide_eq_true h1]; rfl, Bool.false_and, ifF]
    · rw [show decide ((c.toNat : Int) < 48) = false from decide_eq_false h1, ifF, bindS]
      by_cases h2 : (57 : Int) < (c.toNat : Int)
      · rw [decide_eq_true h2, ifT, show dgB c = false by unfold dgB; rw [decide_eq_true h2]; simp, Bool.false_and, ifF]
      · rw [decide_eq_false h2, ifF, show dgB c = true by unfold dgB; rw [decide_eq_false h1, decide_eq_false h2]; rfl, Bool.true_and, bindS, cks (by omega), bindS]
        have hp : a * 10 + dv c < 10 ^ (j + 1) := by
          have : dv c < 10 := by unfold dv; omega
          rw [Nat.pow_succ]; omega
        have hb : (10 : Nat) ^ (j + 1) ≤ 10 ^ 19 := Nat.pow_le_pow_right (by omega) (by omega)
        have h19 : (10 : Nat) ^ 19 = 10000000000000000000 := by decide
        have ew : IntKind.wrap .u64 (IntKind.wrap .u64 ((a : Int) * 10) + IntKind.wrap .u64 (IntKind.wrap .u8 ((c.toNat : Int) - 48))) = ((a * 10 + dv c : Nat) : Int) := by
          have hd : ((dv c : Nat) : Int) = (c.toNat : Int) - 48 := by unfold dv; omega
          rw [u8i (n := (c.toNat : Int) - 48) (by omega) (by omega), u64i (n := (c.toNat : Int) - 48) (by omega) (by omega), u64i (n := (a : Int) * 10) (by omega) (by omega), ← hd, u64i (by omega) (by omega)]
          omega
        rw [ew, refnum_loop y K hy r (j+1) q (a * 10 + dv c) e2 (by omega) hp (by simp at hq; omega)]
        rfl
  | _, _, 0, _, _, _, _, hq => by omega

/-- What stands behind the sign, in the document's numbers. -/
theorem itoa_cases (n : Int) (h0 : -9223372036854775808 ≤ n) (h1 : n ≤ 9223372036854775807) :
    (∃ u : Nat, u ≤ 9223372036854775807 ∧ n = u ∧ Lib.itoa n = Lib.decDigits u) ∨ ∃ u : Nat, 1 ≤ u ∧ u ≤ 9223372036854775808 ∧ n = -(u : Int) ∧ Lib.itoa n = 45 :: Lib.decDigits u := by
  by_cases hn : n < 0
  · right
    refine ⟨n.natAbs, by omega, by omega, by omega, ?_⟩
    unfold Lib.itoa; rw [if_pos hn]
  · left
    refine ⟨n.toNat, by omega, by omega, ?_⟩
    unfold Lib.itoa; rw [if_neg hn]
theorem dec_len : ∀ (k u : Nat), 1 ≤ k → u < 10 ^ k → (Lib.decDigits u).length ≤ k
  | 0, _, h, _ => by omega
  | k+1, u, _, h => by
    by_cases hu : u < 10
    · rw [Lib.decDigits_one hu]; simp
    · rw [decDigits_step hu, List.length_append]
      have hk : 1 ≤ k := by
        rcases Nat.eq_zero_or_pos k with rfl | h'
        · simp at h; omega
        · exact h'
      have : u / 10 < 10 ^ k := by rw [Nat.pow_succ] at h; omega
      have := dec_len k (u / 10) hk this
      simp; omega
/-- The part of a numeral behind its sign may be one. -/
def okDg (neg : Bool) (y : Str) : Bool := !(decide ((y.length : Int) < 1)) && !(decide ((19 : Int) < (y.length : Int))) && !(y.head? == some 48 && (neg || decide ((1 : Int) < (y.length : Int)))) && y.all dgB
theorem dec_ok (u : Nat) (h : u ≤ 9223372036854775808) (neg : Bool) (hn : neg = true → 1 ≤ u) : okDg neg (Lib.decDigits u) = true := by
  obtain ⟨d1, d2, d3, d4, d5⟩ := digits_all u
  have hl := dec_len 19 u (by omega) (by have : (10 : Nat) ^ 19 = 10000000000000000000 := by decide
                                         omega)
  have hl1 : 1 ≤ (Lib.decDigits u).length := by
    cases e : Lib.decDigits u with
    | nil => exact absurd e d3
    | cons x l => simp
  have hall : (Lib.decDigits u).all dgB = true := List.all_eq_true.2 fun c hc => dgB_iff.2 (d1 c hc)
  have hz : ((Lib.decDigits u).head? == some 48 && (neg || decide ((1 : Int) < ((Lib.decDigits u).length : Int)))) = false := by
    by_cases hu : 1 ≤ u
    · have := d5 hu
      have e : ((Lib.decDigits u).head? == some 48) = false := by simpa using this
      rw [e, Bool.false_and]
    · have : u = 0 := by omega
      subst this
      have hneg : neg = false := by
        cases neg with
        | false => rfl
        | true => have := hn rfl; omega
      subst hneg
      rw [Lib.decDigits_one (by omega)]
      rfl
  unfold okDg
  rw [hz, hall, decide_eq_false (by omega), decide_eq_false (by omega)]
  rfl
theorem ok_dec {neg : Bool} {y : Str} (h : okDg neg y = true) : Lib.decDigits (decV 0 y) = y ∧ (neg = true → 1 ≤ decV 0 y) := by
  unfold okDg at h
  simp only [Bool.and_eq_true, Bool.not_eq_true', decide_eq_false_iff_not, List.all_eq_true] at h
  obtain ⟨⟨⟨h1, h2⟩, h3⟩, h4⟩ := h
  have hd : ∀ c, c ∈ y → isDg c := fun c hc => dgB_iff.1 (h4 c hc)
  have hne : y ≠ [] := fun e => by subst e; simp at h1
  have h0 : y.head? = some 48 → neg = false ∧ y = [48] := fun e => by
    rw [e] at h3
    simp only [beq_self_eq_true, Bool.true_and, Bool.or_eq_false_iff, decide_eq_false_iff_not] at h3
    refine ⟨h3.1, ?_⟩
    cases y with
    | nil => exact absurd rfl hne
    | cons x l =>
      simp only [List.head?_cons, Option.some.injEq] at e
      have : l = [] := by
        cases l with
        | nil => rfl
        | cons z l => simp at h3; omega
      rw [e, this]
  refine ⟨digits_of y.length y rfl hd hne (fun e => (h0 e).2), fun hn => decV_pos hd hne fun e => ?_⟩
  rw [hn] at h0
  exact absurd (h0 e).1 (by simp)
end Go.Cq

set_option maxRecDepth 100000
set_option linter.unusedVariables false
set_option linter.unusedSimpArgs false
namespace Go.Cq
open Go Go.Av

/-- The end of the document's reading of a number. -/
def numK (neg : Bool) (v : Int) : Option (Int × Bool) :=
  if neg then some ((IntKind.wrap .i64 (0 - (IntKind.wrap .i64 v))), (decide (v ≤ 9223372036854775808)))
  else some ((IntKind.wrap .i64 v), (decide (v ≤ 9223372036854775807)))
def numC (neg : Bool) (y : Str) : Option (Int × Bool) :=
  (
    if (decide ((y.length : Int) < 1)) then
      some true
    else
      if (decide ((19 : Int) < (y.length : Int))) then
        some true
      else
        (sIdx y 0).bind fun v18 =>
        if (decide (v18 = 48)) then
          if neg then
            some true
          else
            some (decide ((1 : Int) < (y.length : Int)))
        else
          some false
  ).bind fun y12 =>
  if y12 then
    some (0, false)
  else
    letK (numK neg) fun (K22 : (Int → Option (Int × Bool))) =>
    ref30_num_l1 y K22 fuel 0 0
theorem numC_eq (neg : Bool) (y : Str) : numC neg y = if okDg neg y = true then numK neg (decV 0 y : Nat) else some (0, false) := by
  unfold numC okDg
  by_cases h1 : (y.length : Int) < 1
  · rw [decide_eq_true h1, ifT, bindS, ifT]
    simp only [Bool.not_true, Bool.false_and, ifF]
  · rw [decide_eq_false h1, ifF]
    by_cases h2 : (19 : Int) < (y.length : Int)
    · rw [decide_eq_true h2, ifT, bindS, ifT]
      simp only [Bool.not_true, Bool.not_false, Bool.true_and, Bool.false_and, ifF]
    · rw [decide_eq_false h2, ifF]
      cases hy : y with
      | nil => rw [hy] at h1; simp at h1
      | cons c r =>
        have e0 : sIdx (c :: r) 0 = some (c.toNat : Int) := sIdx_at (s := c :: r) (j := 0) rfl
        rw [e0, bindS]
        have h19 : (c :: r).length ≤ 19 := by rw [hy] at h2; omega
        have hf : (c :: r).length < fuel := Nat.lt_of_le_of_lt h19 (by decide)
        have hl := refnum_loop (c :: r) (numK neg) h19 (c :: r) 0 fuel 0 rfl (by omega) (by omega) hf
        have hl' : ref30_num_l1 (c :: r) (numK neg) fuel 0 0 = if (c :: r).all dgB = true then numK neg (decV 0 (c :: r) : Nat) else some (0, false) := hl
        by_cases h3 : c.toNat = 48
        · have hc : c = 48 := UInt8.toNat_inj.1 h3
          have e1 : ((c :: r).head? == some 48) = true := by rw [hc]; rfl
          rw [decide_eq_true (by omega), ifT, e1]
          cases neg with
          | true =>
            rw [ifT, bindS, ifT]
            simp only [Bool.not_true, Bool.not_false, Bool.true_and, Bool.true_or, Bool.and_false, Bool.false_and, ifF]
          | false =>
            rw [ifF, bindS]
            by_cases h4 : (1 : Int) < ((c :: r).length : Int)
            · rw [decide_eq_true h4, ifT]
              simp only [Bool.not_true, Bool.not_false, Bool.true_and, Bool.false_or, Bool.and_false, Bool.false_and, ifF]
            · rw [decide_eq_false h4, ifF, letK_e, hl']
              simp only [Bool.not_true, Bool.not_false, Bool.true_and, Bool.false_or]
        · have hc : ((c :: r).head? == some 48) = false := by
            have : c ≠ 48 := fun e => h3 (by rw [e]; rfl)
            simpa using this
          rw [decide_eq_false (by omega), ifF, bindS, ifF, letK_e, hl', hc]
          simp only [Bool.not_true, Bool.not_false, Bool.true_and, Bool.false_and]
theorem num_eqC (s : Str) : ref30_num s = match s with
    | [] => some (0, false)
    | c :: r => if c = 45 then numC true r else numC false (c :: r) := by
  cases s with
  | nil => rfl
  | cons c r =>
    unfold ref30_num
    have e0 : sIdx (c :: r) 0 = some (c.toNat : Int) := sIdx_at (s := c :: r) (j := 0) rfl
    rw [show decide ((0 : Int) < ((c :: r).length : Int)) = true by simp, ifT, e0, bindS, bindS]
    by_cases h : c = 45
    · subst h
      rw [show decide (((45 : UInt8).toNat : Int) = 45) = true from rfl, ifT]
      have es : sub ((45 : UInt8) :: r) 1 (((45 : UInt8) :: r).length : Int) = some r := by
        unfold sub; rw [if_pos ⟨by decide, by simp; omega, Int.le_refl _⟩]; simp
      rw [es, bindS, bindS]
      dsimp only
      rw [if_pos rfl]
      rfl
    · have : decide ((c.toNat : Int) = 45) = false := decide_eq_false fun e => h (UInt8.toNat_inj.1 (show c.toNat = 45 by omega))
      rw [this, ifF, bindS]
      dsimp only
      rw [if_neg h]
      rfl
/-- The document's numbers: those texts that are a number's own. -/
theorem refnum_ok (s : Str) : ∃ v b, ref30_num s = some (v, b) ∧ (b = true → Lib.itoa v = s ∧ -9223372036854775808 ≤ v ∧ v ≤ 9223372036854775807) ∧
    (b = false → ∀ n, -9223372036854775808 ≤ n → n ≤ 9223372036854775807 → Lib.itoa n ≠ s) := by
  rw [num_eqC]
  cases s with
  | nil =>
    refine ⟨0, false, rfl, fun h => (by cases h), fun _ n h0 h1 e => ?_⟩
    rcases itoa_cases n h0 h1 with ⟨u, _, _, h⟩ | ⟨u, _, _, _, h⟩
    · rw [h] at e; exact (digits_all u).2.2.1 e
    · rw [h] at e; cases e
  | cons c r =>
    dsimp only
    by_cases h : c = 45
    · subst h
      rw [if_pos rfl, numC_eq]
      cases hk : okDg true r with
      | false =>
        rw [ifF]
        refine ⟨0, false, rfl, fun h => (by cases h), fun _ n h0 h1 e => ?_⟩
        rcases itoa_cases n h0 h1 with ⟨u, _, _, h⟩ | ⟨u, q1, q2, _, h⟩
        · rw [h] at e
          have := (digits_all u).1 45 (by rw [e]; simp)
          unfold isDg at this; simp at this
        · rw [h] at e; injection e with _ e
          rw [← e, dec_ok u q2 true (fun _ => q1)] at hk; cases hk
      | true =>
        rw [ifT]
        obtain ⟨k1, k2⟩ := ok_dec hk
        have k3 := k2 rfl
        unfold numK
        rw [ifT]
        refine ⟨_, _, rfl, fun hb => ?_, fun hb n h0 h1 e => ?_⟩
        · have hb' := of_decide_eq_true hb
          have ew : IntKind.wrap .i64 (0 - IntKind.wrap .i64 ((decV 0 r : Nat) : Int)) = -((decV 0 r : Nat) : Int) := by
            rw [IntKind.wrap_i64, IntKind.wrap_i64]; omega
          rw [ew]
          refine ⟨?_, by omega, by omega⟩
          rw [Lib.itoa_neg _ k3, k1]
        · have hb' := of_decide_eq_false hb
          rcases itoa_cases n h0 h1 with ⟨u, _, _, h⟩ | ⟨u, q1, q2, _, h⟩
          · rw [h] at e
            have := (digits_all u).1 45 (by rw [e]; simp)
            unfold isDg at this; simp at this
          · rw [h] at e; injection e with _ e
            rw [← e, (digits_all u).2.1] at hb'; omega
    · rw [if_neg h, numC_eq]
      cases hk : okDg false (c :: r) with
      | false =>
        rw [ifF]
        refine ⟨0, false, rfl, fun h => (by cases h), fun _ n h0 h1 e => ?_⟩
        rcases itoa_cases n h0 h1 with ⟨u, q2, _, h'⟩ | ⟨u, q1, q2, _, h'⟩
        · rw [h'] at e
          rw [← e, dec_ok u (by omega) false (fun h => by cases h)] at hk; cases hk
        · rw [h'] at e; injection e with e _; exact h e.symm
      | true =>
        rw [ifT]
        obtain ⟨k1, k2⟩ := ok_dec hk
        unfold numK
        rw [ifF]
        refine ⟨_, _, rfl, fun hb => ?_, fun hb n h0 h1 e => ?_⟩
        · have hb' := of_decide_eq_true hb
          have ew : IntKind.wrap .i64 ((decV 0 (c :: r) : Nat) : Int) = ((decV 0 (c :: r) : Nat) : Int) := by
            rw [IntKind.wrap_i64]; omega
          rw [ew]
          refine ⟨?_, by omega, by omega⟩
          rw [Lib.itoa_nonneg, k1]
        · have hb' := of_decide_eq_false hb
          rcases itoa_cases n h0 h1 with ⟨u, q2, _, h'⟩ | ⟨u, q1, q2, _, h'⟩
          · rw [h'] at e
            rw [← e, (digits_all u).2.1] at hb'; omega
          · rw [h'] at e; injection e with e _; exact h e.symm
/-- Both read the same numbers. -/
theorem nums_same {s : Str} (hs : s.length ≤ 140737488355328) : ∃ v w b, script_number s = some (v, b) ∧ ref30_num s = some (w, b) ∧ (b = true → v = w) := by
  obtain ⟨v, b, h1, h2, h3⟩ := number_ok hs
  obtain ⟨w, b', g1, g2, g3⟩ := refnum_ok s
  cases b with
  | true =>
    cases b' with
    | true =>
      refine ⟨v, w, true, h1, g1, fun _ => ?_⟩
      have e1 := atoi_itoa v (h2 rfl).2.1 (h2 rfl).2.2
      have e2 := atoi_itoa w (g2 rfl).2.1 (g2 rfl).2.2
      rw [(h2 rfl).1] at e1
      rw [(g2 rfl).1, e1] at e2
      injection e2
    | false => exact absurd (h2 rfl).1 (g3 rfl v (h2 rfl).2.1 (h2 rfl).2.2)
  | false =>
    cases b' with
    | true => exact absurd (g2 rfl).1 (h3 rfl w (g2 rfl).2.1 (g2 rfl).2.2)
    | false => exact ⟨v, w, false, h1, g1, fun h => by cases h⟩
end Go.Cq

set_option maxRecDepth 100000
set_option linter.unusedVariables false
set_option linter.unusedSimpArgs false
namespace Go.Cq
open Go Go.Av

theorem ofInts_toI (s : Str) : ofInts (s.map fun b => (b.toNat : Int)) = s := by
  unfold ofInts
  rw [List.map_map]
  conv => rhs; rw [← List.map_id s]
  apply List.map_congr_left
  intro b _
  simp
theorem td10 (v : Int) : (v.tdiv 10 = ((v.natAbs / 10 : Nat) : Int) ∧ v.tmod 10 = ((v.natAbs % 10 : Nat) : Int) ∧ 0 ≤ v) ∨ (v.tdiv 10 = -((v.natAbs / 10 : Nat) : Int) ∧ v.tmod 10 = -((v.natAbs % 10 : Nat) : Int) ∧ v < 0) := by
  rcases (by omega : v < 0 ∨ 0 ≤ v) with h | h
  · right
    obtain ⟨u, hu⟩ : ∃ u : Nat, v = -(u : Int) := ⟨v.natAbs, by omega⟩
    subst hu
    rw [Int.neg_tdiv, Int.neg_tmod, Int.natAbs_neg, Int.natAbs_natCast]
    exact ⟨rfl, rfl, h⟩
  · left
    obtain ⟨u, hu⟩ : ∃ u : Nat, v = (u : Int) := ⟨v.natAbs, by omega⟩
    subst hu
    exact ⟨rfl, rfl, h⟩
theorem dig_loop : ∀ (k q : Nat) (v : Int) (acc : List Int), v ≠ 0 → v.natAbs < 10 ^ k → -9223372036854775808 ≤ v → v ≤ 9223372036854775807 → k < q → acc.length + k ≤ 1000 →
    ref30_Digits_l1 q v acc = some ((Lib.decDigits v.natAbs).map (fun b => (b.toNat : Int)) ++ acc)
  | 0, _, v, _, hv, hk, _, _, _, _ => by simp at hk; exact absurd hk (by omega)
  | k+1, 0, _, _, _, _, _, _, hq, _ => by omega
  | k+1, q+1, v, acc, hv, hk, h0, h1, hq, hl => by
    have htd := td10 v
    rw [ref30_Digits_l1, decide_eq_false hv]
    rw [show (!false) = true from rfl, ifT]
    have hr : rem v 10 = some (v.tmod 10) := by unfold rem; rw [if_pos (by decide)]
    have hqo : quo .i64 v 10 = some (v.tdiv 10) := by
      unfold quo; rw [if_pos (by decide), IntKind.wrap_i64]; congr 1; omega
    have hd : (if decide (v.tmod 10 < 0) = true then (ck (0 - v.tmod 10)).bind fun v11 => some v11 else some (v.tmod 10)) = some ((v.natAbs % 10 : Nat) : Int) := by
      by_cases hn : v.tmod 10 < 0
      · rw [decide_eq_true hn, ifT, ck_of (by omega) (by omega), bindS]; congr 1; omega
      · rw [decide_eq_false hn, ifF]; congr 1; omega
    rw [hr, bindS, hd, bindS]
    have ew : IntKind.wrap .u8 (48 + IntKind.wrap .u8 ((v.natAbs % 10 : Nat) : Int)) = ((48 + v.natAbs % 10 : Nat) : Int) := by
      rw [u8i (n := ((v.natAbs % 10 : Nat) : Int)) (by omega) (by omega), u8i (by omega) (by omega)]; omega
    have ec : ((UInt8.ofNat (48 + v.natAbs % 10)).toNat : Int) = ((48 + v.natAbs % 10 : Nat) : Int) := by
      rw [UInt8.toNat_ofNat']; omega
    rw [ew, app_of (by simp; omega) (by simp; omega), bindS, hqo, bindS]
    by_cases hs : v.natAbs < 10
    · have hz : v.tdiv 10 = 0 := by omega
      have hm : v.natAbs % 10 = v.natAbs := by omega
      rw [hz]
      obtain ⟨q', rfl⟩ : ∃ q', q = q' + 1 := ⟨q - 1, by omega⟩
      rw [ref30_Digits_l1, decide_eq_true rfl, show (!true) = false from rfl, ifF, Lib.decDigits_one hs]
      rw [← ec, hm]; rfl
    · have ha : (v.tdiv 10).natAbs = v.natAbs / 10 := by omega
      have hk' : v.natAbs / 10 < 10 ^ k := by rw [Nat.pow_succ] at hk; omega
      rw [dig_loop k q (v.tdiv 10) _ (by omega) (by rw [ha]; exact hk') (by omega) (by omega) (by omega) (by simp; omega), ha, decDigits_step hs, ← ec]
      simp
/-- The document's digits are the library's. -/
theorem digits_itoa (n : Int) (h0 : -9223372036854775808 ≤ n) (h1 : n ≤ 9223372036854775807) : ref30_Digits n = some (Lib.itoa n) := by
  unfold ref30_Digits
  by_cases hz : n = 0
  · subst hz
    rw [decide_eq_true rfl, ifT]
    unfold Lib.itoa
    rw [if_neg (by decide), show Int.toNat 0 = 0 from rfl, Lib.decDigits_one (by decide)]
    rfl
  · rw [decide_eq_false hz, ifF]
    have h19 : (10 : Nat) ^ 19 = 10000000000000000000 := by decide
    rw [dig_loop 19 fuel n [] hz (by omega) h0 h1 (by decide) (by simp), bindS, List.append_nil]
    have hl := dec_len 19 n.natAbs (by omega) (by omega)
    unfold Lib.itoa
    by_cases hn : n < 0
    · rw [decide_eq_true hn, ifT, if_pos hn, app_of (by simp; omega) (by simp; omega), bindS, bindS]
      have := ofInts_toI (45 :: Lib.decDigits n.natAbs)
      rw [List.map_cons] at this
      exact congrArg some this
    · rw [decide_eq_false hn, ifF, if_neg hn, bindS, ofInts_toI, show n.natAbs = n.toNat by omega]
end Go.Cq

