import Derived.Test.YteeokchpojaaoaaGreatDoorLN0
set_option linter.unusedSectionVars false
set_option linter.unusedVariables false
set_option linter.unusedSimpArgs false
set_option maxRecDepth 100000
set_option linter.unusedVariables false
set_option linter.unusedSimpArgs false
namespace Go.Cq
open Go Go.Av

theorem sIdx_at {s : Str} {j : Nat} {b : UInt8} {r : Str} (h : s.drop j = b :: r) : sIdx s (j : Int) = some (b.toNat : Int) := by
  obtain ⟨h1, _, h3⟩ := getDrop h
  unfold sIdx
  rw [if_pos ⟨by omega, by omega⟩]
  simp [List.getD_eq_getElem?_getD, h1]
def dgB (c : UInt8) : Bool := !(decide ((c.toNat : Int) < 48)) && !(decide ((57 : Int) < (c.toNat : Int)))
theorem dgB_iff {c : UInt8} : dgB c = true ↔ isDg c := by
  unfold dgB isDg
  simp only [Bool.and_eq_true, Bool.not_eq_true', decide_eq_false_iff_not]
  omega
theorem u64i {n : Int} (h0 : 0 ≤ n) (h1 : n < 18446744073709551616) : IntKind.wrap .u64 n = n := by rw [IntKind.wrap_u64]; omega
theorem u8i {n : Int} (h0 : 0 ≤ n) (h1 : n < 256) : IntKind.wrap .u8 n = n := by rw [IntKind.wrap_u8]; omega
theorem refnum_loop (y : Str) (K : Int → Option (Int × Bool)) (hy : y.length ≤ 19) : ∀ (r : Str) (j q a : Nat), y.drop j = r → j ≤ y.length → a < 10 ^ j → r.length < q →
    ref30_num_l1 y K q (a : Int) (j : Int) = if r.all dgB = true then K (decV a r : Nat) else some (0, false)
  | [], j, q+1, a, h, hj, _, _ => by
    have : j = y.length := by have : y.length ≤ j := by simpa using h
                              omega
    subst this
    rw [ref30_num_l1, ge_len, ifF, List.all_nil, ifT]; rfl
  | c :: r, j, q+1, a, h, hj, ha, hq => by
    obtain ⟨e1, e2, e3⟩ := getDrop h
    rw [ref30_num_l1, lt_len e3, ifT, sIdx_at h, bindS, List.all_cons]
    by_cases h1 : (c.toNat : Int) < 48
    · rw [show decide ((c.toNat : Int) < 48) = true from decide_eq_true h1, ifT, bindS, ifT, show dgB c = false by unfold dgB; rw [decide_eq_true h1]; rfl, Bool.false_and, ifF]
    · rw [show decide ((c.toNat : Int) < 48) = false from decide_eq_false h1, ifF, bindS]
      by_cases h2 : (57 : Int) < (c.toNat : Int)
      · rw [decide_eq_true h2, ifT, show dgB c = false by unfold dgB; rw [decide_eq_true h2]; simp, Bool.false_and, ifF]
      · rw [decide_eq_false h2, ifF, show dgB c = true by unfold dgB; rw [decide_eq_false h1, decide_eq_false h2]; rfl, Bool.true_and, bindS, cks (by omega), bindS]
        have hp : a * 10 + dv c < 10 ^ (j + 1) := by
          have : dv c < 10 := by unfold dv; omega
          rw [Nat.pow_succ]; omega
        have hb : (10 : Nat) ^ (j + 1) ≤ 10 ^ 19 := Nat.pow_le_pow_right (by omega) (by omega)
        have h19 : (10 : Nat) ^ 19 = 10000000000000000000 := by decide
        have ew : IntKind.wrap .u64 (IntKind.wrap .u64 ((a : Int) * 10) + IntKind.wrap .u64 (IntKind.wrap .u8 ((c.toNat : Int) - 48))) = ((a * 10 + dv c : Nat) : Int) := by
          have hd : ((dv c : Nat) : Int) = (c.toNat : Int) - 48 := by unfold dv; omega
          rw [u8i (n := (c.toNat : Int) - 48) (by omega) (by omega), u64i (n := (c.toNat : Int) - 48) (by omega) (by omega), u64i (n := (a : Int) * 10) (by omega) (by omega), ← hd, u64i (by omega) (by omega)]
          omega
        rw [ew, refnum_loop y K hy r (j+1) q (a * 10 + dv c) e2 (by omega) hp (by simp at hq; omega)]
        rfl
  | _, _, 0, _, _, _, _, hq => by omega

/-- What stands behind the sign, in the document's numbers. -/
theorem itoa_cases (n : Int) (h0 : -9223372036854775808 ≤ n) (h1 : n ≤ 9223372036854775807) :
    (∃ u : Nat, u ≤ 9223372036854775807 ∧ n = u ∧ Lib.itoa n = Lib.decDigits u) ∨ ∃ u : Nat, 1 ≤ u ∧ u ≤ 9223372036854775808 ∧ n = -(u : Int) ∧ Lib.itoa n = 45 :: Lib.decDigits u := by
  by_cases hn : n < 0
  · right
    refine ⟨n.natAbs, by omega, by omega, by omega, ?_⟩
    unfold Lib.itoa; rw [if_pos hn]
  · left
    refine ⟨n.toNat, by omega, by omega, ?_⟩
    unfold Lib.itoa; rw [if_neg hn]
theorem dec_len : ∀ (k u : Nat), 1 ≤ k → u < 10 ^ k → (Lib.decDigits u).length ≤ k
  | 0, _, h, _ => by omega
  | k+1, u, _, h => by
    by_cases hu : u < 10
    · rw [Lib.decDigits_one hu]; simp
    · rw [decDigits_step hu, List.length_append]
      have hk : 1 ≤ k := by
        rcases Nat.eq_zero_or_pos k with rfl | h'
        · simp at h; omega
        · exact h'
      have : u / 10 < 10 ^ k := by rw [Nat.pow_succ] at h; omega
      have := dec_len k (u / 10) hk this
      simp; omega
/-- The part of a numeral behind its sign may be one. -/
def okDg (neg : Bool) (y : Str) : Bool := !(decide ((y.length : Int) < 1)) && !(decide ((19 : Int) < (y.length : Int))) && !(y.head? == some 48 && (neg || decide ((1 : Int) < (y.length : Int)))) && y.all dgB
theorem dec_ok (u : Nat) (h : u ≤ 9223372036854775808) (neg : Bool) (hn : neg = true → 1 ≤ u) : okDg neg (Lib.decDigits u) = true := by
  obtain ⟨d1, d2, d3, d4, d5⟩ := digits_all u
  have hl := dec_len 19 u (by omega) (by have : (10 : Nat) ^ 19 = 10000000000000000000 := by decide
                                         omega)
  have hl1 : 1 ≤ (Lib.decDigits u).length := by
    cases e : Lib.decDigits u with
    | nil => exact absurd e d3
    | cons x l => simp
  have hall : (Lib.decDigits u).all dgB = true := List.all_eq_true.2 fun c hc => dgB_iff.2 (d1 c hc)
  have hz : ((Lib.decDigits u).head? == some 48 && (neg || decide ((1 : Int) < ((Lib.decDigits u).length : Int)))) = false := by
    by_cases hu : 1 ≤ u
    · have := d5 hu
      have e : ((Lib.decDigits u).head? == some 48) = false := by simpa using this
      rw [e, Bool.false_and]
    · have : u = 0 := by omega
      subst this
      have hneg : neg = false := by
        cases neg with
        | false => rfl
        | true => have := hn rfl; omega
      subst hneg
      rw [Lib.decDigits_one (by omega)]
      rfl
  unfold okDg
  rw [hz, hall, decide_eq_false (by omega), decide_eq_false (by omega)]
  rfl
theorem ok_dec {neg : Bool} {y : Str} (h : okDg neg y = true) : Lib.decDigits (decV 0 y) = y ∧ (neg = true → 1 ≤ decV 0 y) := by
  unfold okDg at h
  simp only [Bool.and_eq_true, Bool.not_eq_true', decide_eq_false_iff_not, List.all_eq_true] at h
  obtain ⟨⟨⟨h1, h2⟩, h3⟩, h4⟩ := h
  have hd : ∀ c, c ∈ y → isDg c := fun c hc => dgB_iff.1 (h4 c hc)
  have hne : y ≠ [] := fun e => by subst e; simp at h1
  have h0 : y.head? = some 48 → neg = false ∧ y = [48] := fun e => by
    rw [e] at h3
    simp only [beq_self_eq_true, Bool.true_and, Bool.or_eq_false_iff, decide_eq_false_iff_not] at h3
    refine ⟨h3.1, ?_⟩
    cases y with
    | nil => exact absurd rfl hne
    | cons x l =>
      simp only [List.head?_cons, Option.some.injEq] at e
      have : l = [] := by
        cases l with
        | nil => rfl
        | cons z l => simp at h3; omega
      rw [e, this]
  refine ⟨digits_of y.length y rfl hd hne (fun e => (h0 e).2), fun hn => decV_pos hd hne fun e => ?_⟩
  rw [hn] at h0
  exact absurd (h0 e).1 (by simp)
end Go.Cq

