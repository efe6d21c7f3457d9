import Derived.Test.YteeokchpojaaoaaGreatDoorLN3
set_option linter.unusedSectionVars false
set_option linter.unusedVariables false
set_option linter.unusedSimpArgs false
set_option maxRecDepth 100000
set_option linter.unusedVariables false
set_option linter.unusedSimpArgs false
namespace Go.Cq
open Go Go.Av

def toV (v : ref11_Val) : api_Val := ⟨v.K, v.N, v.L⟩
/-- May a value be? -/
def mayV (K N L : Int) : Bool :=
  if ((decide (L < 0)) || (decide (8 ≤ L))) then false
  else if (decide (K = 0)) || (decide (K = 1)) || (decide (K = 2)) then decide (N = 0)
  else if (decide (K = 3)) then ((decide (((-2305843009213693952) : Int) ≤ N)) && (decide (N ≤ 2305843009213693951)))
  else if (decide (K = 4)) then ((decide ((0 : Int) ≤ N)) && (decide (N < 65536)))
  else if (decide (K = 5)) then ((decide ((0 : Int) ≤ N)) && (decide (N < 64)))
  else false
theorem may_obj (v : api_Val) : object_Value 8 v = some (mayV v.K v.N v.L) := by
  unfold object_Value mayV
  cases h0 : (decide (v.L < 0) || decide (8 ≤ v.L)) with
  | true => rw [ifT, ifT]
  | false =>
    rw [ifF, ifF]
    cases h1 : decide (v.K = 0) <;> cases h2 : decide (v.K = 1) <;> cases h3 : decide (v.K = 2) <;> cases h4 : decide (v.K = 3) <;> cases h5 : decide (v.K = 4) <;> cases h6 : decide (v.K = 5) <;> simp only [ifT, ifF, ifTr, ifFa, Bool.false_eq_true, bindS, Bool.or_true, Bool.true_or, Bool.or_false, Bool.false_or]
theorem may_ref (v : ref11_Val) : ref11_Value 8 v = some (mayV v.K v.N v.L) := by
  unfold ref11_Value mayV
  have e1 : decide (v.N ≤ 65535) = decide (v.N < 65536) := by congr 1; apply propext; omega
  have e2 : decide (v.N ≤ 63) = decide (v.N < 64) := by congr 1; apply propext; omega
  rw [e1, e2]
  cases h0 : (decide (v.L < 0) || decide (8 ≤ v.L)) with
  | true => rw [ifT, ifT]
  | false =>
    rw [ifF, ifF]
    cases h1 : decide (v.K = 0) <;> cases h2 : decide (v.K = 1) <;> cases h3 : decide (v.K = 2) <;> cases h4 : decide (v.K = 3) <;> cases h5 : decide (v.K = 4) <;> cases h6 : decide (v.K = 5) <;> simp only [ifT, ifF, ifTr, ifFa, Bool.false_eq_true, bindS, Bool.or_true, Bool.true_or, Bool.or_false, Bool.false_or]
/-- A value that may be has a kind below 6. -/
theorem mayV_K {K N L : Int} (h : mayV K N L = true) : (K = 0 ∨ K = 1 ∨ K = 2 ∨ K = 3 ∨ K = 4 ∨ K = 5) ∧ 0 ≤ L ∧ L < 8 := by
  unfold mayV at h
  split at h
  · cases h
  · rename_i hL
    simp only [Bool.or_eq_true, decide_eq_true_eq, not_or] at hL
    refine ⟨?_, by omega, by omega⟩
    split at h
    · rename_i hk; simp only [Bool.or_eq_true, decide_eq_true_eq] at hk; omega
    · split at h
      · rename_i hk; have := of_decide_eq_true hk; omega
      · split at h
        · rename_i hk; have := of_decide_eq_true hk; omega
        · split at h
          · rename_i hk; have := of_decide_eq_true hk; omega
          · cases h
/-- The text of a value that may be. -/
def valS (K N : Int) : Str := if K = 0 then [110, 105, 108] else if K = 1 then [102, 97, 108, 115, 101] else if K = 2 then [116, 114, 117, 101] else if K = 4 then 35 :: Lib.itoa N else if K = 5 then 64 :: Lib.itoa N else Lib.itoa N
def valT (K N L : Int) : Str := valS K N ++ [47] ++ Lib.itoa L
theorem itoa21 {n : Int} (h0 : -9223372036854775808 ≤ n) (h1 : n ≤ 9223372036854775807) : (Lib.itoa n).length ≤ 20 := by
  rcases itoa_cases n h0 h1 with ⟨u, q, _, h⟩ | ⟨u, _, q, _, h⟩
  · have := dec_len 19 u (by omega) (by have : (10 : Nat) ^ 19 = 10000000000000000000 := by decide
                                        omega)
    rw [h]; omega
  · have := dec_len 19 u (by omega) (by have : (10 : Nat) ^ 19 = 10000000000000000000 := by decide
                                        omega)
    rw [h]; simp; omega
theorem script_val (v : api_Val) (hN : -9223372036854775808 ≤ v.N ∧ v.N ≤ 9223372036854775807) : script_Value v = some (if mayV v.K v.N v.L = true then (valT v.K v.N v.L, none) else ([], some 1)) := by
  unfold script_Value
  rw [may_obj, bindS]
  cases hm : mayV v.K v.N v.L with
  | false => rw [show (!false) = true from rfl, ifT, ifF]
  | true =>
    obtain ⟨hK, hL0, hL1⟩ := mayV_K hm
    have l1 := itoa21 hN.1 hN.2
    have l2 := itoa21 (n := v.L) (by omega) (by omega)
    rw [show (!true) = false from rfl, ifF, ifT]
    unfold strconv_Itoa itoaS
    rw [bindS, cat_of (by simp; omega), bindS, cat_of (by simp; omega), bindS]
    have key : ∀ (t : Str), t.length ≤ 30 → ((cat t [47]).bind fun v14 => (some (Lib.itoa v.L)).bind fun v15 => (cat v14 v15).bind fun v18 => some (v18, (none : Option Int))) = some (t ++ [47] ++ Lib.itoa v.L, none) := fun t ht => by
      rw [cat_of (by simp; omega), bindS, bindS, cat_of (by simp; omega), bindS]
    unfold valT valS
    rcases hK with h | h | h | h | h | h <;> rw [h]
    · exact key [110, 105, 108] (by decide)
    · exact key [102, 97, 108, 115, 101] (by decide)
    · exact key [116, 114, 117, 101] (by decide)
    · exact key (Lib.itoa v.N) (by omega)
    · exact key (35 :: Lib.itoa v.N) (by simp; omega)
    · exact key (64 :: Lib.itoa v.N) (by simp; omega)
theorem ref_val (v : ref11_Val) (hN : -9223372036854775808 ≤ v.N ∧ v.N ≤ 9223372036854775807) : ref30_Value v = some (if mayV v.K v.N v.L = true then (valT v.K v.N v.L, 0) else ([], 1)) := by
  unfold ref30_Value
  rw [may_ref, bindS]
  cases hm : mayV v.K v.N v.L with
  | false => rw [show (!false) = true from rfl, ifT, ifF]
  | true =>
    obtain ⟨hK, hL0, hL1⟩ := mayV_K hm
    have l1 := itoa21 hN.1 hN.2
    have l2 := itoa21 (n := v.L) (by omega) (by omega)
    rw [show (!true) = false from rfl, ifF, ifT, digits_itoa _ hN.1 hN.2, bindS, digits_itoa v.L (by omega) (by omega)]
    have key : ∀ (t : Str), t.length ≤ 30 → ((cat t [47]).bind fun v14 => (some (Lib.itoa v.L)).bind fun v15 => (cat v14 v15).bind fun v18 => some (v18, (0 : Int))) = some (t ++ [47] ++ Lib.itoa v.L, 0) := fun t ht => by
      rw [cat_of (by simp; omega), bindS, bindS, cat_of (by simp; omega), bindS]
    unfold valT valS
    rcases hK with h | h | h | h | h | h <;> rw [h]
    · exact key [110, 105, 108] (by decide)
    · exact key [102, 97, 108, 115, 101] (by decide)
    · exact key [116, 114, 117, 101] (by decide)
    · exact key (Lib.itoa v.N) (by omega)
    · rw [show decide ((4 : Int) < 3) = false from rfl, ifF, bindS, show decide ((4 : Int) = 4) = true from rfl, ifT, cat_of (by simp; omega)]
      exact key (35 :: Lib.itoa v.N) (by simp; omega)
    · rw [show decide ((5 : Int) < 3) = false from rfl, ifF, bindS, show decide ((5 : Int) = 4) = false from rfl, ifF, bindS, show decide ((5 : Int) = 5) = true from rfl, ifT, cat_of (by simp; omega)]
      exact key (64 :: Lib.itoa v.N) (by simp; omega)
end Go.Cq

