import Derived.Test.YteeokchpojaaoaaGreatDoorLW
set_option linter.unusedSectionVars false
set_option linter.unusedVariables false
set_option linter.unusedSimpArgs false
set_option maxRecDepth 100000
set_option linter.unusedVariables false
set_option linter.unusedSimpArgs false
namespace Go.Cq
open Go Go.Av

def badB (c : UInt8) : Bool := decide ((c.toNat : Int) < 33) || decide ((126 : Int) < (c.toNat : Int))
/-- Is a text a word? -/
def wordB (s : Str) : Bool := decide (1 ≤ s.length) && decide (s.length ≤ 64) && !s.any badB
theorem word_loop (s : Str) (hs : s.length ≤ 1000000) (K : Unit → Option Bool) (hK : K () = some true) : ∀ (r : Str) (j q : Nat), s.drop j = r → j ≤ s.length → r.length < q → ref30_Word_l1 s K q (j : Int) = some (!r.any badB)
  | [], j, q+1, h, hj, _ => by
    have : j = s.length := by have : s.length ≤ j := by simpa using h
                              omega
    subst this
    rw [ref30_Word_l1, ge_len, ifF, hK]; rfl
  | x :: r, j, q+1, h, hj, hq => by
    obtain ⟨e1, e2, e3⟩ := getDrop h
    rw [ref30_Word_l1, lt_len e3, ifT, sIdx_at h, bindS, List.any_cons]
    have hcond : (if decide ((x.toNat : Int) < 33) = true then some true else some (decide ((126 : Int) < (x.toNat : Int)))) = some (badB x) := by
      unfold badB
      cases decide ((x.toNat : Int) < 33) <;> simp only [ifT, ifF, ifTr, ifFa, Bool.false_eq_true, Bool.true_or, Bool.false_or]
    rw [hcond, bindS]
    cases hb : badB x with
    | true => rw [ifT]; rfl
    | false =>
      rw [ifF, cks (by omega), bindS, word_loop s hs K hK r (j+1) q e2 (by omega) (by simp at hq; omega), Bool.false_or]
  | [], _, 0, _, _, hq => by omega
  | _ :: _, _, 0, _, _, hq => by omega
theorem ref_word {s : Str} (hs : s.length ≤ 1000000) : ref30_Word s = some (wordB s) := by
  unfold ref30_Word wordB
  by_cases h1 : s.length < 1
  · rw [show decide ((s.length : Int) < 1) = true from decide_eq_true (by omega), Bool.true_or, ifT, decide_eq_false (by omega)]; rfl
  · rw [show decide ((s.length : Int) < 1) = false from decide_eq_false (by omega), Bool.false_or]
    by_cases h2 : 64 < s.length
    · rw [show decide ((64 : Int) < (s.length : Int)) = true from decide_eq_true (by omega), ifT, show decide (s.length ≤ 64) = false from decide_eq_false (by omega), Bool.and_false]; rfl
    · rw [show decide ((64 : Int) < (s.length : Int)) = false from decide_eq_false (by omega), ifF, letK_e, decide_eq_true (by omega), decide_eq_true (by omega)]
      have := word_loop s hs (fun _ => some true) rfl s 0 fuel rfl (by omega) (Nat.lt_of_le_of_lt hs (by decide))
      exact this
theorem idx_loop (s : Str) (hs : s.length ≤ 1000000) (K : Unit → Option Int) (hK : K () = some (-1)) : ∀ (r : Str) (j q : Nat), s.drop j = r → j ≤ s.length → r.length < q →
    ∃ i, slices_IndexFunc_Lbyte_byte_l1 (toInts s) script_worded_1 K q (j : Int) = some i ∧ decide ((0 : Int) ≤ i) = r.any badB
  | [], j, q+1, h, hj, _ => by
    have : j = s.length := by have : s.length ≤ j := by simpa using h
                              omega
    subst this
    have hl : (toInts s).length = s.length := by unfold toInts; simp
    rw [slices_IndexFunc_Lbyte_byte_l1, hl, ge_len, ifF, hK]
    exact ⟨-1, rfl, rfl⟩
  | x :: r, j, q+1, h, hj, hq => by
    obtain ⟨e1, e2, e3⟩ := getDrop h
    have hl : (toInts s).length = s.length := by unfold toInts; simp
    have ha : lAt (toInts s) (j : Int) = some (x.toNat : Int) := lAt_nat (by unfold toInts; rw [List.getElem?_map, e1]; rfl)
    rw [slices_IndexFunc_Lbyte_byte_l1, hl, lt_len e3, ifT, ha, bindS, script_worded_1, bindS, List.any_cons]
    have hb0 : (decide ((x.toNat : Int) < 33) || decide ((126 : Int) < (x.toNat : Int))) = badB x := rfl
    rw [hb0]
    cases hb : badB x with
    | true => rw [ifT]; exact ⟨j, rfl, decide_eq_true (by omega)⟩
    | false =>
      rw [ifF, cks (by omega), bindS, Bool.false_or]
      exact idx_loop s hs K hK r (j+1) q e2 (by omega) (by simp at hq; omega)
  | [], _, 0, _, _, hq => by omega
  | _ :: _, _, 0, _, _, hq => by omega
theorem script_word {s : Str} (hs : s.length ≤ 1000000) : script_worded s = some (wordB s) := by
  unfold script_worded wordB slices_ContainsFunc_Lbyte_byte slices_IndexFunc_Lbyte_byte
  rw [letK_e]
  obtain ⟨i, h1, h2⟩ := idx_loop s hs (fun _ => some (-1)) rfl s 0 fuel rfl (by omega) (Nat.lt_of_le_of_lt hs (by decide))
  have h1' : slices_IndexFunc_Lbyte_byte_l1 (toInts s) script_worded_1 (fun _ => some (-1)) fuel 0 = some i := h1
  rw [h1', bindS, bindS, h2]
  cases s with
  | nil => rfl
  | cons x r =>
    rw [show (!((x :: r) == [])) = true from rfl, ifT, show decide (1 ≤ (x :: r).length) = true by simp, Bool.true_and]
    by_cases h3 : (x :: r).length ≤ 64
    · rw [decide_eq_true h3, show decide (((x :: r).length : Int) ≤ 64) = true from decide_eq_true (by omega), ifT, bindS, Bool.true_and]
    · rw [decide_eq_false h3, show decide (((x :: r).length : Int) ≤ 64) = false from decide_eq_false (by omega), ifF, bindS, Bool.false_and]
end Go.Cq

