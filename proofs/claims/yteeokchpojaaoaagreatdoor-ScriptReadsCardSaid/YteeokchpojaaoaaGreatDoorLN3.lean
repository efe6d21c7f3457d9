import Derived.Test.YteeokchpojaaoaaGreatDoorLN2
set_option linter.unusedSectionVars false
set_option linter.unusedVariables false
set_option linter.unusedSimpArgs false
set_option maxRecDepth 100000
set_option linter.unusedVariables false
set_option linter.unusedSimpArgs false
namespace Go.Cq
open Go Go.Av

theorem ofInts_toI (s : Str) : ofInts (s.map fun b => (b.toNat : Int)) = s := by
  unfold ofInts
  rw [List.map_map]
  conv => rhs; rw [← List.map_id s]
  apply List.map_congr_left
  intro b _
  simp
theorem td10 (v : Int) : (v.tdiv 10 = ((v.natAbs / 10 : Nat) : Int) ∧ v.tmod 10 = ((v.natAbs % 10 : Nat) : Int) ∧ 0 ≤ v) ∨ (v.tdiv 10 = -((v.natAbs / 10 : Nat) : Int) ∧ v.tmod 10 = -((v.natAbs % 10 : Nat) : Int) ∧ v < 0) := by
  rcases (by omega : v < 0 ∨ 0 ≤ v) with h | h
  · right
    obtain ⟨u, hu⟩ : ∃ u : Nat, v = -(u : Int) := ⟨v.natAbs, by omega⟩
    subst hu
    rw [Int.neg_tdiv, Int.neg_tmod, Int.natAbs_neg, Int.natAbs_natCast]
    exact ⟨rfl, rfl, h⟩
  · left
    obtain ⟨u, hu⟩ : ∃ u : Nat, v = (u : Int) := ⟨v.natAbs, by omega⟩
    subst hu
    exact ⟨rfl, rfl, h⟩
theorem dig_loop : ∀ (k q : Nat) (v : Int) (acc : List Int), v ≠ 0 → v.natAbs < 10 ^ k → -9223372036854775808 ≤ v → v ≤ 9223372036854775807 → k < q → acc.length + k ≤ 1000 →
    ref30_Digits_l1 q v acc = some ((Lib.decDigits v.natAbs).map (fun b => (b.toNat : Int)) ++ acc)
  | 0, _, v, _, hv, hk, _, _, _, _ => by simp at hk; exact absurd hk (by omega)
  | k+1, 0, _, _, _, _, _, _, hq, _ => by omega
  | k+1, q+1, v, acc, hv, hk, h0, h1, hq, hl => by
    have htd := td10 v
    rw [ref30_Digits_l1, decide_eq_false hv]
    rw [show (!false) = true from rfl, ifT]
    have hr : rem v 10 = some (v.tmod 10) := by unfold rem; rw [if_pos (by decide)]
    have hqo : quo .i64 v 10 = some (v.tdiv 10) := by
      unfold quo; rw [if_pos (by decide), IntKind.wrap_i64]; congr 1; omega
    have hd : (if decide (v.tmod 10 < 0) = true then (ck (0 - v.tmod 10)).bind fun v11 => some v11 else some (v.tmod 10)) = some ((v.natAbs % 10 : Nat) : Int) := by
      by_cases hn : v.tmod 10 < 0
      · rw [decide_eq_true hn, ifT, ck_of (by omega) (by omega), bindS]; congr 1; omega
      · rw [decide_eq_false hn, ifF]; congr 1; omega
    rw [hr, bindS, hd, bindS]
    have ew : IntKind.wrap .u8 (48 + IntKind.wrap .u8 ((v.natAbs % 10 : Nat) : Int)) = ((48 + v.natAbs % 10 : Nat) : Int) := by
      rw [u8i (n := ((v.natAbs % 10 : Nat) : Int)) (by omega) (by omega), u8i (by omega) (by omega)]; omega
    have ec : ((UInt8.ofNat (48 + v.natAbs % 10)).toNat : Int) = ((48 + v.natAbs % 10 : Nat) : Int) := by
      rw [UInt8.toNat_ofNat']; omega
    rw [ew, app_of (by simp; omega) (by simp; omega), bindS, hqo, bindS]
    by_cases hs : v.natAbs < 10
    · have hz : v.tdiv 10 = 0 := by omega
      have hm : v.natAbs % 10 = v.natAbs := by omega
      rw [hz]
      obtain ⟨q', rfl⟩ : ∃ q', q = q' + 1 := ⟨q - 1, by omega⟩
      rw [ref30_Digits_l1, decide_eq_true rfl, show (!true) = false from rfl, ifF, Lib.decDigits_one hs]
      rw [← ec, hm]; rfl
    · have ha : (v.tdiv 10).natAbs = v.natAbs / 10 := by omega
      have hk' : v.natAbs / 10 < 10 ^ k := by rw [Nat.pow_succ] at hk; omega
      rw [dig_loop k q (v.tdiv 10) _ (by omega) (by rw [ha]; exact hk') (by omega) (by omega) (by omega) (by simp; omega), ha, decDigits_step hs, ← ec]
      simp
/-- The document's digits are the library's. -/
theorem digits_itoa (n : Int) (h0 : -9223372036854775808 ≤ n) (h1 : n ≤ 9223372036854775807) : ref30_Digits n = some (Lib.itoa n) := by
  unfold ref30_Digits
  by_cases hz : n = 0
  · subst hz
    rw [decide_eq_true rfl, ifT]
    unfold Lib.itoa
    rw [if_neg (by decide), show Int.toNat 0 = 0 from rfl, Lib.decDigits_one (by decide)]
    rfl
  · rw [decide_eq_false hz, ifF]
    have h19 : (10 : Nat) ^ 19 = 10000000000000000000 := by decide
    rw [dig_loop 19 fuel n [] hz (by omega) h0 h1 (by decide) (by simp), bindS, List.append_nil]
    have hl := dec_len 19 n.natAbs (by omega) (by omega)
    unfold Lib.itoa
    by_cases hn : n < 0
    · rw [decide_eq_true hn, ifT, if_pos hn, app_of (by simp; omega) (by simp; omega), bindS, bindS]
      have := ofInts_toI (45 :: Lib.decDigits n.natAbs)
      rw [List.map_cons] at this
      exact congrArg some this
    · rw [decide_eq_false hn, ifF, if_neg hn, bindS, ofInts_toI, show n.natAbs = n.toNat by omega]
end Go.Cq

