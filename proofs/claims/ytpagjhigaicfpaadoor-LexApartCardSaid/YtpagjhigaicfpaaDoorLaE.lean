import Derived.Test.YtpagjhigaicfpaaDoorLaD
set_option linter.unusedSectionVars false
set_option linter.unusedVariables false
set_option linter.unusedSimpArgs false
set_option maxRecDepth 100000
set_option linter.unusedVariables false
set_option linter.unusedSimpArgs false
namespace Go.Cq
open Go Go.Av

/-- What stands up to the next lonely quote, and how long that is with it. -/
def qd : Str → Option (Str × Nat)
  | [] => none
  | [b] => if b = 39 then some ([], 1) else none
  | b :: c :: r => if b = 39 then (if c = 39 then (qd r).map fun z => (39 :: z.1, z.2 + 2) else some ([], 1)) else (qd (c :: r)).map fun z => (b :: z.1, z.2 + 1)
theorem qd_ne {b : UInt8} (hb : b ≠ 39) (r : Str) : qd (b :: r) = (qd r).map fun z => (b :: z.1, z.2 + 1) := by
  cases r with
  | nil => simp [qd, hb]
  | cons c r => simp [qd, hb]
theorem qd_one : qd [39] = some ([], 1) := rfl
theorem qd_lone {c : UInt8} (hc : c ≠ 39) (r : Str) : qd (39 :: c :: r) = some ([], 1) := by simp [qd, hc]
theorem qd_two (r : Str) : qd (39 :: 39 :: r) = (qd r).map fun z => (39 :: z.1, z.2 + 2) := by simp [qd]
theorem qd_le : ∀ (n : Nat) (r : Str), r.length ≤ n → ∀ t k, qd r = some (t, k) → k ≤ r.length ∧ t.length < k ∧ 1 ≤ k
  | n, [], _, t, k, h => by simp [qd] at h
  | 0, b :: r, hn, _, _, _ => by simp at hn
  | n+1, b :: r, hn, t, k, h => by
    simp at hn
    by_cases hb : b = 39
    · subst hb
      cases r with
      | nil => rw [qd_one] at h; simp at h; obtain ⟨rfl, rfl⟩ := h; simp
      | cons c r' =>
        by_cases hc : c = 39
        · subst hc
          rw [qd_two] at h
          simp at hn
          cases e : qd r' with
          | none => simp [e] at h
          | some z =>
            rw [e] at h; simp at h
            obtain ⟨rfl, rfl⟩ := h
            have := qd_le n r' (by omega) z.1 z.2 e
            simp; omega
        · rw [qd_lone hc] at h; simp at h; obtain ⟨rfl, rfl⟩ := h; simp
    · rw [qd_ne hb] at h
      cases e : qd r with
      | none => simp [e] at h
      | some z =>
        rw [e] at h; simp at h
        obtain ⟨rfl, rfl⟩ := h
        have := qd_le n r hn z.1 z.2 e
        simp; omega

theorem wb_eq {l : List Int} {c : Int} (h : l.length + 1 ≤ 100000) : strings_Builder_WriteByte (strings_Builder.mk l) c = some (none, strings_Builder.mk (l ++ [c])) := by
  unfold strings_Builder_WriteByte bld_check
  simp only [Option.bind_some, app]
  rw [if_pos (by simp [maxB]; omega)]; rfl
theorem byte_dec {b : UInt8} (n : Nat) (hn : n < 256) : decide ((b.toNat : Int) = (n : Int)) = decide (b = UInt8.ofNat n) := by
  rw [decide_eq_decide]
  constructor
  · intro h; have : b.toNat = n := by omega
    rw [← this]; simp
  · rintro rfl; simp [UInt8.toNat_ofNat', Nat.mod_eq_of_lt hn]
theorem dec39 (b : UInt8) : decide ((b.toNat : Int) = 39) = decide (b = 39) := byte_dec 39 (by omega)
theorem dec61 (b : UInt8) : decide ((b.toNat : Int) = 61) = decide (b = 61) := byte_dec 61 (by omega)
theorem dec58 (b : UInt8) : decide ((b.toNat : Int) = 58) = decide (b = 58) := byte_dec 58 (by omega)
theorem dec34 (b : UInt8) : decide ((b.toNat : Int) = 34) = decide (b = 34) := byte_dec 34 (by omega)
theorem len_dec {s : Str} {j : Nat} {r : Str} (h : s.drop j = r) (hj : j ≤ s.length) : decide ((j : Int) = (s.length : Int)) = r.isEmpty := by
  cases r with
  | nil => have := drop_nil h; simp; omega
  | cons b r => have := (drop_cons h).2.2; simp; omega

section
variable {s r : Str} {K : List Int → Option (Str × Int × Bool)} {b c : UInt8} {j q : Nat} {acc : List Int}
theorem q_nil (h : s.drop j = []) : lex_quoted_l1 s K (q + 1) (j : Int) acc = K acc := by
  rw [lex_quoted_l1, ge_drop h]; rfl
theorem q_other (h : s.drop j = b :: r) (hb : b ≠ 39) (hj : j ≤ 90000) (ha : acc.length ≤ 90000) : lex_quoted_l1 s K (q + 1) (j : Int) acc = lex_quoted_l1 s K q ((j + 1 : Nat) : Int) (acc ++ [(b.toNat : Int)]) := by
  rw [lex_quoted_l1, lt_drop h, if_pos rfl]
  simp only [letK]
  rw [sIdx_drop h, Option.bind_some, dec39, decide_eq_false hb, Bool.not_false, if_pos rfl, wb_eq (by omega), Option.bind_some, ck_succ (by omega), Option.bind_some]
theorem q_one (h : s.drop j = [39]) (hs : s.length ≤ 90000) : lex_quoted_l1 s K (q + 1) (j : Int) acc = some (ofInts acc, ((j + 1 : Nat) : Int), true) := by
  obtain ⟨h1, h2, h3⟩ := drop_cons h
  rw [lex_quoted_l1, lt_drop h, if_pos rfl]
  simp only [letK]
  rw [sIdx_drop h, Option.bind_some, dec39, decide_eq_true rfl, Bool.not_true, if_neg (by simp), ck_succ (by omega), Option.bind_some, len_dec h2 h3]
  rfl
theorem q_lone (h : s.drop j = 39 :: c :: r) (hc : c ≠ 39) (hs : s.length ≤ 90000) : lex_quoted_l1 s K (q + 1) (j : Int) acc = some (ofInts acc, ((j + 1 : Nat) : Int), true) := by
  obtain ⟨h1, h2, h3⟩ := drop_cons h
  rw [lex_quoted_l1, lt_drop h, if_pos rfl]
  simp only [letK]
  rw [sIdx_drop h, Option.bind_some, dec39, decide_eq_true rfl, Bool.not_true, if_neg (by simp), ck_succ (by omega), Option.bind_some, len_dec h2 h3, List.isEmpty_cons, if_neg (by simp), sIdx_drop h2, Option.bind_some, dec39, decide_eq_false hc]
  rfl
theorem q_two (h : s.drop j = 39 :: 39 :: r) (hs : s.length ≤ 90000) (ha : acc.length ≤ 90000) : lex_quoted_l1 s K (q + 1) (j : Int) acc = lex_quoted_l1 s K q ((j + 2 : Nat) : Int) (acc ++ [39]) := by
  obtain ⟨h1, h2, h3⟩ := drop_cons h
  rw [lex_quoted_l1, lt_drop h, if_pos rfl]
  simp only [letK]
  rw [sIdx_drop h, Option.bind_some, dec39, decide_eq_true rfl, Bool.not_true, if_neg (by simp), ck_succ (by omega), Option.bind_some, len_dec h2 h3, List.isEmpty_cons, if_neg (by simp), sIdx_drop h2, Option.bind_some, dec39, decide_eq_true rfl, Bool.not_true, Option.bind_some, if_neg (by simp), wb_eq (by omega), Option.bind_some, Option.bind_some, ck_succ (by omega), Option.bind_some]
end
theorem quoted_l1 {s : Str} {K : List Int → Option (Str × Int × Bool)} {kk : Str × Int × Bool} (hK : ∀ l, K l = some kk) (hs : s.length ≤ 90000) (n : Nat) : ∀ (r : Str), r.length ≤ n → ∀ (j q : Nat) (acc : List Int), s.drop j = r → j ≤ s.length → r.length < q → acc.length ≤ j →
    lex_quoted_l1 s K q (j : Int) acc = some (match qd r with | some z => (ofInts (acc ++ toInts z.1), ((j + z.2 : Nat) : Int), true) | none => kk) := by
  induction n with
  | zero =>
    intro r hn j q acc h hj hq ha
    obtain rfl : r = [] := List.eq_nil_of_length_eq_zero (Nat.le_zero.1 hn)
    obtain ⟨q, rfl⟩ : ∃ q', q = q' + 1 := ⟨q - 1, by omega⟩
    rw [q_nil h, hK]; rfl
  | succ n ih =>
    intro r hn j q acc h hj hq ha
    obtain ⟨q, rfl⟩ : ∃ q', q = q' + 1 := ⟨q - 1, by omega⟩
    cases r with
    | nil => rw [q_nil h, hK]; rfl
    | cons b r =>
      obtain ⟨h1, h2, h3⟩ := drop_cons h
      rw [List.length_cons] at hn hq
      by_cases hb : b = 39
      · subst hb
        cases r with
        | nil => rw [q_one h hs, qd_one]; simp only [show toInts ([] : Str) = [] from rfl, List.append_nil]
        | cons c r =>
          by_cases hc : c = 39
          · subst hc
            obtain ⟨g1, g2, g3⟩ := drop_cons h2
            rw [List.length_cons] at hn hq
            rw [q_two h hs (by omega), ih r (by omega) (j + 2) q (acc ++ [39]) g2 g3 (by omega) (by rw [List.length_append, List.length_singleton]; omega), qd_two]
            cases qd r with
            | none => rfl
            | some z =>
              rw [Option.map_some]
              have e1 : (acc ++ [39]) ++ toInts z.1 = acc ++ toInts (39 :: z.1) := by rw [List.append_assoc]; rfl
              have e2 : j + 2 + z.2 = j + (z.2 + 2) := by omega
              simp only [e1, e2]
          · rw [q_lone h hc hs, qd_lone hc]; simp only [show toInts ([] : Str) = [] from rfl, List.append_nil]
      · rw [q_other h hb (by omega) (by omega), ih r (by omega) (j + 1) q _ h2 h3 (by omega) (by rw [List.length_append, List.length_singleton]; omega), qd_ne hb]
        cases qd r with
        | none => rfl
        | some z =>
          rw [Option.map_some]
          have e1 : (acc ++ [(b.toNat : Int)]) ++ toInts z.1 = acc ++ toInts (b :: z.1) := by rw [List.append_assoc]; rfl
          have e2 : j + 1 + z.2 = j + (z.2 + 1) := by omega
          simp only [e1, e2]
theorem quoted_eq {s : Str} (hs : s.length ≤ 90000) : lex_quoted s = some (match qd s with | some z => (z.1, (z.2 : Int), true) | none => ([], 0, false)) := by
  unfold lex_quoted letK
  have := quoted_l1 (s := s) (K := fun _ => some ([], 0, false)) (fun _ => rfl) hs s.length s (Nat.le_refl _) 0 fuel [] rfl (Nat.zero_le _) (by unfold fuel; omega) (Nat.zero_le _)
  show lex_quoted_l1 s (fun _ => some ([], 0, false)) fuel ((0 : Nat) : Int) [] = _
  rw [this]
  cases qd s with
  | none => rfl
  | some z => simp [ofInts, toInts, Function.comp_def]
end Go.Cq

