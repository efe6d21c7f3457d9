import Derived.Test.YtpagjhigaicfpaaDoorLaW
set_option linter.unusedSectionVars false
set_option linter.unusedVariables false
set_option linter.unusedSimpArgs false
set_option maxRecDepth 100000
set_option linter.unusedVariables false
set_option linter.unusedSimpArgs false
namespace Go.Cq
open Go Go.Av

/-! ### The words of a text, by the rest of it -/
abbrev TR := List lex_Word × Int × Option Int
def consT (w : lex_Word) : TR → TR
  | (l, p, none) => (w :: l, p, none)
  | (_, p, some e) => ([], p, some e)
def toks : Nat → Str → Nat → TR
  | _, [], _ => ([], 0, none)
  | 0, _ :: _, _ => ([], 0, none)
  | n+1, b :: r, i =>
    if blB b = true then toks n r (i+1)
    else if b = 34 then (if sc p34 r = r.length then ([], (i : Int), some 9) else toks n (r.drop (sc p34 r + 1)) (i + (sc p34 r + 2)))
    else if (oneT b r).2 = 0 ∨ mayB (oneT b r).1.K (oneT b r).1.S (i : Int) = false then ([], (i : Int), some 9)
    else consT ⟨(oneT b r).1.K, (oneT b r).1.S, (i : Int)⟩ (toks n ((b :: r).drop (oneT b r).2.toNat) (i + (oneT b r).2.toNat))
def finT (K2 : List lex_Word → Option TR) (out : List lex_Word) : TR → Option TR
  | (l, _, none) => K2 (out ++ l)
  | (_, p, some e) => some ([], p, some e)
theorem finT_cons {K2 : List lex_Word → Option TR} {out : List lex_Word} {w : lex_Word} {t : TR} : finT K2 out (consT w t) = finT K2 (out ++ [w]) t := by
  obtain ⟨l, p, e⟩ := t
  cases e <;> simp [consT, finT]
theorem toks_eq {s : Str} (K2 : List lex_Word → Option TR) (hs : s.length ≤ 65536) : ∀ (n : Nat) (r : Str) (i q : Nat) (out : List lex_Word), s.drop i = r → i ≤ s.length → r.length ≤ n → r.length < q → out.length ≤ i →
    lex_Words_l1 s K2 q out (i : Int) = finT K2 out (toks n r i)
  | n, [], i, q+1, out, h, hi, _, _, _ => by
    have e : toks n [] i = ([], 0, none) := by cases n <;> rfl
    rw [lex_Words_l1, ge_drop h, e, finT]; simp
  | n, [], i, 0, out, h, hi, _, hq, _ => by simp at hq
  | 0, b :: r, i, q, out, h, hi, hn, hq, _ => by simp at hn
  | n+1, b :: r, i, q, out, h, hi, hn, hq, ho => by
    rw [List.length_cons] at hn hq
    obtain ⟨q, rfl⟩ : ∃ q', q = q' + 1 := ⟨q - 1, by omega⟩
    obtain ⟨h1, h2, h3⟩ := drop_cons h
    have hlen : s.length = i + (r.length + 1) := by have := congrArg List.length h; rw [List.length_drop, List.length_cons] at this; omega
    rw [w1_eq K2 (by omega) h out, toks]
    by_cases hb : blB b = true
    · rw [hb, cond_true, if_pos rfl]
      exact toks_eq K2 hs n r (i+1) q out h2 h3 (by omega) (by omega) (by omega)
    · rw [if_neg hb, (by simpa using hb : blB b = false), cond_false]
      by_cases h34 : b = 34
      · have hsc := sc_le p34 r
        rw [if_pos h34, decide_eq_true h34, cond_true]
        by_cases hf : sc p34 r = r.length
        · rw [if_pos hf]; simp [hf, finT]
        · have hf2 : (sc p34 r == r.length) = false := by simpa using hf
          rw [if_neg hf, hf2, cond_false]
          exact toks_eq K2 hs n (r.drop (sc p34 r + 1)) (i + (sc p34 r + 2)) q out (by rw [← h2, List.drop_drop]; congr 1; omega) (by omega) (by rw [List.length_drop]; omega) (by rw [List.length_drop]; omega) (by omega)
      · rw [if_neg h34, decide_eq_false h34, cond_false]
        obtain ⟨o1, o2⟩ := one_bound b r
        rw [List.length_cons] at o2
        by_cases hm : (oneT b r).2 = 0 ∨ mayB (oneT b r).1.K (oneT b r).1.S (i : Int) = false
        · rw [if_pos hm]
          have : (decide ((oneT b r).2 = 0) || !mayB (oneT b r).1.K (oneT b r).1.S (i : Int)) = true := by
            rcases hm with hm | hm
            · simp [hm]
            · simp [hm]
          rw [this, cond_true]; rfl
        · have hm1 : (oneT b r).2 ≠ 0 := fun e => hm (.inl e)
          have hm2 : mayB (oneT b r).1.K (oneT b r).1.S (i : Int) = true := by
            cases e : mayB (oneT b r).1.K (oneT b r).1.S (i : Int)
            · exact absurd (.inr e) hm
            · rfl
          rw [if_neg hm, hm2, decide_eq_false hm1]
          obtain ⟨m, hmm⟩ : ∃ m : Nat, (oneT b r).2 = (m : Int) := ⟨(oneT b r).2.toNat, by omega⟩
          rw [hmm] at o1 o2 hm1 ⊢
          simp only [Bool.not_true, Bool.or_false, cond_false, Int.toNat_natCast]
          rw [app_of (by simp; omega) (by simp; omega), Option.bind_some, finT_cons, show ((i : Int) + (m : Int)) = ((i + m : Nat) : Int) by omega]
          exact toks_eq K2 hs n ((b :: r).drop m) (i + m) q _ (by rw [← h, List.drop_drop]) (by omega) (by rw [List.length_drop, List.length_cons]; omega) (by rw [List.length_drop, List.length_cons]; omega) (by simp; omega)
def wordsB (s : Str) : TR := if 65536 < s.length then ([], 0, some 4) else
  match toks s.length s 0 with
  | (l, _, none) => (l, 0, none)
  | (_, p, some e) => ([], p, some e)
theorem words_B (s : Str) : lex_Words s = some (wordsB s) := by
  unfold wordsB
  by_cases h : 65536 < s.length
  · rw [if_pos h, lex_Words, if_pos (by simp; omega)]
  · rw [if_neg h, words_l (by simp; omega), toks_eq KL (by omega) s.length s 0 fuel [] rfl (Nat.zero_le _) (Nat.le_refl _) (by unfold fuel; omega) (Nat.zero_le _)]
    generalize toks s.length s 0 = t
    obtain ⟨l, p, e⟩ := t
    cases e <;> rfl

/-! ### A word that may be, written, reads as itself -/
theorem sc_app {p : UInt8 → Bool} {S t : Str} (hS : ∀ b, b ∈ S → p b = true) (ht : t = [] ∨ ∃ c u, t = c :: u ∧ p c = false) : sc p (S ++ t) = S.length := by
  induction S with
  | nil =>
    rcases ht with rfl | ⟨c, u, rfl, hc⟩
    · rfl
    · simp [sc, hc]
  | cons b r ih =>
    rw [List.cons_append, sc, hS b (by simp), cond_true, ih (fun c hc => hS c (by simp [hc]))]; rfl
theorem qd_app : ∀ (S t : Str), (t = [] ∨ ∃ c u, t = c :: u ∧ c ≠ 39) → qd (dbl S ++ 39 :: t) = some (S, (dbl S).length + 1)
  | [], t, ht => by
    rcases ht with rfl | ⟨c, u, rfl, hc⟩
    · rfl
    · exact qd_lone hc u
  | b :: S, t, ht => by
    have ih := qd_app S t ht
    unfold dbl
    by_cases hb : b = 39
    · subst hb
      rw [if_pos rfl, List.cons_append, List.cons_append, qd_two, ih]; rfl
    · rw [if_neg hb, List.cons_append, qd_ne hb, ih]; rfl
theorem pL_ok (b : UInt8) (h : pL b = true) : blB b = false ∧ b ≠ 34 ∧ b ≠ 61 := by
  have := allB (p := fun b => !pL b || (!blB b && !decide (b = 34) && !decide (b = 61))) (by kernel_rfl) b
  simp [h] at this
  exact ⟨this.1.1, this.1.2, this.2⟩
theorem pD_ok (b : UInt8) (h : pD b = true) : blB b = false ∧ b ≠ 34 ∧ pL b = false := by
  have := allB (p := fun b => !pD b || (!blB b && !decide (b = 34) && !pL b)) (by kernel_rfl) b
  simp [h] at this
  exact ⟨this.1.1, this.1.2, this.2⟩
theorem pB_ok (b : UInt8) (h : pB b = true) : blB b = false ∧ b ≠ 34 ∧ pL b = false ∧ pD b = false := by
  have := allB (p := fun b => !pB b || (!blB b && !decide (b = 34) && !pL b && !pD b)) (by kernel_rfl) b
  simp [h] at this
  exact ⟨this.1.1.1, this.1.1.2, this.1.2, this.2⟩
theorem f32 : pE 32 = false ∧ pD 32 = false ∧ pB 32 = false := ⟨by kernel_rfl, by kernel_rfl, by kernel_rfl⟩
theorem f58 : pL 58 = false ∧ pD 58 = false ∧ pB 58 = false ∧ blB 58 = false ∧ pE 58 = false := ⟨by kernel_rfl, by kernel_rfl, by kernel_rfl, by kernel_rfl, by kernel_rfl⟩
theorem f39 : pL 39 = false ∧ pD 39 = false ∧ pB 39 = false ∧ blB 39 = false := ⟨by kernel_rfl, by kernel_rfl, by kernel_rfl, by kernel_rfl⟩
def okM (K : Int) : Bool := !pL (mkc K) && !pD (mkc K) && !pB (mkc K) && !decide (mkc K = 58) && !decide (mkc K = 39) && !blB (mkc K) && !decide (mkc K = 34) && decide (0 ≤ idxB mks (mkc K)) && decide (7 + idxB mks (mkc K) = K)
theorem okM_all {K : Int} (h0 : 7 ≤ K) (h1 : K ≤ 16) : okM K = true := by
  have hk : ((List.range 10).all fun n => okM ((n : Int) + 7)) = true := by kernel_rfl
  have := List.all_eq_true.1 hk (K - 7).toNat (by simp; omega)
  rwa [show (((K - 7).toNat : Nat) : Int) + 7 = K by omega] at this
theorem mayB_at {K At : Int} {S : Str} {o : Nat} (h : mayB K S At = true) : mayB K S (o : Int) = true := by
  unfold mayB at *
  rw [if_neg (by omega)]
  split at h
  · cases h
  · exact h
/-- What stands behind a word that is written: nothing, or a blank. -/
def Gap (t : Str) : Prop := t = [] ∨ ∃ u, t = 32 :: u
theorem one_at {w : ref13_Word} (h0 : 0 ≤ w.K) (hm : okW w = true) {t : Str} (ht : Gap t) : ∃ b r, pc w ++ t = b :: r ∧ blB b = false ∧ b ≠ 34 ∧ oneT b r = (⟨w.K, w.S, 0⟩, ((pc w).length : Int)) ∧ 0 < (pc w).length := by
  obtain ⟨K, S, At⟩ := w
  have h1 : K ≤ 16 := (may_len hm).1
  simp only at h0
  have hgE : t = [] ∨ ∃ c u, t = c :: u ∧ pE c = false := ht.imp id fun ⟨u, e⟩ => ⟨32, u, e, f32.1⟩
  have hgD : t = [] ∨ ∃ c u, t = c :: u ∧ pD c = false := ht.imp id fun ⟨u, e⟩ => ⟨32, u, e, f32.2.1⟩
  have hgB : t = [] ∨ ∃ c u, t = c :: u ∧ pB c = false := ht.imp id fun ⟨u, e⟩ => ⟨32, u, e, f32.2.2⟩
  have hg39 : t = [] ∨ ∃ c u, t = c :: u ∧ c ≠ 39 := ht.imp id fun ⟨u, e⟩ => ⟨32, u, e, by decide⟩
  unfold okW mayB at hm
  simp only at hm
  rw [if_neg (by intro h; rw [if_pos h] at hm; cases hm)] at hm
  unfold pc wrtB
  simp only
  by_cases hn : K = 0 ∨ K = 1 ∨ K = 5
  · rw [if_pos hn] at hm
    cases S with
    | nil => cases hm
    | cons b r =>
      rw [nmB_cons] at hm
      simp only [Bool.and_eq_true] at hm
      obtain ⟨_, hL, hE⟩ := hm
      have hE' := List.all_eq_true.1 hE
      obtain ⟨k1, k2, k3⟩ := pL_ok b hL
      rcases hn with rfl | rfl | rfl
      · refine ⟨b, r ++ t, rfl, k1, k2, ?_, by simp⟩
        have hsc : sc pE (b :: (r ++ t)) = (b :: r).length := sc_app (S := b :: r) hE' hgE
        unfold oneT
        rw [hL, cond_true, hsc, ← List.cons_append, List.drop_left, List.take_left]
        have : isKey t = false := by
          rcases ht with rfl | ⟨u, rfl⟩
          · rfl
          · cases u <;> rfl
        rw [this, cond_false]; rfl
      · refine ⟨b, r ++ [58] ++ t, rfl, k1, k2, ?_, by simp⟩
        have hsc : sc pE (b :: (r ++ [58] ++ t)) = (b :: r).length := by
          have := sc_app (S := b :: r) (t := 58 :: t) hE' (.inr ⟨58, t, rfl, f58.2.2.2.2⟩)
          simpa using this
        unfold oneT
        rw [hL, cond_true, hsc, show b :: (r ++ [58] ++ t) = (b :: r) ++ (58 :: t) by simp, List.drop_left, List.take_left]
        have : isKey (58 :: t) = true := by
          rcases ht with rfl | ⟨u, rfl⟩ <;> rfl
        rw [this, cond_true]; simp
      · refine ⟨58, b :: (r ++ t), rfl, f58.2.2.2.1, by decide, ?_, by simp⟩
        have hsc : sc pE (b :: (r ++ t)) = (b :: r).length := sc_app (S := b :: r) hE' hgE
        unfold oneT
        rw [f58.1, f58.2.1, f58.2.2.1, cond_false, cond_false, cond_false, show decide ((58 : UInt8) = 58) = true from rfl, cond_true, colT_cons, decide_eq_false k3, cond_false, hL, cond_true, hsc, ← List.cons_append, List.take_left]
        simp
  · rw [if_neg hn] at hm
    rw [if_neg (by omega), if_neg (by omega)]
    by_cases h2 : K = 2
    · subst h2
      rw [if_pos rfl] at hm
      rw [if_neg (by omega), if_neg (by omega), if_pos (by omega)]
      cases S with
      | nil => cases hm
      | cons b r =>
        rw [biB_cons] at hm
        simp only [Bool.and_eq_true, decide_eq_true_eq] at hm
        have hB := List.all_eq_true.1 hm.2
        obtain ⟨k1, k2, k3, k4⟩ := pB_ok b (hB b (by simp))
        refine ⟨b, r ++ t, rfl, k1, k2, ?_, by simp⟩
        have hsc : sc pB (b :: (r ++ t)) = (b :: r).length := sc_app (S := b :: r) hB hgB
        have hle : min 2 (b :: r).length = (b :: r).length := by omega
        unfold oneT
        rw [k3, k4, hB b (by simp), cond_false, cond_false, cond_true, hsc, hle, ← List.cons_append, List.take_left]
    · rw [if_neg h2] at hm
      by_cases h3 : K = 3
      · subst h3
        rw [if_pos rfl] at hm
        rw [if_neg (by omega), if_neg (by omega), if_pos (by omega)]
        cases S with
        | nil => cases hm
        | cons b r =>
          rw [nuB_cons] at hm
          simp only [Bool.and_eq_true, decide_eq_true_eq] at hm
          have hD := List.all_eq_true.1 hm.2.1
          obtain ⟨k1, k2, k3⟩ := pD_ok b (hD b (by simp))
          refine ⟨b, r ++ t, rfl, k1, k2, ?_, by simp⟩
          have hsc : sc pD (b :: (r ++ t)) = (b :: r).length := sc_app (S := b :: r) hD hgD
          unfold oneT
          rw [k3, hD b (by simp), cond_false, cond_true, hsc, ← List.cons_append, List.take_left]
      · rw [if_neg h3] at hm
        by_cases h4 : K = 4
        · subst h4
          rw [if_pos rfl]
          refine ⟨39, dbl S ++ [39] ++ t, rfl, f39.2.2.2, by decide, ?_, by simp⟩
          unfold oneT
          rw [f39.1, f39.2.1, f39.2.2.1, cond_false, cond_false, cond_false, show decide ((39 : UInt8) = 58) = false from rfl, cond_false, show decide ((39 : UInt8) = 39) = true from rfl, cond_true,
            show dbl S ++ [39] ++ t = dbl S ++ 39 :: t by simp, qd_app S t hg39]
          simp
        · rw [if_neg h4] at hm
          rw [if_neg h4]
          simp only [Bool.and_eq_true, decide_eq_true_eq, beq_iff_eq] at hm
          obtain ⟨_, rfl⟩ := hm
          by_cases h6 : K = 6
          · subst h6
            rw [if_pos rfl]
            refine ⟨58, 61 :: t, rfl, f58.2.2.2.1, by decide, ?_, by simp⟩
            unfold oneT
            rw [f58.1, f58.2.1, f58.2.2.1, cond_false, cond_false, cond_false, show decide ((58 : UInt8) = 58) = true from rfl, cond_true, colT_cons, show decide ((61 : UInt8) = 61) = true from rfl, cond_true]; rfl
          · rw [if_neg h6, if_neg (by omega)]
            have hk := okM_all (K := K) (by omega) h1
            unfold okM at hk
            simp only [Bool.and_eq_true, Bool.not_eq_true', decide_eq_true_eq, decide_eq_false_iff_not] at hk
            obtain ⟨⟨⟨⟨⟨⟨⟨⟨a1, a2⟩, a3⟩, a4⟩, a5⟩, a6⟩, a7⟩, a8⟩, a9⟩ := hk
            refine ⟨mkc K, t, rfl, a6, a7, ?_, by simp⟩
            unfold oneT
            rw [a1, a2, a3, cond_false, cond_false, cond_false, decide_eq_false a4, cond_false, decide_eq_false a5, cond_false, decide_eq_true a8, cond_true, a9]; rfl
end Go.Cq

