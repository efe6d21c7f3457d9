import Derived.Test.YtpagjhigaicfpaaDoorLaB
set_option linter.unusedSectionVars false
set_option linter.unusedVariables false
set_option linter.unusedSimpArgs false
set_option maxRecDepth 100000
set_option linter.unusedVariables false
set_option linter.unusedSimpArgs false
namespace Go.Cq
open Go Go.Av

/-! ### The words ahead of a place at which one begins -/
def cutT : Nat → Str → Nat → Nat → Option (List lex_Word)
  | 0, r, i, en => if i = en then some [] else none
  | n+1, [], i, en => if i = en then some [] else none
  | n+1, b :: r, i, en =>
    if i = en then some [] else
    if blB b = true then cutT n r (i+1) en
    else if b = 34 then (if sc p34 r = r.length then none else cutT n (r.drop (sc p34 r + 1)) (i + (sc p34 r + 2)) en)
    else if (oneT b r).2 = 0 ∨ mayB (oneT b r).1.K (oneT b r).1.S (i : Int) = false then none
    else (cutT n ((b :: r).drop (oneT b r).2.toNat) (i + (oneT b r).2.toNat) en).map fun l => ⟨(oneT b r).1.K, (oneT b r).1.S, (i : Int)⟩ :: l
theorem cutT_here {n i : Nat} {r : Str} : cutT n r i i = some [] := by
  cases n with
  | zero => simp [cutT]
  | succ n => cases r <;> simp [cutT]
theorem cutT_ge : ∀ (n : Nat) (r : Str) (i en : Nat) (l : List lex_Word), cutT n r i en = some l → i ≤ en ∧ en ≤ i + r.length
  | 0, r, i, en, l, h => by
    unfold cutT at h; split at h
    · omega
    · cases h
  | n+1, [], i, en, l, h => by
    unfold cutT at h; split at h
    · omega
    · cases h
  | n+1, b :: r, i, en, l, h => by
    obtain ⟨o1, o2⟩ := one_bound b r
    have hsc := sc_le p34 r
    rw [List.length_cons] at o2 ⊢
    unfold cutT at h
    split at h
    · omega
    · split at h
      · have := cutT_ge n r (i+1) en l h; omega
      · split at h
        · split at h
          · cases h
          · have := cutT_ge n _ _ en l h; rw [List.length_drop] at this; omega
        · split at h
          · cases h
          · rw [Option.map_eq_some_iff] at h
            obtain ⟨l', h, rfl⟩ := h
            have := cutT_ge n _ _ en l' h
            rw [List.length_drop, List.length_cons] at this; omega
def prep (pre : List lex_Word) (t : TR) : TR := pre.foldr consT t
/-- More rounds turn nothing. -/
theorem toks_fuel : ∀ (n m : Nat) (r : Str) (i : Nat), r.length ≤ n → r.length ≤ m → toks n r i = toks m r i
  | n, m, [], i, _, _ => by cases n <;> cases m <;> rfl
  | 0, _, b :: r, i, h, _ => by simp at h
  | _, 0, b :: r, i, _, h => by simp at h
  | n+1, m+1, b :: r, i, hn, hm => by
    rw [List.length_cons] at hn hm
    obtain ⟨o1, o2⟩ := one_bound b r
    rw [List.length_cons] at o2
    rw [toks, toks]
    rw [toks_fuel n m r (i+1) (by omega) (by omega)]
    rw [toks_fuel n m (r.drop (sc p34 r + 1)) _ (by rw [List.length_drop]; omega) (by rw [List.length_drop]; omega)]
    by_cases h0 : (oneT b r).2 = 0 ∨ mayB (oneT b r).1.K (oneT b r).1.S (i : Int) = false
    · rw [if_pos h0, if_pos h0]
    · have h1 : (oneT b r).2 ≠ 0 := fun e => h0 (.inl e)
      rw [if_neg h0, if_neg h0, toks_fuel n m ((b :: r).drop (oneT b r).2.toNat) _ (by rw [List.length_drop, List.length_cons]; omega) (by rw [List.length_drop, List.length_cons]; omega)]
theorem toks_cut : ∀ (n : Nat) (r : Str) (i en : Nat) (pre : List lex_Word), r.length ≤ n → cutT n r i en = some pre → toks n r i = prep pre (toks n (r.drop (en - i)) en)
  | n, r, i, en, pre, hn, h => by
    by_cases he : i = en
    · subst he
      rw [cutT_here] at h
      obtain rfl := Option.some.inj h
      rw [Nat.sub_self, List.drop_zero]; rfl
    · match n, r, hn, h with
      | 0, r, hn, h => rw [cutT, if_neg he] at h; cases h
      | n+1, [], hn, h => rw [cutT, if_neg he] at h; cases h
      | n+1, b :: r, hn, h =>
        rw [List.length_cons] at hn
        obtain ⟨o1, o2⟩ := one_bound b r
        have hsc := sc_le p34 r
        rw [List.length_cons] at o2
        have hge := (cutT_ge _ _ _ _ _ h).1
        have hge2 := (cutT_ge _ _ _ _ _ h).2
        rw [List.length_cons] at hge2
        rw [cutT, if_neg he] at h
        have hlast : toks (n+1) ((b :: r).drop (en - i)) en = toks n ((b :: r).drop (en - i)) en := toks_fuel _ _ _ _ (by rw [List.length_drop, List.length_cons]; omega) (by rw [List.length_drop, List.length_cons]; omega)
        rw [hlast, toks]
        split at h
        · rename_i hb
          rw [if_pos hb, toks_cut n r (i+1) en pre (by omega) h]
          rw [show en - i = (en - (i+1)) + 1 by omega, List.drop_succ_cons]
        · rename_i hb
          rw [if_neg hb]
          split at h
          · rename_i h34
            rw [if_pos h34]
            split at h
            · cases h
            · rename_i hq
              have hg2 := (cutT_ge _ _ _ _ _ h).1
              rw [if_neg hq, toks_cut n _ _ en pre (by rw [List.length_drop]; omega) h, List.drop_drop, show en - i = (sc p34 r + 1 + (en - (i + (sc p34 r + 2)))) + 1 by omega, List.drop_succ_cons]
          · rename_i h34
            rw [if_neg h34]
            split at h
            · cases h
            · rename_i hm
              rw [Option.map_eq_some_iff] at h
              obtain ⟨l', h', e'⟩ := h
              subst e'
              have h1 : (oneT b r).2 ≠ 0 := fun e => hm (.inl e)
              have hg2 := (cutT_ge _ _ _ _ _ h').1
              rw [if_neg hm, toks_cut n _ _ en l' (by rw [List.length_drop, List.length_cons]; omega) h', List.drop_drop, show (oneT b r).2.toNat + (en - (i + (oneT b r).2.toNat)) = en - i by omega]
              rfl

/-! ### What follows a word is a blank: the word is the same -/
def Blk (t : Str) : Prop := ∃ c u, t = c :: u ∧ blB c = true
theorem blk_no (c : UInt8) (h : blB c = true) : pE c = false ∧ pD c = false ∧ pB c = false ∧ c ≠ 39 ∧ c ≠ 58 ∧ c ≠ 61 := by
  have := allB (p := fun b => !blB b || (!pE b && !pD b && !pB b && !decide (b = 39) && !decide (b = 58) && !decide (b = 61))) (by kernel_rfl) c
  simp [h] at this
  exact ⟨this.1.1.1.1.1, this.1.1.1.1.2, this.1.1.1.2, this.1.1.2, this.1.2, this.2⟩
theorem sc_same {p : UInt8 → Bool} {t : Str} (ht : ∃ c u, t = c :: u ∧ p c = false) : ∀ (u v : Str), (sc p (u ++ v) < u.length → sc p (u ++ t) = sc p (u ++ v)) ∧ (u.length ≤ sc p (u ++ v) → sc p (u ++ t) = u.length)
  | [], v => by
    obtain ⟨c, u, rfl, hc⟩ := ht
    exact ⟨fun h => by simp at h, fun _ => by simp [sc, hc]⟩
  | b :: u, v => by
    obtain ⟨h1, h2⟩ := sc_same ht u v
    rw [List.cons_append, List.cons_append, sc, sc, List.length_cons]
    cases p b
    · exact ⟨fun _ => rfl, fun h => by simp at h⟩
    · simp only [cond_true]
      exact ⟨fun h => by rw [h1 (by omega)], fun h => by rw [h2 (by omega)]⟩
theorem qd_same {t : Str} (ht : ∃ c u, t = c :: u ∧ c ≠ 39) : ∀ (n : Nat) (u v : Str) (x : Str) (z : Nat), u.length ≤ n → qd (u ++ v) = some (x, z) → z ≤ u.length → qd (u ++ t) = some (x, z)
  | n, [], v, x, z, _, h, hz => by
    have := (qd_le _ _ (Nat.le_refl _) x z h).2.2
    simp at hz; omega
  | n, [b], v, x, z, _, h, hz => by
    obtain ⟨c, u, rfl, hc⟩ := ht
    by_cases hb : b = 39
    · subst hb
      show qd (39 :: c :: u) = _
      rw [qd_lone hc]
      cases v with
      | nil => exact h
      | cons d v =>
        by_cases hd : d = 39
        · subst hd
          have h' : qd (39 :: 39 :: v) = some (x, z) := h
          rw [qd_two, Option.map_eq_some_iff] at h'
          obtain ⟨⟨y, k⟩, _, e⟩ := h'
          simp only [Prod.mk.injEq] at e
          simp at hz; omega
        · have h' : qd (39 :: d :: v) = some (x, z) := h
          rw [qd_lone hd] at h'; exact h'
    · have h' : qd (b :: v) = some (x, z) := h
      rw [qd_ne hb, Option.map_eq_some_iff] at h'
      obtain ⟨⟨y, k⟩, h2, e⟩ := h'
      simp only [Prod.mk.injEq] at e
      have := (qd_le _ _ (Nat.le_refl _) y k h2).2.2
      simp at hz; omega
  | 0, b :: c :: u, v, x, z, hn, h, hz => by simp at hn
  | n+1, b :: c :: u, v, x, z, hn, h, hz => by
    simp only [List.length_cons] at hn hz
    by_cases hb : b = 39
    · subst hb
      by_cases hc : c = 39
      · subst hc
        have h' : qd (39 :: 39 :: (u ++ v)) = some (x, z) := h
        rw [qd_two, Option.map_eq_some_iff] at h'
        obtain ⟨⟨y, k⟩, h2, e⟩ := h'
        simp only [Prod.mk.injEq] at e
        show qd (39 :: 39 :: (u ++ t)) = _
        rw [qd_two, qd_same ht n u v y k (by omega) h2 (by omega)]
        simp [e]
      · have h' : qd (39 :: c :: (u ++ v)) = some (x, z) := h
        rw [qd_lone hc] at h'
        show qd (39 :: c :: (u ++ t)) = _
        rw [qd_lone hc]; exact h'
    · have h' : qd (b :: ((c :: u) ++ v)) = some (x, z) := h
      rw [qd_ne hb, Option.map_eq_some_iff] at h'
      obtain ⟨⟨y, k⟩, h2, e⟩ := h'
      simp only [Prod.mk.injEq] at e
      show qd (b :: ((c :: u) ++ t)) = _
      rw [qd_ne hb, qd_same ht n (c :: u) v y k (by simp; omega) h2 (by simp; omega)]
      simp [e]
theorem take_same {k : Nat} {u v t : Str} (h : k ≤ u.length) : (u ++ t).take k = (u ++ v).take k := by
  rw [List.take_append_of_le_length h, List.take_append_of_le_length h]
theorem pL_pE {b : UInt8} (h : pL b = true) : pE b = true := by unfold pL at h; unfold pE; rw [h]; rfl
/-- The word at the head of 'u', where 'u' is more than the word, or just it, is the same ahead of a blank. -/
theorem one_same {b : UInt8} {u v t : Str} (ht : Blk t) {m : Nat} (h1 : (oneT b (u ++ v)).2 = (m : Int)) (h0 : m ≠ 0) (hm : m ≤ u.length + 1)
    (hkey : ∀ k, m = k → k = u.length → (b :: u).drop k = [58] → ∀ v', v ≠ 61 :: v') : oneT b (u ++ t) = oneT b (u ++ v) := by
  obtain ⟨c, t', rfl, hc⟩ := ht
  obtain ⟨n1, n2, n3, n4, n5, n6⟩ := blk_no c hc
  have hE := sc_same (p := pE) ⟨c, t', rfl, n1⟩
  have hD := sc_same (p := pD) ⟨c, t', rfl, n2⟩
  have hB := sc_same (p := pB) ⟨c, t', rfl, n3⟩
  unfold oneT at h1 ⊢
  cases hL : pL b with
  | true =>
    simp only [hL, cond_true] at h1 ⊢
    have hk := hE (b :: u) v
    rw [List.cons_append, List.cons_append, List.length_cons] at hk
    generalize hsc : sc pE (b :: (u ++ v)) = k at h1 hk ⊢
    rcases Nat.lt_or_ge k (u.length + 1) with hlt | hge
    · rw [hk.1 hlt, ← List.cons_append, ← List.cons_append, take_same (u := b :: u) (v := v) (by simp; omega)]
      have ed : ∀ w : Str, ((b :: u) ++ w).drop k = (b :: u).drop k ++ w := fun w => List.drop_append_of_le_length (by simp; omega)
      rw [ed, ed]
      rw [← List.cons_append, ed] at h1
      obtain ⟨d, w, hd⟩ : ∃ d w, (b :: u).drop k = d :: w := by
        cases hdk : (b :: u).drop k with
        | nil => have := congrArg List.length hdk; simp at this; omega
        | cons d w => exact ⟨d, w, rfl⟩
      have hkk : isKey ((b :: u).drop k ++ c :: t') = isKey ((b :: u).drop k ++ v) := by
        rw [hd] at h1 ⊢
        cases w with
        | cons e w => rfl
        | nil =>
          have hku : k = u.length := by have := congrArg List.length hd; simp at this; omega
          cases v with
          | nil => simp [isKey, n6]
          | cons e v =>
            by_cases he : e = 61
            · subst he
              by_cases hd58 : d = 58
              · subst hd58
                exfalso
                have hm2 : m = k := by
                  have : isKey ([58] ++ 61 :: v) = false := by simp [isKey]
                  rw [this, cond_false] at h1
                  simp only at h1; omega
                exact hkey k hm2 hku hd v rfl
              · simp [isKey, hd58]
            · simp [isKey, he, n6]
      rw [hkk]
    · have hkeyF : isKey ((b :: (u ++ v)).drop k) = false := by
        cases hkk : isKey ((b :: (u ++ v)).drop k) with
        | false => rfl
        | true => rw [hkk, cond_true] at h1; simp only at h1; omega
      rw [hkeyF, cond_false] at h1 ⊢
      simp only at h1
      have hku : k = u.length + 1 := by omega
      rw [hk.2 hge, hku, ← List.cons_append, ← List.cons_append, show u.length + 1 = (b :: u).length by simp, List.drop_left, List.take_left, List.take_left]
      have : isKey (c :: t') = false := by cases t' <;> simp [isKey, n5]
      rw [this, cond_false]
  | false =>
    simp only [hL, cond_false] at h1 ⊢
    cases hD' : pD b with
    | true =>
      simp only [hD', cond_true] at h1 ⊢
      have hk := hD (b :: u) v
      rw [List.cons_append, List.cons_append, List.length_cons] at hk
      have hk2 : sc pD (b :: (u ++ c :: t')) = sc pD (b :: (u ++ v)) := by
        rcases Nat.lt_or_ge (sc pD (b :: (u ++ v))) (u.length + 1) with hlt | hge
        · exact hk.1 hlt
        · rw [hk.2 hge]; omega
      rw [hk2, ← List.cons_append, ← List.cons_append, take_same (u := b :: u) (v := v) (by simp only [List.length_cons, List.cons_append]; omega)]
    | false =>
      simp only [hD', cond_false] at h1 ⊢
      cases hB' : pB b with
      | true =>
        simp only [hB', cond_true] at h1 ⊢
        have hk := hB (b :: u) v
        rw [List.cons_append, List.cons_append, List.length_cons] at hk
        have hk2 : min 2 (sc pB (b :: (u ++ c :: t'))) = min 2 (sc pB (b :: (u ++ v))) := by
          rcases Nat.lt_or_ge (sc pB (b :: (u ++ v))) (u.length + 1) with hlt | hge
          · rw [hk.1 hlt]
          · rw [hk.2 hge]; omega
        rw [hk2, ← List.cons_append, ← List.cons_append, take_same (u := b :: u) (v := v) (by simp only [List.length_cons, List.cons_append]; omega)]
      | false =>
        simp only [hB', cond_false] at h1 ⊢
        cases h58 : decide (b = 58) with
        | true =>
          simp only [h58, cond_true] at h1 ⊢
          cases u with
          | nil =>
            exfalso
            simp at hm
            have hm1 : m = 1 := by omega
            cases v with
            | nil => simp [colT] at h1; omega
            | cons d v =>
              rw [List.nil_append, colT_cons] at h1
              cases hd : decide (d = 61) with
              | true => rw [hd, cond_true] at h1; simp only at h1; omega
              | false =>
                rw [hd, cond_false] at h1
                cases hdL : pL d with
                | true =>
                  rw [hdL, cond_true] at h1
                  simp only at h1
                  have : sc pE (d :: v) ≠ 0 := by rw [sc_pos (pL_pE hdL)]; omega
                  omega
                | false => rw [hdL, cond_false] at h1; simp only at h1; omega
          | cons d u =>
            rw [List.cons_append, List.cons_append, colT_cons, colT_cons]
            rw [List.cons_append, colT_cons] at h1
            cases hd : decide (d = 61) with
            | true => rw [cond_true, cond_true]
            | false =>
              rw [hd, cond_false] at h1
              rw [cond_false, cond_false]
              cases hdL : pL d with
              | true =>
                rw [hdL, cond_true] at h1
                rw [cond_true, cond_true]
                simp only [List.length_cons] at h1 hm
                have hk := hE (d :: u) v
                rw [List.cons_append, List.cons_append, List.length_cons] at hk
                have hk2 : sc pE (d :: (u ++ c :: t')) = sc pE (d :: (u ++ v)) := by
                  rcases Nat.lt_or_ge (sc pE (d :: (u ++ v))) (u.length + 1) with hlt | hge
                  · exact hk.1 hlt
                  · rw [hk.2 hge]; omega
                rw [hk2, ← List.cons_append, ← List.cons_append, take_same (u := d :: u) (v := v) (by simp only [List.length_cons, List.cons_append]; omega)]
              | false => rw [cond_false, cond_false]
        | false =>
          simp only [h58, cond_false] at h1 ⊢
          cases h39 : decide (b = 39) with
          | true =>
            simp only [h39, cond_true] at h1 ⊢
            cases hq : qd (u ++ v) with
            | none => rw [hq] at h1; simp only at h1; omega
            | some z =>
              obtain ⟨x, z⟩ := z
              rw [hq] at h1
              simp only at h1
              rw [qd_same ⟨c, t', rfl, n4⟩ u.length u v x z (Nat.le_refl _) hq (by omega)]
          | false => simp only [cond_false]
end Go.Cq

