import Derived.Test.YtpagjhigaicfpaaDoorLaP
set_option linter.unusedSectionVars false
set_option linter.unusedVariables false
set_option linter.unusedSimpArgs false
set_option maxRecDepth 100000
set_option linter.unusedVariables false
set_option linter.unusedSimpArgs false
namespace Go.Cq
open Go Go.Av

theorem sc_lt {p : UInt8 → Bool} : ∀ (u v t : Str), sc p (u ++ v) < u.length → sc p (u ++ t) = sc p (u ++ v)
  | [], v, t, h => by simp at h
  | b :: u, v, t, h => by
    rw [List.cons_append, sc, List.length_cons] at h
    rw [List.cons_append, List.cons_append, sc, sc]
    cases hb : p b
    · rfl
    · rw [hb, cond_true] at h
      rw [cond_true, cond_true, sc_lt u v t (by omega)]
theorem cut_colon {n i : Nat} {v : Str} : cutT n (58 :: 61 :: v) i (i + 1) = none := by
  cases h : cutT n (58 :: 61 :: v) i (i + 1) with
  | none => rfl
  | some l =>
    exfalso
    cases n with
    | zero => rw [cutT, if_neg (by omega)] at h; cases h
    | succ n =>
      have e1 : oneT 58 (61 :: v) = (⟨6, [], 0⟩, 2) := by
        unfold oneT
        rw [f58.1, f58.2.1, f58.2.2.1, cond_false, cond_false, cond_false, show decide ((58 : UInt8) = 58) = true from rfl, cond_true, colT_cons, show decide ((61 : UInt8) = 61) = true from rfl, cond_true]
      rw [cutT, if_neg (by omega), f58.2.2.2.1, if_neg (by simp), if_neg (by decide), e1] at h
      simp only at h
      split at h
      · cases h
      · rw [Option.map_eq_some_iff] at h
        obtain ⟨l', h, _⟩ := h
        have := (cutT_ge _ _ _ _ _ h).1
        omega
theorem cut_ins {t : Str} (ht : Blk t) : ∀ (n : Nat) (u v : Str) (i : Nat) (pre : List lex_Word) (N : Nat), cutT n (u ++ v) i (i + u.length) = some pre → (u ++ t).length ≤ N → toks N (u ++ t) i = prep pre (toks N t (i + u.length))
  | n, [], v, i, pre, N, h, _ => by
    rw [List.length_nil, Nat.add_zero, cutT_here] at h
    obtain rfl := Option.some.inj h
    rfl
  | 0, b :: u, v, i, pre, N, h, _ => by
    rw [List.length_cons, cutT, if_neg (by omega)] at h; cases h
  | n+1, b :: u, v, i, pre, 0, h, hN => by simp at hN
  | n+1, b :: u, v, i, pre, N+1, h, hN => by
    obtain ⟨o1, o2⟩ := one_bound b (u ++ v)
    rw [List.cons_append, List.length_cons, List.length_append] at hN
    have hlast : toks (N+1) t (i + (b :: u).length) = toks N t (i + (b :: u).length) := toks_fuel _ _ _ _ (by omega) (by omega)
    rw [List.cons_append, cutT, if_neg (by rw [List.length_cons]; omega)] at h
    rw [hlast, List.cons_append, toks]
    split at h
    · rename_i hb
      rw [if_pos hb, cut_ins ht n u v (i+1) pre N (by rw [← h, List.length_cons]; congr 1; omega) (by rw [List.length_append]; omega), List.length_cons]
      congr 2; omega
    · rename_i hb
      rw [if_neg hb]
      split at h
      · rename_i h34
        rw [if_pos h34]
        split at h
        · cases h
        · rename_i hq
          have hg := (cutT_ge _ _ _ _ _ h).1
          rw [List.length_cons] at hg
          have hs := sc_lt (p := p34) u v t (by omega)
          have hd : ∀ w : Str, (u ++ w).drop (sc p34 (u ++ v) + 1) = u.drop (sc p34 (u ++ v) + 1) ++ w := fun w => List.drop_append_of_le_length (by omega)
          rw [hd] at h
          rw [hs, if_neg (by rw [List.length_append]; omega), hd, cut_ins ht n _ v _ pre N (by rw [← h, List.length_cons, List.length_drop]; congr 1; omega) (by rw [List.length_append, List.length_drop]; omega), List.length_cons, List.length_drop]
          congr 2; omega
      · rename_i h34
        rw [if_neg h34]
        split at h
        · cases h
        · rename_i hm
          rw [Option.map_eq_some_iff] at h
          obtain ⟨l', h', e'⟩ := h
          subst e'
          have h1 : (oneT b (u ++ v)).2 ≠ 0 := fun e => hm (.inl e)
          obtain ⟨m, hmm⟩ : ∃ m : Nat, (oneT b (u ++ v)).2 = (m : Int) := ⟨(oneT b (u ++ v)).2.toNat, by omega⟩
          have hmt : (oneT b (u ++ v)).2.toNat = m := by omega
          rw [hmt] at h'
          have hg := (cutT_ge _ _ _ _ _ h').1
          rw [List.length_cons] at hg
          have hd : ∀ w : Str, (b :: (u ++ w)).drop m = (b :: u).drop m ++ w := fun w => by rw [← List.cons_append]; exact List.drop_append_of_le_length (by simp; omega)
          have hsame : oneT b (u ++ t) = oneT b (u ++ v) := one_same ht hmm (by omega) (by omega) fun k e1 e2 e3 v' e4 => by
            subst e4
            rw [hd, e1, e3, List.length_cons, e2] at h'
            have := cut_colon (n := n) (i := i + u.length) (v := v')
            rw [show [58] ++ 61 :: v' = 58 :: 61 :: v' from rfl, show i + (u.length + 1) = i + u.length + 1 by omega, this] at h'
            cases h'
          rw [hd] at h'
          rw [hsame, if_neg hm, hmt, hd, cut_ins ht n _ v _ l' N (by rw [← h', List.length_cons, List.length_drop, List.length_cons]; congr 1; omega) (by rw [List.length_append, List.length_drop, List.length_cons]; omega), List.length_drop, List.length_cons]
          rw [show i + m + (u.length + 1 - m) = i + (u.length + 1) by omega]
          rfl
theorem consT_none {w : lex_Word} {t : TR} {l : List lex_Word} {p : Int} (h : consT w t = (l, p, none)) : ∃ l', t = (l', p, none) ∧ l = w :: l' := by
  obtain ⟨l', p', e⟩ := t
  cases e with
  | none => simp only [consT, Prod.mk.injEq] at h; exact ⟨l', by simp [h.2.1], h.1.symm⟩
  | some e => simp [consT] at h
theorem consT_some {w : lex_Word} {t : TR} {l : List lex_Word} {p e : Int} (h : consT w t = (l, p, some e)) : ∃ l', t = (l', p, some e) ∧ l = [] := by
  obtain ⟨l', p', e'⟩ := t
  cases e' with
  | none => simp [consT] at h
  | some e' => simp only [consT, Prod.mk.injEq] at h; exact ⟨l', by simp [h.2.1, h.2.2], h.1.symm⟩
theorem at_words : ∀ (n : Nat) (r : Str) (i : Nat) (l : List lex_Word) (p : Int), r.length ≤ n → toks n r i = (l, p, none) →
    (∀ (k : Nat) w, l[k]? = some w → ∃ o : Nat, w.At = (o : Int) ∧ cutT n r i o = some (l.take k)) ∧ cutT n r i (i + r.length) = some l ∧ p = 0
  | n, [], i, l, p, _, h => by
    have e : toks n [] i = ([], 0, none) := by cases n <;> rfl
    rw [e] at h
    simp only [Prod.mk.injEq] at h
    obtain ⟨rfl, rfl, _⟩ := h
    exact ⟨fun k w hk => by simp at hk, by rw [List.length_nil, Nat.add_zero, cutT_here], rfl⟩
  | 0, b :: r, i, l, p, hn, h => by simp at hn
  | n+1, b :: r, i, l, p, hn, h => by
    obtain ⟨o1, o2⟩ := one_bound b r
    have hsc := sc_le p34 r
    rw [List.length_cons] at hn o2 ⊢
    rw [toks] at h
    split at h
    · rename_i hb
      obtain ⟨q1, q2, q3⟩ := at_words n r (i+1) l p (by omega) h
      refine ⟨fun k w hk => ?_, ?_, q3⟩
      · obtain ⟨o, e1, e2⟩ := q1 k w hk
        have := (cutT_ge _ _ _ _ _ e2).1
        exact ⟨o, e1, by rw [cutT, if_neg (by omega), if_pos hb]; exact e2⟩
      · rw [cutT, if_neg (by omega), if_pos hb, ← q2]; congr 1; omega
    · rename_i hb
      split at h
      · rename_i h34
        split at h
        · simp at h
        · rename_i hq
          obtain ⟨q1, q2, q3⟩ := at_words n _ _ l p (by rw [List.length_drop]; omega) h
          refine ⟨fun k w hk => ?_, ?_, q3⟩
          · obtain ⟨o, e1, e2⟩ := q1 k w hk
            have := (cutT_ge _ _ _ _ _ e2).1
            exact ⟨o, e1, by rw [cutT, if_neg (by omega), if_neg hb, if_pos h34, if_neg hq]; exact e2⟩
          · rw [cutT, if_neg (by omega), if_neg hb, if_pos h34, if_neg hq, ← q2, List.length_drop]; congr 1; omega
      · rename_i h34
        split at h
        · simp at h
        · rename_i hm
          have h1 : (oneT b r).2 ≠ 0 := fun e => hm (.inl e)
          obtain ⟨l', h2, rfl⟩ := consT_none h
          obtain ⟨q1, q2, q3⟩ := at_words n _ _ l' p (by rw [List.length_drop, List.length_cons]; omega) h2
          refine ⟨fun k w hk => ?_, ?_, q3⟩
          · cases k with
            | zero => simp at hk; subst hk; exact ⟨i, rfl, by rw [cutT_here]; rfl⟩
            | succ k =>
              obtain ⟨o, e1, e2⟩ := q1 k w (by simpa using hk)
              have := (cutT_ge _ _ _ _ _ e2).1
              exact ⟨o, e1, by rw [cutT, if_neg (by omega), if_neg hb, if_neg h34, if_neg hm, e2]; rfl⟩
          · rw [cutT, if_neg (by omega), if_neg hb, if_neg h34, if_neg hm]
            rw [show i + (r.length + 1) = i + (oneT b r).2.toNat + ((b :: r).drop (oneT b r).2.toNat).length by rw [List.length_drop, List.length_cons]; omega, q2]; rfl
theorem at_err : ∀ (n : Nat) (r : Str) (i : Nat) (l : List lex_Word) (p e : Int), r.length ≤ n → toks n r i = (l, p, some e) → l = [] ∧ e = 9 ∧ ∃ (o : Nat) (pre : List lex_Word), p = (o : Int) ∧ cutT n r i o = some pre
  | n, [], i, l, p, e, _, h => by
    have e : toks n [] i = ([], 0, none) := by cases n <;> rfl
    rw [e] at h
    simp at h
  | 0, b :: r, i, l, p, e, hn, h => by simp at hn
  | n+1, b :: r, i, l, p, e, hn, h => by
    obtain ⟨o1, o2⟩ := one_bound b r
    have hsc := sc_le p34 r
    rw [List.length_cons] at hn o2
    rw [toks] at h
    split at h
    · rename_i hb
      obtain ⟨q1, q2, o, pre, q3, q4⟩ := at_err n r (i+1) l p e (by omega) h
      have := (cutT_ge _ _ _ _ _ q4).1
      exact ⟨q1, q2, o, pre, q3, by rw [cutT, if_neg (by omega), if_pos hb]; exact q4⟩
    · rename_i hb
      split at h
      · rename_i h34
        split at h
        · simp only [Prod.mk.injEq, Option.some.injEq] at h
          exact ⟨h.1.symm, h.2.2.symm, i, [], h.2.1.symm, cutT_here⟩
        · rename_i hq
          obtain ⟨q1, q2, o, pre, q3, q4⟩ := at_err n _ _ l p e (by rw [List.length_drop]; omega) h
          have := (cutT_ge _ _ _ _ _ q4).1
          exact ⟨q1, q2, o, pre, q3, by rw [cutT, if_neg (by omega), if_neg hb, if_pos h34, if_neg hq]; exact q4⟩
      · rename_i h34
        split at h
        · simp only [Prod.mk.injEq, Option.some.injEq] at h
          exact ⟨h.1.symm, h.2.2.symm, i, [], h.2.1.symm, cutT_here⟩
        · rename_i hm
          have h1 : (oneT b r).2 ≠ 0 := fun e => hm (.inl e)
          obtain ⟨l', h2, rfl⟩ := consT_some h
          obtain ⟨q1, q2, o, pre, q3, q4⟩ := at_err n _ _ l' p e (by rw [List.length_drop, List.length_cons]; omega) h2
          have := (cutT_ge _ _ _ _ _ q4).1
          exact ⟨rfl, q2, o, _, q3, by rw [cutT, if_neg (by omega), if_neg hb, if_neg h34, if_neg hm, q4]; rfl⟩
theorem cut_at : ∀ (n : Nat) (r : Str) (i en : Nat) (pre : List lex_Word), cutT n r i en = some pre → ∀ w, w ∈ pre → w.At < (en : Int)
  | n, r, i, en, pre, h, w, hw => by
    by_cases he : i = en
    · subst he
      rw [cutT_here] at h
      obtain rfl := Option.some.inj h
      simp at hw
    · match n, r, h with
      | 0, r, h => rw [cutT, if_neg he] at h; cases h
      | n+1, [], h => rw [cutT, if_neg he] at h; cases h
      | n+1, b :: r, h =>
        rw [cutT, if_neg he] at h
        split at h
        · exact cut_at n _ _ _ _ h w hw
        · split at h
          · split at h
            · cases h
            · exact cut_at n _ _ _ _ h w hw
          · split at h
            · cases h
            · rw [Option.map_eq_some_iff] at h
              obtain ⟨l', h', e'⟩ := h
              subst e'
              have hg := (cutT_ge _ _ _ _ _ h').1
              rcases List.mem_cons.1 hw with rfl | hw
              · show (i : Int) < _; omega
              · exact cut_at n _ _ _ _ h' w hw
theorem toks_at : ∀ (n : Nat) (r : Str) (i : Nat), ∀ w, w ∈ (toks n r i).1 → (i : Int) ≤ w.At
  | n, [], i, w, hw => by
    have e : toks n [] i = ([], 0, none) := by cases n <;> rfl
    rw [e] at hw; simp at hw
  | 0, b :: r, i, w, hw => by simp [toks] at hw
  | n+1, b :: r, i, w, hw => by
    rw [toks] at hw
    split at hw
    · have := toks_at n _ _ w hw; omega
    · split at hw
      · split at hw
        · simp at hw
        · have := toks_at n _ _ w hw; omega
      · split at hw
        · simp at hw
        · have hst : w ∈ ⟨(oneT b r).1.K, (oneT b r).1.S, (i : Int)⟩ :: (toks n ((b :: r).drop (oneT b r).2.toNat) (i + (oneT b r).2.toNat)).1 := by
            revert hw
            generalize toks n ((b :: r).drop (oneT b r).2.toNat) (i + (oneT b r).2.toNat) = t
            obtain ⟨l, p, e⟩ := t
            cases e <;> simp [consT]
          rcases List.mem_cons.1 hst with rfl | hst
          · exact Int.le_refl _
          · have := toks_at n _ _ w hst; omega
def shW (d : Nat) (w : lex_Word) : lex_Word := ⟨w.K, w.S, w.At + (d : Int)⟩
def shT (d : Nat) : TR → TR
  | (l, p, none) => (l.map (shW d), p, none)
  | (l, p, some e) => (l, p + (d : Int), some e)
theorem shT_cons {d : Nat} {w : lex_Word} {t : TR} : shT d (consT w t) = consT (shW d w) (shT d t) := by
  obtain ⟨l, p, e⟩ := t
  cases e <;> simp [consT, shT]
theorem mayB_nat {K : Int} {S : Str} (i j : Nat) : mayB K S (i : Int) = mayB K S (j : Int) := by
  have h1 : ¬ (i : Int) < 0 := by omega
  have h2 : ¬ (j : Int) < 0 := by omega
  unfold mayB
  rw [if_neg h1, if_neg h2]
theorem toks_sh (d : Nat) : ∀ (n : Nat) (r : Str) (i : Nat), r.length ≤ n → toks n r (i + d) = shT d (toks n r i)
  | n, [], i, _ => by
    have e : ∀ i, toks n [] i = ([], 0, none) := by intro i; cases n <;> rfl
    rw [e, e]; rfl
  | 0, b :: r, i, hn => by simp at hn
  | n+1, b :: r, i, hn => by
    obtain ⟨o1, o2⟩ := one_bound b r
    rw [List.length_cons] at hn o2
    rw [toks, toks, mayB_nat (i + d) i]
    by_cases hb : blB b = true
    · rw [if_pos hb, if_pos hb, ← toks_sh d n r (i+1) (by omega)]; congr 1; omega
    · rw [if_neg hb, if_neg hb]
      by_cases h34 : b = 34
      · rw [if_pos h34, if_pos h34]
        by_cases hq : sc p34 r = r.length
        · rw [if_pos hq, if_pos hq]; simp [shT]
        · rw [if_neg hq, if_neg hq, ← toks_sh d n _ _ (by rw [List.length_drop]; omega)]; congr 1; omega
      · rw [if_neg h34, if_neg h34]
        by_cases hm : (oneT b r).2 = 0 ∨ mayB (oneT b r).1.K (oneT b r).1.S (i : Int) = false
        · rw [if_pos hm, if_pos hm]; simp [shT]
        · have h1 : (oneT b r).2 ≠ 0 := fun e => hm (.inl e)
          rw [if_neg hm, if_neg hm, shT_cons, ← toks_sh d n _ _ (by rw [List.length_drop, List.length_cons]; omega)]
          rw [show i + d + (oneT b r).2.toNat = i + (oneT b r).2.toNat + d by omega]
          congr 1

/-! ### What may be put between -/
def mores : List Str := [[32], [9], [10], [13], [32, 34, 97, 32, 39, 91, 32, 114, 101, 109, 97, 114, 107, 34, 32]]
theorem bl4 : blB 32 = true ∧ blB 9 = true ∧ blB 10 = true ∧ blB 13 = true ∧ blB 34 = false := ⟨by kernel_rfl, by kernel_rfl, by kernel_rfl, by kernel_rfl, by kernel_rfl⟩
theorem more_ok {x : Str} (hx : x ∈ mores) : (∀ v : Str, Blk (x ++ v)) ∧ x.length ≤ 15 ∧ ∀ (n : Nat) (v : Str) (i : Nat), v.length ≤ n → toks (n + x.length) (x ++ v) i = toks n v (i + x.length) := by
  obtain ⟨a1, a2, a3, a4, a5⟩ := bl4
  have one : ∀ c, blB c = true → ∀ (n : Nat) (v : Str) (i : Nat), toks (n + 1) (c :: v) i = toks n v (i + 1) := fun c hc n v i => by rw [toks, if_pos hc]
  simp only [mores, List.mem_cons, List.not_mem_nil, or_false] at hx
  rcases hx with rfl | rfl | rfl | rfl | rfl
  · exact ⟨fun v => ⟨32, v, rfl, a1⟩, by simp, fun n v i _ => one 32 a1 n v i⟩
  · exact ⟨fun v => ⟨9, v, rfl, a2⟩, by simp, fun n v i _ => one 9 a2 n v i⟩
  · exact ⟨fun v => ⟨10, v, rfl, a3⟩, by simp, fun n v i _ => one 10 a3 n v i⟩
  · exact ⟨fun v => ⟨13, v, rfl, a4⟩, by simp, fun n v i _ => one 13 a4 n v i⟩
  · refine ⟨fun v => ⟨32, _, rfl, a1⟩, by simp, fun n v i hn => ?_⟩
    have hs : sc p34 ([97, 32, 39, 91, 32, 114, 101, 109, 97, 114, 107] ++ 34 :: 32 :: v) = 11 := sc_app (S := [97, 32, 39, 91, 32, 114, 101, 109, 97, 114, 107]) (t := 34 :: 32 :: v) (fun b hb => List.all_eq_true.1 (show ([97, 32, 39, 91, 32, 114, 101, 109, 97, 114, 107] : Str).all p34 = true from by kernel_rfl) b hb) (.inr ⟨34, 32 :: v, rfl, rfl⟩)
    show toks (n + 13 + 1 + 1) (32 :: 34 :: ([97, 32, 39, 91, 32, 114, 101, 109, 97, 114, 107] ++ 34 :: 32 :: v)) i = toks n v (i + 15)
    rw [one 32 a1, toks, a5, if_neg (by simp), if_pos rfl, hs, if_neg (by simp)]
    show toks (n + 13) (32 :: v) (i + 1 + 13) = _
    rw [show n + 13 = (n + 12) + 1 by omega, one 32 a1, toks_fuel (n + 12) n v _ (by omega) hn]
theorem prep_none {pre l : List lex_Word} {p : Int} : prep pre (l, p, none) = (pre ++ l, p, none) := by
  induction pre with
  | nil => rfl
  | cons w pre ih => show consT w (prep pre (l, p, none)) = _; rw [ih]; rfl
theorem prep_some {pre l : List lex_Word} {p e : Int} : ∃ l', prep pre (l, p, some e) = (l', p, some e) := by
  induction pre with
  | nil => exact ⟨l, rfl⟩
  | cons w pre ih => obtain ⟨l', ih⟩ := ih; exact ⟨[], by show consT w (prep pre (l, p, some e)) = _; rw [ih]; rfl⟩
/-- With blanks, or a remark, at a place where a word may begin. -/
theorem ins_eq {x : Str} (hx : x ∈ mores) {s : Str} {en : Nat} {pre : List lex_Word} (he : en ≤ s.length) (h : cutT s.length s 0 en = some pre) {N : Nat} (hN : s.length + x.length ≤ N) :
    toks s.length s 0 = prep pre (toks N (s.drop en) en) ∧ toks N (s.take en ++ x ++ s.drop en) 0 = prep pre (shT x.length (toks N (s.drop en) en)) := by
  obtain ⟨m1, m2, m3⟩ := more_ok hx
  have hd : (s.drop en).length = s.length - en := List.length_drop
  have ht : (s.take en).length = en := by rw [List.length_take]; omega
  constructor
  · rw [toks_cut s.length s 0 en pre (Nat.le_refl _) h, Nat.sub_zero, toks_fuel s.length N _ _ (by omega) (by omega)]
  · have h' : cutT s.length (s.take en ++ s.drop en) 0 (0 + (s.take en).length) = some pre := by rw [List.take_append_drop, ht, Nat.zero_add]; exact h
    rw [List.append_assoc, cut_ins (m1 (s.drop en)) s.length (s.take en) (s.drop en) 0 pre N h' (by simp only [List.length_append]; omega), Nat.zero_add, ht]
    have := m3 (N - x.length) (s.drop en) en (by omega)
    rw [show N - x.length + x.length = N by omega] at this
    rw [this, toks_fuel (N - x.length) N _ _ (by omega) (by omega), toks_sh x.length N _ _ (by omega)]
end Go.Cq

