import Derived.Test.YtpagjhigaicfpaaDoorLaQ
set_option linter.unusedSectionVars false
set_option linter.unusedVariables false
set_option linter.unusedSimpArgs false
set_option maxRecDepth 100000
set_option linter.unusedVariables false
set_option linter.unusedSimpArgs false
namespace Go.Cq
open Go Go.Av

def mvW (en d : Nat) (w : lex_Word) : lex_Word := if (en : Int) ≤ w.At then shW d w else w
theorem ap_l1 {l : List lex_Word} {en : Nat} {x : Str} (hx : x.length ≤ 15) {p p' : Int} {e e' : Option Int} (hl : l.length ≤ 70000) (hat : ∀ w, w ∈ l → 0 ≤ w.At ∧ w.At ≤ 100000) {K : Unit → Option Bool} (hK : K () = some true) :
    ∀ (n j q : Nat), l.length - j = n → j ≤ l.length → n < q → law13_LexApart_l1 (l, p, e) (en : Int) x (l.map (mvW en x.length), p', e') K q (j : Int) = some true
  | 0, j, q+1, hn, hj, _ => by
    have : j = l.length := by omega
    subst this
    rw [law13_LexApart_l1]
    simp only
    rw [ge_len, if_neg (by simp), hK]
  | n+1, j, q+1, hn, hj, hq => by
    have hjl : j < l.length := by omega
    obtain ⟨w, hw⟩ : ∃ w, l[j]? = some w := ⟨l[j], List.getElem?_eq_getElem hjl⟩
    obtain ⟨a1, a2⟩ := hat w (List.mem_of_getElem? hw)
    have hw2 : (l.map (mvW en x.length))[j]? = some (mvW en x.length w) := by simp [hw]
    rw [law13_LexApart_l1]
    simp only
    rw [lt_len hjl, if_pos rfl, lAt_nat hw, Option.bind_some, lAt_nat hw2]
    have hy : (if decide ((en : Int) ≤ w.At) = true then (ck (w.At + (x.length : Int))).bind fun v55 => some v55 else some w.At) = some (mvW en x.length w).At := by
      unfold mvW
      by_cases h : (en : Int) ≤ w.At
      · rw [if_pos (by simpa using h), if_pos h, ck_of (by omega) (by omega)]; rfl
      · rw [if_neg (by simpa using h), if_neg h]
    have hKS : (mvW en x.length w).K = w.K ∧ (mvW en x.length w).S = w.S := by unfold mvW; split <;> exact ⟨rfl, rfl⟩
    rw [hy, Option.bind_some, Option.bind_some, hKS.1, hKS.2, if_neg (by simp), if_neg (by simp), Option.bind_some, if_neg (by simp), cks (by omega), Option.bind_some]
    exact ap_l1 hx hl hat hK n (j+1) q (by omega) (by omega) (by omega)
  | _, _, 0, _, _, hq => by omega
theorem toks_max : ∀ (n : Nat) (r : Str) (i : Nat), (toks n r i).1.length ≤ r.length ∧ ∀ w, w ∈ (toks n r i).1 → w.At ≤ ((i + r.length : Nat) : Int)
  | n, [], i => by
    have e : toks n [] i = ([], 0, none) := by cases n <;> rfl
    rw [e]; simp
  | 0, b :: r, i => by simp [toks]
  | n+1, b :: r, i => by
    obtain ⟨o1, o2⟩ := one_bound b r
    rw [List.length_cons] at o2 ⊢
    rw [toks]
    split
    · obtain ⟨h1, h2⟩ := toks_max n r (i+1)
      exact ⟨by omega, fun w hw => by have := h2 w hw; omega⟩
    · split
      · split
        · simp
        · obtain ⟨h1, h2⟩ := toks_max n (r.drop (sc p34 r + 1)) (i + (sc p34 r + 2))
          have := sc_le p34 r
          rw [List.length_drop] at h1 h2
          exact ⟨by omega, fun w hw => by have := h2 w hw; omega⟩
      · split
        · simp
        · rename_i hm
          have h0 : (oneT b r).2 ≠ 0 := fun e => hm (.inl e)
          obtain ⟨h1, h2⟩ := toks_max n ((b :: r).drop (oneT b r).2.toNat) (i + (oneT b r).2.toNat)
          rw [List.length_drop, List.length_cons] at h1 h2
          revert h1 h2
          generalize toks n ((b :: r).drop (oneT b r).2.toNat) (i + (oneT b r).2.toNat) = t
          obtain ⟨l, p, e⟩ := t
          intro h1 h2
          cases e with
          | none =>
            refine ⟨by simp only [consT, List.length_cons]; simp only at h1; omega, fun w hw => ?_⟩
            simp only [consT] at hw
            rcases List.mem_cons.1 hw with rfl | hw
            · show (i : Int) ≤ _; omega
            · have := h2 w hw; omega
          | some e => simp [consT]
/-- The words with more put between, where one stands, or where none can be read, or at the end. -/
theorem put_words {x : Str} (hx : x ∈ mores) {s : Str} (hs : s.length ≤ 60000) {en : Nat} {pre : List lex_Word} (h : cutT s.length s 0 en = some pre) :
    (∀ l, toks s.length s 0 = (l, 0, none) → wordsB (s.take en ++ x ++ s.drop en) = (l.map (mvW en x.length), 0, none)) ∧
    (∀ l e, toks s.length s 0 = (l, (en : Int), some e) → ∃ l', wordsB (s.take en ++ x ++ s.drop en) = (l', ((en + x.length : Nat) : Int), some e)) := by
  obtain ⟨_, m2, _⟩ := more_ok hx
  have he : en ≤ s.length := by have := (cutT_ge _ _ _ _ _ h).2; omega
  have hlen : (s.take en ++ x ++ s.drop en).length = s.length + x.length := by simp only [List.length_append, List.length_take, List.length_drop]; omega
  obtain ⟨i1, i2⟩ := ins_eq hx he h (N := s.length + x.length) (Nat.le_refl _)
  have hw : wordsB (s.take en ++ x ++ s.drop en) = match prep pre (shT x.length (toks (s.length + x.length) (s.drop en) en)) with | (l, _, none) => (l, 0, none) | (_, p, some e) => ([], p, some e) := by
    have hn : ¬ 65536 < (s.take en ++ x ++ s.drop en).length := by omega
    unfold wordsB
    rw [if_neg hn, hlen, i2]
    rfl
  rw [hw, i1]
  have hat := toks_at (s.length + x.length) (s.drop en) en
  have hpre := cut_at _ _ _ _ _ h
  revert hat
  generalize toks (s.length + x.length) (s.drop en) en = t
  obtain ⟨l2, p2, e2⟩ := t
  intro hat
  constructor
  · intro l hl
    cases e2 with
    | none =>
      rw [prep_none] at hl
      simp only [Prod.mk.injEq] at hl
      obtain ⟨rfl, _, _⟩ := hl
      simp only [shT, prep_none, List.map_append]
      congr 2
      · rw [List.map_congr_left (g := id) fun w hw => by unfold mvW; rw [if_neg (by have := hpre w hw; omega)]; rfl, List.map_id]
      · exact List.map_congr_left fun w hw => by unfold mvW; rw [if_pos (hat w hw)]
    | some e => obtain ⟨l', hp⟩ := prep_some (pre := pre) (l := l2) (p := p2) (e := e); rw [hp] at hl; simp at hl
  · intro l e hl
    cases e2 with
    | none => rw [prep_none] at hl; simp at hl
    | some e3 =>
      obtain ⟨l', hp⟩ := prep_some (pre := pre) (l := l2) (p := p2) (e := e3)
      rw [hp] at hl
      simp only [Prod.mk.injEq, Option.some.injEq] at hl
      obtain ⟨_, rfl, rfl⟩ := hl
      obtain ⟨l'', hp2⟩ := prep_some (pre := pre) (l := l2) (p := (en : Int) + (x.length : Int)) (e := e3)
      simp only [shT, hp2]
      exact ⟨_, rfl⟩
theorem rem5 {b : Int} (h0 : 0 ≤ b) (h1 : b ≤ 255) : ∃ i : Nat, i < 5 ∧ rem b 5 = some (i : Int) := by
  refine ⟨(b.tmod 5).toNat, ?_, ?_⟩
  · have := Int.tmod_lt_of_pos b (b := 5) (by omega)
    have h2 := Int.tmod_nonneg 5 h0
    omega
  · unfold rem
    have h2 := Int.tmod_nonneg 5 h0
    rw [if_pos (by omega), Int.toNat_of_nonneg h2]
theorem remk {k : Int} {n : Nat} (hn : 0 < n) (hn2 : n ≤ 100000) : ∃ i : Nat, i < n ∧ ((rem k (n : Int)).bind fun v8 => (if decide (v8 < 0) = true then (ck (v8 + (n : Int))).bind fun v12 => some v12 else some v8)) = some (i : Int) := by
  unfold rem
  rw [if_pos (by omega), Option.bind_some]
  have h1 := Int.tmod_lt_of_pos k (b := (n : Int)) (by omega)
  have h2 : -(n : Int) < k.tmod n := by
    have h3 := Int.tmod_lt_of_pos (-k) (b := (n : Int)) (by omega)
    rw [Int.neg_tmod] at h3; omega
  by_cases h : k.tmod n < 0
  · refine ⟨(k.tmod n + n).toNat, by omega, ?_⟩
    rw [if_pos (by simpa using h), ck_of (by omega) (by omega), Option.bind_some, Int.toNat_of_nonneg (by omega)]
  · exact ⟨(k.tmod n).toNat, by omega, by rw [if_neg (by simpa using h), Int.toNat_of_nonneg (by omega)]⟩
theorem ap_fin {s : Str} {b : Int} (hs : s.length ≤ 60000) {x : Str} (hxm : x ∈ mores) {i5 : Nat} (e5 : rem b 5 = some (i5 : Int)) (hmx : lAt ([[32], [9], [10], [13], [32, 34, 97, 32, 39, 91, 32, 114, 101, 109, 97, 114, 107, 34, 32]] : List Str) (i5 : Int) = some x)
    (en : Nat) (pre : List lex_Word) (hc : cutT s.length s 0 en = some pre) (l : List lex_Word) (p : Int) (e : Option Int) (hn : e = none → toks s.length s 0 = (l, 0, none)) (he : ∀ c, e = some c → c = 9 ∧ p = (en : Int) ∧ ∃ l', toks s.length s 0 = (l', (en : Int), some c)) :
      ((rem b 5).bind fun v20 => (lAt ([[32], [9], [10], [13], [32, 34, 97, 32, 39, 91, 32, 114, 101, 109, 97, 114, 107, 34, 32]] : List Str) v20).bind fun v23 => (sub s 0 (en : Int)).bind fun v26 => (cat v26 v23).bind fun v29 => (sub s (en : Int) (s.length : Int)).bind fun v32 => (cat v29 v32).bind fun v35 =>
        (lex_Words v35).bind fun v36 => (law_num e).bind fun v37 => (law_num v36.2.2).bind fun v38 => if (!decide (v37 = v38)) = true then some false else
          if e.isSome = true then (if decide (v37 = 9) = true then (ck (p + (v23.length : Int))).bind fun v43 => if decide (v36.2.1 = v43) = true then (law13_sure).bind fun v45 => some v45 else some false else some false).bind fun y39 => some y39
          else if (!decide ((l.length : Int) = (v36.1.length : Int))) = true then some false
          else law13_LexApart_l1 (l, p, e) (en : Int) v23 v36 (fun (_ : Unit) => (law13_sure).bind fun v73 => some v73) fuel 0) = some true := by
    have hmax := toks_max s.length s 0
    obtain ⟨_, m2, _⟩ := more_ok hxm
    have hen : en ≤ s.length := by have := (cutT_ge _ _ _ _ _ hc).2; omega
    obtain ⟨p1, p2⟩ := put_words hxm (by omega) hc
    have s1 : sub s 0 (en : Int) = some (s.take en) := by
      unfold sub; rw [if_pos (by omega)]; simp
    have s2 : sub s (en : Int) (s.length : Int) = some (s.drop en) := sub_rest hen
    rw [e5, Option.bind_some, hmx, Option.bind_some, s1, Option.bind_some, cat_of (by rw [List.length_take]; omega), Option.bind_some, s2, Option.bind_some, cat_of (by simp only [List.length_append, List.length_take, List.length_drop]; omega), Option.bind_some, words_B, Option.bind_some, num_code, Option.bind_some]
    cases e with
    | none =>
      have ht := hn rfl
      rw [ht] at hmax
      rw [p1 l ht]
      simp only [num_code, code, Option.bind_some, Option.isSome_none, decide_true, Bool.not_true, Bool.false_eq_true, if_false, List.length_map]
      have hK : (law13_sure).bind (fun v73 => some v73) = some true := by rw [sure_ok]; rfl
      have hat0 := toks_at s.length s 0
      rw [ht] at hat0
      have := ap_l1 (K := fun (_ : Unit) => (law13_sure).bind fun v73 => some v73) (l := l) (en := en) (x := x) m2 (p := p) (p' := 0) (e := none) (e' := none) (by have := hmax.1; simp only at this; omega) (fun w hw => ⟨by have := hat0 w hw; omega, by have := hmax.2 w hw; omega⟩) hK l.length 0 fuel (by omega) (Nat.zero_le _) (by have := hmax.1; simp only at this; unfold fuel; omega)
      rw [show ((0 : Nat) : Int) = 0 from rfl] at this
      exact this
    | some c =>
      obtain ⟨rfl, rfl, l', ht⟩ := he c rfl
      obtain ⟨l'', hw2⟩ := p2 l' 9 ht
      rw [hw2]
      simp only [num_code, code, Option.bind_some, Option.isSome_some, decide_true, Bool.not_true, Bool.false_eq_true, if_false, if_true]
      rw [ck_of (by omega) (by omega), Option.bind_some, if_pos (by simp), sure_ok]; rfl
theorem law_apart {s : Str} {k b : Int} (h0 : 0 ≤ b) (h1 : b ≤ 255) : law13_LexApart s k b = some true := by
  unfold law13_LexApart
  by_cases hs : 60000 < s.length
  · rw [if_pos (by simp; omega), sure_ok, Option.bind_some]
  rw [if_neg (by simp; omega), words_B, Option.bind_some]
  obtain ⟨i5, hi5, e5⟩ := rem5 h0 h1
  obtain ⟨x, hx⟩ : ∃ x, mores[i5]? = some x := ⟨mores[i5]'(by simpa [mores] using hi5), List.getElem?_eq_getElem _⟩
  have hxm : x ∈ mores := List.mem_of_getElem? hx
  have hmx : lAt ([[32], [9], [10], [13], [32, 34, 97, 32, 39, 91, 32, 114, 101, 109, 97, 114, 107, 34, 32]] : List Str) (i5 : Int) = some x := lAt_nat hx
  have hmax := toks_max s.length s 0
  have hn6 : ¬ 65536 < s.length := by omega
  cases ht : toks s.length s 0 with
  | mk l pe =>
    obtain ⟨p, e⟩ := pe
    cases e with
    | none =>
      obtain ⟨q1, q2, rfl⟩ := at_words s.length s 0 l p (Nat.le_refl _) ht
      have hw : wordsB s = (l, 0, none) := by unfold wordsB; rw [if_neg hn6, ht]
      rw [hw]
      simp only [letK_e, Option.isNone_none, Bool.true_and]
      by_cases hl : 0 < l.length
      · have hll : l.length ≤ 100000 := by rw [ht] at hmax; have := hmax.1; simp only at this; omega
        obtain ⟨i, hi, ei⟩ := remk (k := k) hl hll
        obtain ⟨w, hwi⟩ : ∃ w, l[i]? = some w := ⟨l[i], List.getElem?_eq_getElem hi⟩
        obtain ⟨o, o1, o2⟩ := q1 i w hwi
        have hd : decide ((0 : Int) < (l.length : Int)) = true := decide_eq_true (by omega)
        rw [if_pos hd]
        have e9 : ((rem k (l.length : Int)).bind fun v8 => (if decide (v8 < 0) = true then (ck (v8 + (l.length : Int))).bind fun v12 => some v12 else some v8).bind fun y9 => (lAt l y9).bind fun v15 => some v15.At) = some (o : Int) := by
          rw [← Option.bind_assoc, ei, Option.bind_some, lAt_nat hwi, Option.bind_some, o1]
        rw [e9, Option.bind_some]
        exact ap_fin (by omega) hxm e5 hmx o _ o2 l 0 none (fun _ => ht) (fun c hc => by cases hc)
      · have hd : ¬ decide ((0 : Int) < (l.length : Int)) = true := by rw [decide_eq_true_eq]; omega
        rw [if_neg hd]
        simp only [Option.isSome_none, ifF, bindS]
        rw [Nat.zero_add] at q2
        have := ap_fin (by omega) hxm e5 hmx s.length l q2 l 0 none (fun _ => ht) (fun c hc => by cases hc)
        simp only [Option.isSome_none, ifF] at this
        exact this
    | some c =>
      obtain ⟨rfl, rfl, o, pre, rfl, q4⟩ := at_err s.length s 0 l p c (Nat.le_refl _) ht
      have hw : wordsB s = ([], (o : Int), some 9) := by unfold wordsB; rw [if_neg hn6, ht]
      rw [hw]
      simp only [letK_e, Option.isNone_some, Bool.false_and, ifF, Option.isSome_some, ifT, ifTr, bindS]
      have := ap_fin (by omega) hxm e5 hmx o pre q4 [] (o : Int) (some 9) (fun h => by cases h) (fun c hc => ⟨by cases hc; rfl, rfl, _, by cases hc; exact ht⟩)
      simp only [Option.isSome_some, ifT, ifTr] at this
      exact this
end Go.Cq

