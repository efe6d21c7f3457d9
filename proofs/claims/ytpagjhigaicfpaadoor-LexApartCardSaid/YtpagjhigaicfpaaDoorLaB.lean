import Derived.Test.YtpagjhigaicfpaaDoorLaT
set_option linter.unusedSectionVars false
set_option linter.unusedVariables false
set_option linter.unusedSimpArgs false
set_option maxRecDepth 100000
set_option linter.unusedVariables false
set_option linter.unusedSimpArgs false
namespace Go.Cq
open Go Go.Av

/-! ### Words that may be, written, are read as the same ones -/
def offs : Nat → List ref13_Word → List lex_Word
  | _, [] => []
  | i, w :: r => ⟨w.K, w.S, (i : Int)⟩ :: offs (i + (pc w).length + 1) r
theorem offs_len : ∀ (i : Nat) (l : List ref13_Word), (offs i l).length = l.length
  | _, [] => rfl
  | i, w :: r => by simp [offs, offs_len]
def jt (l : List ref13_Word) : Str := Lib.joinTail [32] (l.map pc)
theorem jt_cons (w : ref13_Word) (r : List ref13_Word) : jt (w :: r) = 32 :: (pc w ++ jt r) := by simp [jt, Lib.joinTail]
theorem jt_gap (l : List ref13_Word) : Gap (jt l) := by
  cases l with
  | nil => exact .inl rfl
  | cons w r => exact .inr ⟨_, jt_cons w r⟩
theorem blB32 : blB 32 = true := by kernel_rfl
theorem tok_word {w : ref13_Word} (h0 : 0 ≤ w.K) (hm : okW w = true) {t : Str} (ht : Gap t) (n i : Nat) : toks (n+1) (pc w ++ t) i = consT ⟨w.K, w.S, (i : Int)⟩ (toks n t (i + (pc w).length)) := by
  obtain ⟨b, r, e1, e2, e3, e4, e5⟩ := one_at h0 hm ht
  rw [e1, toks, e2, if_neg (by simp), if_neg e3, e4]
  simp only
  rw [if_neg (by
    rintro (h | h)
    · omega
    · rw [mayB_at hm] at h; cases h), Int.toNat_natCast, ← e1, List.drop_left]
theorem tok_tail : ∀ (l : List ref13_Word) (n i : Nat), (∀ w, w ∈ l → 0 ≤ w.K ∧ okW w = true) → (jt l).length ≤ n → toks n (jt l) i = (offs (i + 1) l, 0, none)
  | [], n, i, _, _ => by cases n <;> rfl
  | w :: r, n, i, h, hn => by
    obtain ⟨h0, hm⟩ := h w (by simp)
    have hp := (one_at h0 hm (jt_gap r))
    obtain ⟨_, _, _, _, _, _, hpos⟩ := hp
    rw [jt_cons] at hn ⊢
    simp only [List.length_cons, List.length_append] at hn
    obtain ⟨n, rfl⟩ : ∃ n', n = n' + 2 := ⟨n - 2, by omega⟩
    rw [toks, blB32, if_pos rfl, tok_word h0 hm (jt_gap r), tok_tail r n _ (fun w hw => h w (by simp [hw])) (by omega)]
    simp [consT, offs]
theorem tok_join {l : List ref13_Word} (h : ∀ w, w ∈ l → 0 ≤ w.K ∧ okW w = true) {n : Nat} (hn : (Lib.join (l.map pc) [32]).length ≤ n) : toks n (Lib.join (l.map pc) [32]) 0 = (offs 0 l, 0, none) := by
  cases l with
  | nil => cases n <;> rfl
  | cons w r =>
    obtain ⟨h0, hm⟩ := h w (by simp)
    obtain ⟨_, _, _, _, _, _, hpos⟩ := one_at h0 hm (jt_gap r)
    rw [List.map_cons, Lib.join_cons] at hn ⊢
    simp only [List.length_append] at hn
    obtain ⟨n, rfl⟩ : ∃ n', n = n' + 1 := ⟨n - 1, by omega⟩
    have := tok_word h0 hm (jt_gap r) n 0
    unfold jt at this
    rw [this]
    have h2 := tok_tail r n (0 + (pc w).length) (fun w hw => h w (by simp [hw])) (by show (Lib.joinTail [32] (r.map pc)).length ≤ n; omega)
    unfold jt at h2
    rw [h2]; simp [consT, offs]
/-- Where each word stands. -/
theorem offs_at {s : Str} : ∀ (l : List ref13_Word) (i : Nat), s.drop i = jt l → i ≤ s.length → ∀ (k : Nat) w, l[k]? = some w → ∃ o, (offs (i + 1) l)[k]? = some ⟨w.K, w.S, (o : Nat)⟩ ∧ (∃ t, s.drop o = pc w ++ t) ∧ 0 < o ∧ s[o - 1]? = some 32 ∧ o ≤ s.length
  | [], i, h, hi, k, w, hk => by simp at hk
  | w :: r, i, h, hi, 0, w', hk => by
    simp at hk; subst hk
    rw [jt_cons] at h
    obtain ⟨h1, h2, h3⟩ := getDrop h
    exact ⟨i + 1, rfl, ⟨_, h2⟩, by omega, by simpa using h1, h3⟩
  | w :: r, i, h, hi, k+1, w', hk => by
    rw [jt_cons] at h
    obtain ⟨h1, h2, h3⟩ := getDrop h
    have h4 : s.drop (i + 1 + (pc w).length) = jt r := by rw [← List.drop_drop, h2, List.drop_left]
    have h5 : i + 1 + (pc w).length ≤ s.length := by
      have := congrArg List.length h2
      simp only [List.length_drop, List.length_append] at this; omega
    obtain ⟨o, q1, q2⟩ := offs_at r (i + 1 + (pc w).length) h4 h5 k w' (by simpa using hk)
    exact ⟨o, by simpa [offs] using q1, q2⟩
theorem offs_all {l : List ref13_Word} {s : Str} (hs : s = Lib.join (l.map pc) [32]) {k : Nat} {w : ref13_Word} (hk : l[k]? = some w) : ∃ o, (offs 0 l)[k]? = some ⟨w.K, w.S, (o : Nat)⟩ ∧ (∃ t, s.drop o = pc w ++ t) ∧ (k = 0 → o = 0) ∧ (0 < k → 0 < o ∧ s[o - 1]? = some 32) ∧ o ≤ s.length := by
  cases l with
  | nil => simp at hk
  | cons w0 r =>
    have h1 : s = pc w0 ++ jt r := by rw [hs, List.map_cons, Lib.join_cons]; rfl
    cases k with
    | zero =>
      simp at hk; subst hk
      exact ⟨0, rfl, ⟨_, by simpa using h1⟩, fun _ => rfl, fun h => by omega, Nat.zero_le _⟩
    | succ k =>
      obtain ⟨o, q1, q2, q3, q4, q5⟩ := offs_at (s := s) r (pc w0).length (by rw [h1, List.drop_left]) (by rw [h1]; simp) k w (by simpa using hk)
      exact ⟨o, by simpa [offs] using q1, q2, fun h => by omega, fun _ => ⟨q3, q4⟩, q5⟩
theorem text_one {w : ref13_Word} (hl : w.S.length ≤ 1000000) (h0 : 0 ≤ w.K) (hm : okW w = true) : lex_Text [ucv w] = some (pc w, none) := by
  have hs : Sm [w] := ⟨by simp, fun w' hw' => by simp at hw'; subst hw'; exact ⟨hl, h0⟩⟩
  have hp := pc_len hm
  have := textl_eq hs
  rw [List.map_cons, List.map_nil] at this
  rw [this]
  unfold textB
  rw [if_pos (by simp [hm]), if_pos (by simp only [List.map_cons, List.map_nil, fits]; rw [if_neg (by omega)]), List.map_cons, List.map_nil, Lib.join_one]
theorem sIdx_nat {s : Str} {j : Nat} {b : UInt8} (h : s[j]? = some b) : sIdx s (j : Int) = some (b.toNat : Int) := by
  have := (List.getElem?_eq_some_iff.1 h).1
  unfold sIdx
  rw [if_pos (by omega)]
  simp [List.getD_eq_getElem?_getD, h]
theorem lb_l2 {l : List ref13_Word} (hl : Sm l) (hok : ∀ w, w ∈ l → 0 ≤ w.K ∧ okW w = true) {s : Str} (hs : s = Lib.join (l.map pc) [32]) (hsl : s.length ≤ 65536) {K21 : Unit → Option Bool} (hK : K21 () = some true) :
    ∀ (n j q : Nat), l.length - j = n → j ≤ l.length → n < q → law13_LexBack_l2 (l.map ucv) (s, none) (offs 0 l, 0, none) K21 q (j : Int) = some true
  | 0, j, q+1, hn, hj, _ => by
    have hj2 : j = (offs 0 l).length := by rw [offs_len]; omega
    rw [law13_LexBack_l2]
    simp only
    rw [hj2, ge_len, if_neg (by simp), hK]
  | n+1, j, q+1, hn, hj, hq => by
    have hjl : j < l.length := by omega
    have hlen := hl.len
    obtain ⟨w, hw⟩ : ∃ w, l[j]? = some w := ⟨l[j], List.getElem?_eq_getElem hjl⟩
    have hwm : w ∈ l := List.mem_of_getElem? hw
    obtain ⟨h0, hm⟩ := hok w hwm
    obtain ⟨o, o1, ⟨t, o2⟩, o3, o4, o5⟩ := offs_all hs hw
    have hpl : o + (pc w).length ≤ s.length := by
      have := congrArg List.length o2
      simp only [List.length_drop, List.length_append] at this; omega
    have e1 : (sub (l.map ucv) (j : Int) ((j + 1 : Nat) : Int)) = some [ucv w] := by
      unfold sub
      rw [if_pos (by simp; omega)]
      congr 1
      rw [show ((j + 1 : Nat) : Int).toNat = j + 1 by omega, show ((j : Nat) : Int).toNat = j by omega, List.drop_take, show j + 1 - j = 1 by omega, List.take_one, List.head?_drop]
      simp [hw]
    have e2 : sub s (o : Int) ((o + (pc w).length : Nat) : Int) = some (pc w) := by
      rw [sub_drop hpl, o2, List.take_left]
    rw [law13_LexBack_l2]
    simp only
    rw [lt_len (by rw [offs_len]; exact hjl), if_pos rfl, lAt_nat o1, Option.bind_some, lAt_nat (x := ucv w) (by simp [hw]), Option.bind_some]
    have hcond : (if (!decide ((w.K : Int) = (ucv w).K)) = true then some true else if (!(w.S == (ucv w).S)) = true then some true else
        if decide ((j : Int) = 0) = true then if (!decide ((o : Int) = 0)) = true then some true else if decide ((0 : Int) < (j : Int)) = true then (ck ((o : Int) - 1)).bind fun v45 => (sIdx s v45).bind fun v48 => some (!decide (v48 = 32)) else some false
        else if decide ((0 : Int) < (j : Int)) = true then (ck ((o : Int) - 1)).bind fun v53 => (sIdx s v53).bind fun v56 => some (!decide (v56 = 32)) else some false) = some false := by
      rw [if_neg (by simp [ucv]), if_neg (by simp [ucv])]
      by_cases hj0 : j = 0
      · rw [if_pos (by simp [hj0]), if_neg (by simp [o3 hj0]), if_neg (by simp [hj0])]
      · obtain ⟨p1, p2⟩ := o4 (by omega)
        rw [if_neg (by simp [hj0]), if_pos (by simp; omega), show ((o : Int) - 1) = ((o - 1 : Nat) : Int) by omega, ckn (by omega), Option.bind_some, sIdx_nat p2, Option.bind_some]; rfl
    refine Eq.trans (congrArg (fun z => Option.bind z _) hcond) ?_
    rw [Option.bind_some, if_neg (by simp), cks (by omega), Option.bind_some, e1, Option.bind_some, text_one (hl.word w hwm).1 h0 hm, Option.bind_some]
    simp only [Option.isSome_none, Bool.false_eq_true, if_false]
    rw [Option.bind_some]
    simp only
    rw [show ((s.length : Int) - (o : Int)) = ((s.length - o : Nat) : Int) by omega, ckn (by omega), Option.bind_some, if_neg (by simp; omega), show ((o : Int) + ((pc w).length : Int)) = ((o + (pc w).length : Nat) : Int) by omega, ckn (by omega), Option.bind_some, e2, Option.bind_some, Option.bind_some]
    simp only [beq_self_eq_true, Bool.not_true, Bool.false_eq_true, if_false]
    exact lb_l2 hl hok hs hsl hK n (j+1) q (by omega) (by omega) (by omega)
  | _, _, 0, _, _, hq => by omega
theorem lb_l1 {l : List ref13_Word} (hr : Rg l) {K2 : Unit → Option Bool} (hK : Sm l → K2 () = some true) : ∀ (r : List ref13_Word) (j q n : Nat), l.drop j = r → j ≤ l.length → r.length < q → n ≤ 262144 → j ≤ 65537 → (∀ w, w ∈ l.take j → w.S.length ≤ 1000000) →
    law13_LexBack_l1 l K2 q (n : Int) (j : Int) = some true
  | [], j, q+1, n, h, hj, _, _, hj2, hp => by
    have : j = l.length := by have : l.length ≤ j := by simpa using h
                              omega
    subst this
    rw [law13_LexBack_l1, ge_len, if_neg (by simp)]
    rw [List.take_length] at hp
    exact hK ⟨by omega, fun w hw => ⟨hp w hw, (hr.2 w hw).2⟩⟩
  | w :: r, j, q+1, n, h, hj, hq, hn, hj2, hp => by
    obtain ⟨h1, h2, h3⟩ := getDrop h
    have hw : w ∈ l := List.mem_of_getElem? h1
    have hwr := hr.2 w hw
    have hlr := hr.1
    rw [List.length_cons] at hq
    have e1 : (n : Int) + min (w.S.length : Int) 1048576 = ((n + min w.S.length 1048576 : Nat) : Int) := by omega
    rw [law13_LexBack_l1, lt_len h3, if_pos rfl, lAt_nat h1, Option.bind_some, e1, ckn (by omega), Option.bind_some]
    by_cases hc : 262144 < n + min w.S.length 1048576 ∨ 65536 < j
    · rw [if_pos (by simp only [Bool.or_eq_true, decide_eq_true_eq]; omega), sure_ok, Option.bind_some]
    · rw [if_neg (by simp only [Bool.or_eq_true, decide_eq_true_eq]; omega), cks (by omega), Option.bind_some]
      refine lb_l1 hr hK r (j+1) q _ h2 h3 (by omega) (by omega) (by omega) fun w' hw' => ?_
      rw [List.take_add_one, h1] at hw'
      rcases List.mem_append.1 hw' with hw' | hw'
      · exact hp w' hw'
      · simp at hw'; subst hw'; omega
  | _, _, 0, _, _, _, hq, _, _, _ => by omega
theorem law_back {l : List ref13_Word} (hr : Rg l) : law13_LexBack l = some true := by
  unfold law13_LexBack
  simp only [letK_e]
  have hlr := hr.1
  have := fun K2 hK => lb_l1 (K2 := K2) hr hK l 0 fuel 0 rfl (Nat.zero_le _) (by unfold fuel; omega) (by omega) (by omega) (by simp)
  rw [show ((0 : Nat) : Int) = 0 from rfl] at this
  refine this _ fun hs => ?_
  have hlen := hs.len
  rw [give_eq hs.len, Option.bind_some, textl_eq hs, Option.bind_some]
  unfold textB
  by_cases ha : l.all okW = true
  · have hall : ∀ w, w ∈ l → 0 ≤ w.K ∧ okW w = true := fun w hw => ⟨(hs.word w hw).2, List.all_eq_true.1 ha w hw⟩
    rw [if_pos ha]
    by_cases hf : fits 0 (l.map pc) = true
    · have hjl := join_fits hs (List.all_eq_true.1 ha) hf
      rw [if_pos hf]
      simp only [Option.isSome_none, Bool.false_eq_true, if_false]
      have hwB : wordsB (Lib.join (l.map pc) [32]) = (offs 0 l, 0, none) := by
        have hn : ¬ 65536 < (Lib.join (l.map pc) [32]).length := by omega
        unfold wordsB
        rw [if_neg hn, tok_join hall (Nat.le_refl _)]
      rw [words_B, Option.bind_some, hwB]
      simp only [Option.isSome_none, decide_true, Bool.not_true, offs_len, List.length_map, Bool.or_false, Bool.false_eq_true, if_false]
      have h2 := lb_l2 hs hall rfl hjl (K21 := fun x => law13_sure) sure_ok l.length 0 fuel (by omega) (Nat.zero_le _) (by unfold fuel; omega)
      rw [show ((0 : Nat) : Int) = 0 from rfl] at h2
      have e : (fun x : Unit => law13_sure.bind fun v82 => some v82) = fun x => law13_sure := by funext x; rw [sure_ok]; rfl
      rw [e]; exact h2
    · rw [if_neg hf]; simp only [Option.isSome_some, if_true]; rw [sure_ok]; rfl
  · rw [if_neg ha]; simp only [Option.isSome_some, if_true]; rw [sure_ok]; rfl
end Go.Cq

