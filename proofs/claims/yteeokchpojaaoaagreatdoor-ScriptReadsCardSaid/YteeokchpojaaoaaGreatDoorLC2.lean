import Derived.Test.YteeokchpojaaoaaGreatDoorLC1
set_option linter.unusedSectionVars false
set_option linter.unusedVariables false
set_option linter.unusedSimpArgs false
set_option maxRecDepth 100000
set_option linter.unusedVariables false
set_option linter.unusedSimpArgs false
namespace Go.Cq
open Go Go.Av

theorem tot_app : ∀ (a b : List Str), tot (a ++ b) = tot a + tot b
  | [], b => by simp [tot]
  | p :: a, b => by simp [tot, tot_app a b]; omega
theorem l4_sum (l : List Str) (at_ : Nat) (ha : at_ ≤ l.length) (hl : tot l ≤ 1000000) : ∀ (n j q : Nat), at_ - j = n → j ≤ at_ → n < q → ref30_command_l4 l (at_ : Int) q ((tot (l.take j) : Nat) : Int) (j : Int) = some ((tot (l.take at_) : Nat) : Int)
  | 0, j, q+1, h, hj, _ => by
    have : j = at_ := by omega
    subst this
    rw [ref30_command_l4, decide_eq_false (by omega), ifF]
  | n+1, j, q+1, h, hj, hq => by
    have hlt : j < l.length := by omega
    have hg : l[j]? = some l[j] := List.getElem?_eq_getElem hlt
    have htk : l.take (j+1) = l.take j ++ [l[j]] := by rw [List.take_add_one, hg]; rfl
    have h1 : tot (l.take (j+1)) = tot (l.take j) + (l[j].length + 1) := by rw [htk, tot_app]; simp [tot]
    have h2 : tot (l.take (j+1)) ≤ tot l := by
      conv => rhs; rw [← List.take_append_drop (j+1) l, tot_app]
      omega
    have h3 := tot_len l
    rw [ref30_command_l4, decide_eq_true (by omega), ifT, lAt_nat hg, bindS, cks (by omega), bindS]
    rw [show ((tot (l.take j) : Nat) : Int) + ((l[j].length + 1 : Nat) : Int) = ((tot (l.take (j+1)) : Nat) : Int) by rw [h1]; omega, ckn (by omega), bindS, cks (by omega), bindS]
    exact l4_sum l at_ ha hl n (j+1) q (by omega) (by omega) (by omega)
  | 0, _, 0, _, _, hq => by omega
  | _+1, _, 0, _, _, hq => by omega
/-- 's' stands last. -/
def okS : Str → Bool
  | [] => true
  | k :: f => (k != 115 || f == []) && okS f
theorem tot_mem {l : List Str} {p : Str} (h : p ∈ l) : p.length ≤ tot l := by
  induction l with
  | nil => simp at h
  | cons x l ih =>
    rcases List.mem_cons.1 h with rfl | h
    · simp [tot]; omega
    · have := ih h; simp [tot]; omega
theorem ref_read (s : Str) (hs : s.length ≤ 100000) (v7 : Str × Bool) (hf : v7.1.length ≤ 1000) : ∀ (f : Str) (j q at_ B : Nat) (c : ref30_Command), v7.1.drop j = f → j ≤ v7.1.length → (∀ k, k ∈ f → isLt k = true) → okS f = true → at_ ≤ (splitC 32 s).length → B + f.length ≤ 2000000 → bnd c + ((splitC 32 s).length - at_) ≤ B → f.length < q →
    ∃ c2 b, ref30_command_l1 s (splitC 32 s) v7 (fun v203 v204 => some (v204, decide (v203 = ((splitC 32 s).length : Int)))) q (at_ : Int) (j : Int) c = some (c2, b) ∧ (b = true → readF f ((splitC 32 s).drop at_) (toC c) = some (toC c2, [])) ∧ (b = false → ∀ c3, readF f ((splitC 32 s).drop at_) (toC c) ≠ some (c3, []))
  | [], j, q+1, at_, B, c, h, hj, hk, ho, ha, hB, hb, _ => by
    have : j = v7.1.length := by have : v7.1.length ≤ j := by simpa using h
                                 omega
    subst this
    rw [ref30_command_l1, ge_len, ifF]
    refine ⟨_, _, rfl, fun hd => ?_, fun hd c3 e => ?_⟩
    · have := of_decide_eq_true hd
      have : at_ = (splitC 32 s).length := by omega
      subst this
      simp [readF]
    · have := of_decide_eq_false hd
      simp only [readF, Option.some.injEq, Prod.mk.injEq] at e
      have e2 : (splitC 32 s).length ≤ at_ := by simpa using e.2
      omega
  | k :: f, j, q+1, at_, B, c, h, hj, hk, ho, ha, hB, hb, hq => by
    obtain ⟨e1, e2, e3⟩ := getDrop h
    have hkl := hk k (by simp)
    have htot := splitC_tot 32 s
    have hlen := tot_len (splitC 32 s)
    simp only [List.length_cons] at hB
    rw [ref30_command_l1, lt_len e3, ifT, sIdx_at h, bindS]
    simp only [okS, Bool.and_eq_true] at ho
    by_cases h6 : k = 115
    · subst h6
      have hfn : f = [] := by have := ho.1; cases f <;> simp_all
      subst hfn
      rw [show decide ((((115 : UInt8).toNat : Nat) : Int) = 115) = true from rfl, ifT]
      cases hd : (splitC 32 s).drop at_ with
      | nil =>
        have : (splitC 32 s).length ≤ at_ := by simpa using hd
        rw [decide_eq_true (by omega), ifT]
        exact ⟨_, _, rfl, fun h => (by cases h), fun _ c3 e => by simp [readF, partF] at e⟩
      | cons p ps =>
        obtain ⟨_, _, hlt⟩ := drop_cons hd
        rw [decide_eq_false (by omega), ifF]
        have hsum := l4_sum (splitC 32 s) at_ ha (by omega) at_ 0 fuel (by omega) (by omega) (Nat.lt_of_le_of_lt (show at_ ≤ 100001 by omega) (by decide))
        have hsum' : ref30_command_l4 (splitC 32 s) (at_ : Int) fuel 0 0 = some ((tot ((splitC 32 s).take at_) : Nat) : Int) := hsum
        have hle : tot ((splitC 32 s).take at_) ≤ s.length := by
          have : tot ((splitC 32 s).take at_) + tot ((splitC 32 s).drop at_) = tot (splitC 32 s) := by rw [← tot_app, List.take_append_drop]
          rw [hd] at this; simp only [tot] at this; omega
        rw [hsum', bindS, sub_nat hle (Nat.le_refl _), bindS]
        refine ⟨_, _, rfl, fun _ => ?_, fun h => by cases h⟩
        have hjd := join_drop ((splitC 32 s).take at_) ((splitC 32 s).drop at_) (by rw [hd]; simp)
        rw [List.take_append_drop, join_split, hd] at hjd
        rw [List.take_length, hjd]
        simp [readF, partF, toC, setS]
    · rw [show decide (((k.toNat : Nat) : Int) = 115) = false from u8ne h6, ifF, letK_e]
      have hmem : ∀ p, p ∈ splitC 32 s → p.length ≤ 1000000 := fun p hp => by have := tot_mem hp; omega
      have hL : L5 (partF k ((splitC 32 s).drop at_) (toC c)) (splitC 32 s) B (fun v199 v200 => (ck ((j : Int) + 1)).bind fun v202 => ref30_command_l1 s (splitC 32 s) v7 (fun v203 v204 => some (v204, decide (v203 = ((splitC 32 s).length : Int)))) q v199 v202 v200)
          (ref30_command_l5 (splitC 32 s) (k.toNat : Int) (fun v199 v200 => (ck ((j : Int) + 1)).bind fun v202 => ref30_command_l1 s (splitC 32 s) v7 (fun v203 v204 => some (v204, decide (v203 = ((splitC 32 s).length : Int)))) q v199 v202 v200) fuel (at_ : Int) 0 c) := by
        by_cases h42 : k = 42 ∨ k = 86
        · have := l5_star (splitC 32 s) hmem (by omega) k h42 (fun v199 v200 => (ck ((j : Int) + 1)).bind fun v202 => ref30_command_l1 s (splitC 32 s) v7 (fun v203 v204 => some (v204, decide (v203 = ((splitC 32 s).length : Int)))) q v199 v202 v200) B (by omega) ((splitC 32 s).drop at_) fuel at_ 0 c rfl ha (by omega) hb (Nat.lt_of_le_of_lt (show ((splitC 32 s).drop at_).length ≤ 100001 by simp; omega) (by decide))
          have hp : partF k ((splitC 32 s).drop at_) (toC c) = (if k = 42 then (allI ((splitC 32 s).drop at_) (toC c)).bind fun c => some (c, []) else (allV ((splitC 32 s).drop at_) (toC c)).bind fun c => some (c, [])) := by
            unfold partF
            rcases h42 with rfl | rfl
            · rw [if_neg (by decide), if_pos rfl, if_pos rfl]
            · rw [if_neg (by decide), if_neg (by decide), if_neg (by decide), if_pos rfl, if_neg (by decide)]
          rw [hp]
          exact this
        · have := l5_one (splitC 32 s) hmem (by omega) k hkl h6 (fun e => h42 (.inl e)) (fun e => h42 (.inr e)) (fun v199 v200 => (ck ((j : Int) + 1)).bind fun v202 => ref30_command_l1 s (splitC 32 s) v7 (fun v203 v204 => some (v204, decide (v203 = ((splitC 32 s).length : Int)))) q v199 v202 v200) B (by omega) ((splitC 32 s).drop at_) (fuel - 2) at_ c rfl ha hb
          exact this
      rcases hL with ⟨c2, at2, g1, g2, g3, g4⟩ | ⟨g1, c2, g2⟩
      · rw [g4]
        dsimp only
        rw [cks (by omega), bindS]
        obtain ⟨c3, b, k1, k2, k3⟩ := ref_read s hs v7 hf f (j+1) q at2 B c2 e2 (by omega) (fun k hk' => hk k (by simp [hk'])) ho.2 g2 (by omega) g3 (by simp at hq; omega)
        refine ⟨c3, b, k1, fun hb => ?_, fun hb c4 e => ?_⟩
        · unfold readF; rw [g1, bindS]; exact k2 hb
        · unfold readF at e; rw [g1, bindS] at e; exact k3 hb c4 e
      · rw [g2]
        exact ⟨_, _, rfl, fun h => (by cases h), fun _ c3 e => by unfold readF at e; rw [g1] at e; cases e⟩
  | [], _, 0, _, _, _, _, _, _, _, _, _, _, hq => by omega
  | _ :: _, _, 0, _, _, _, _, _, _, _, _, _, _, hq => by omega
theorem form_okS (name : Str) : okS (formF name).1 = true := by
  unfold formF
  have hall : (nmL.zip fmL).all (fun p => okS p.2) = true := by decide
  cases h : (nmL.zip fmL).find? (fun p => p.1 == name) with
  | none => rfl
  | some p => exact List.all_eq_true.1 hall p (List.mem_of_find?_eq_some h)
/-- The document's command is the same. -/
theorem ref_cmd {s : Str} (hs : s.length ≤ 100000) : ∃ c b, ref30_command s = some (c, b) ∧ (b = true → cmdF s = some (toC c)) ∧ (b = false → cmdF s = none) := by
  unfold ref30_command
  rw [pieces_eq (by omega), bindS]
  have hn := splitC_ne 32 s
  obtain ⟨p, l, hsp⟩ : ∃ p l, splitC 32 s = p :: l := by cases h : splitC 32 s with
    | nil => exact absurd h hn
    | cons p l => exact ⟨p, l, rfl⟩
  have h0 : lAt (splitC 32 s) 0 = some p := by rw [hsp]; rfl
  rw [h0, bindS, ref_form, bindS]
  have htot := splitC_tot 32 s
  have hlen := tot_len (splitC 32 s)
  have hc : cmdF s = if (formF p).2 = true then (match readF (formF p).1 l ⟨p, [], [], [], []⟩ with
    | some (c, []) => some c
    | _ => none) else none := by unfold cmdF; rw [hsp]; rfl
  cases hv : (formF p).2 with
  | false =>
    rw [hv] at hc
    exact ⟨_, _, rfl, fun h => (by cases h), fun _ => hc⟩
  | true =>
    rw [hv, if_pos rfl] at hc
    rw [show (!true) = false from rfl, ifF, letK_e]
    have hfl := form_len p
    obtain ⟨c, b, h1, h2, h3⟩ := ref_read s hs (formF p) (by omega) (formF p).1 0 fuel 1 1000000 ⟨p, [], [], [], []⟩ rfl (by omega) (form_letters p) (form_okS p) (by rw [hsp]; simp) (by omega) (by simp [bnd]; omega) (Nat.lt_of_le_of_lt hfl (by decide))
    have hd : (splitC 32 s).drop 1 = l := by rw [hsp]; rfl
    rw [hd] at h2 h3
    refine ⟨c, b, h1, fun hb => ?_, fun hb => ?_⟩
    · rw [hc, show (⟨p, [], [], [], []⟩ : Cmd) = toC ⟨p, [], [], [], []⟩ from rfl, h2 hb]
    · rw [hc]
      split
      · rename_i c2 e
        exact absurd e (h3 hb c2)
      · rfl
end Go.Cq

