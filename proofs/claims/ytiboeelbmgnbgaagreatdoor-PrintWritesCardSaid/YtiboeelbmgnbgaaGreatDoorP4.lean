import Derived.Test.YtiboeelbmgnbgaaGreatDoorP3
import Derived.Test.YtiboeelbmgnbgaaGreatDoorS16
set_option linter.unusedSectionVars false
set_option linter.unusedVariables false
set_option linter.unusedSimpArgs false
set_option linter.unnecessarySimpa false
set_option maxRecDepth 100000
namespace Go.Cq
open Go Go.Av
section
variable {m : rMt}
theorem pat_loop (m : rMt) (ks : List Str) (hks : ks.length ≤ m.Args.length) (hl : m.Args.length ≤ 1000) : ∀ (rs : List Str) (i q : Nat) (l : List lWd), ks.drop i = rs → i ≤ ks.length → rs.length < q → l.length + 2 * rs.length ≤ lim →
    pwr_pattern_l1 ks q (i : Int) (PW (giveM m) l) = some (PW (giveM m) (l ++ wm (zipW rs ((m.Args.drop i).map fun a => [w0 0 a])))) := by
  intro rs
  induction rs with
  | nil =>
    intro i q l h hi hq hl2
    obtain ⟨q, rfl⟩ : ∃ q', q = q' + 1 := ⟨q - 1, by simp at hq; omega⟩
    have : i = ks.length := by have : ks.length ≤ i := by simpa using h
                               omega
    subst this
    simp only [pwr_pattern_l1]
    rw [ge_len, ifF]; simp [zipW]
  | cons k rs ih =>
    intro i q l h hi hq hl2
    obtain ⟨q, rfl⟩ : ∃ q', q = q' + 1 := ⟨q - 1, by simp at hq; omega⟩
    obtain ⟨e1, e2, e3⟩ := getDrop h
    have hia : i < m.Args.length := by omega
    have hd : m.Args.drop i = m.Args[i] :: m.Args.drop (i+1) := List.drop_eq_getElem_cons hia
    simp only [List.length_cons] at hl2
    have hg : lAt (PW (giveM m) (l ++ wm [w0 1 k])).m.Args (i : Int) = some m.Args[i] := lAt_nat (List.getElem?_eq_getElem hia)
    simp only [pwr_pattern_l1]
    rw [lt_len e3, if_pos rfl, lAt_nat e1, bindS, text_eq _ l 1 k (by omega), bindS, hg, bindS, text_eq _ _ 0 _ (by simp; omega), bindS, cks (by omega), bindS, ih (i+1) q _ e2 (by omega) (by simp at hq; omega) (by simp; omega), hd]
    simp only [List.map_cons, zipW, List.map_append, List.map_nil, List.append_assoc, List.cons_append, List.nil_append]
theorem pattern_ok {m : rMt} (hm : MOk m) : pwr_pattern (PW (giveM m) []) = some (PW (giveM m) (wm (headW m))) := by
 obtain ⟨hs, hs2⟩ := sel_ok hm.sel
 have ha := hm.sm.a
 have hS : (PW (giveM m) []).m.Sel = m.Sel := rfl
 unfold pwr_pattern headW pairW
 rw [hS, rank_eq m.Sel hs2, bindS]
 rcases arity_cases hm.sel with h | h | h
 ·rw [h.1, decide_eq_true rfl, if_pos rfl, text_eq _ [] 0 m.Sel (by unfold lim; simp), bindS, bindS, if_pos rfl]
  simp
 ·obtain ⟨a, haa⟩ : ∃ a, m.Args = [a] := by
   cases hh : m.Args with
   | nil => rw [hh] at h; simp at h
   | cons a r => cases r with
    | nil => exact ⟨a, rfl⟩
    | cons b r => rw [hh] at h; simp at h; omega
  have hg : lAt (PW (giveM m) ([] ++ wm [w0 2 m.Sel])).m.Args (0 : Int) = some a := by
   show lAt m.Args (0 : Int) = some a
   rw [haa]; rfl
  rw [h.1, decide_eq_false (by decide), ifF, decide_eq_true rfl, if_pos rfl, text_eq _ [] 2 m.Sel (by unfold lim; simp), bindS, hg, bindS, text_eq _ _ 0 a (by unfold lim; simp), bindS, bindS, bindS, if_neg (by decide), if_pos rfl, haa]
  simp [hd0]
 ·obtain ⟨h1, h2, h3, h4, h5⟩ := h
  have hsp : strings_Split m.Sel.dropLast [58] = some (keysB m.Sel) := split_one 58 (by simp; omega)
  have hloop := pat_loop m (keysB m.Sel) (by omega) (by omega) (keysB m.Sel) 0 fuel [] rfl (Nat.zero_le _) (by unfold fuel; omega) (by unfold lim; simp; omega)
  rw [show ((0 : Nat) : Int) = 0 from rfl] at hloop
  rw [h1, decide_eq_false (by decide), ifF, decide_eq_false (by decide), ifF, trimSuffix_eq m.Sel hs2 h2, bindS, hsp, bindS, hloop, bindS, bindS, bindS, if_neg (by decide), if_neg (by decide)]
  simp
theorem pwords_eq {m : rMt} (hm : MOk m) : print_words (giveM m) = some (wm (wordsW m)) := by
 unfold print_words wordsW
 have l1 := head_len m hm.sm.a
 have l2 := vars_len m.Temps
 have l3 := hm.body_len
 have l4 := hm.sm.t
 obtain ⟨ht, hf, hh⟩ := hm.tr
 have hr := Fo.room hm hf
 have hn := hm.sm.n
 have hT : (giveM m).Temps = m.Temps := rfl
 have hB : (giveM m).Body = m.Body := rfl
 have hno : ∀ k, k ∈ m.Body → NodeOk m (Rn (fuel - 1)) k := fun k hk => by
  obtain ⟨t, htt⟩ := List.mem_iff_getElem?.1 hk
  obtain ⟨j, nj, lo', h', a1, a2, a3, a4, a5, a6⟩ := hf.get t k htt
  obtain ⟨nr, b1, b2⟩ := give_get a2
  subst a1; subst b2
  exact node_all hm j nr lo' h' b1 (stands11 a3 rfl) a4 (fuel - 1) (by unfold fuel; omega)
 have hst := stmts_ok hm m.Body (by have := hm.sm.b; omega) hno (wm (headW m) ++ wm [w0 15 []] ++ wm (varsW m.Temps)) (by simp; unfold lim; omega)
 have hst' : pwr_stmts (PW (giveM m) (wm (headW m) ++ wm [w0 15 []] ++ wm (varsW m.Temps))) m.Body = some (PW (giveM m) (wm (headW m) ++ wm [w0 15 []] ++ wm (varsW m.Temps) ++ wm (sepW 9 (m.Body.map (oAt (tab16 m)))))) := hst
 rw [pattern_ok hm, bindS, add_eq _ _ 15 (by simp; unfold lim; omega), bindS, hT, pvars_eq _ _ _ (by omega) (by simp; unfold lim; omega), bindS, hB, hst', bindS, add_eq _ _ 16 (by simp; unfold lim; omega), bindS]
 simp
end
def WOk (w : RW) : Prop := 0 ≤ w.K ∧ w.S.length ≤ 1100
def AllW (l : List RW) : Prop := ∀ w, w ∈ l → WOk w
theorem AllW.nil : AllW [] := fun w h => by simp at h
theorem AllW.cons {w : RW} {l : List RW} (h : WOk w) (hl : AllW l) : AllW (w :: l) := fun x hx => by
 rcases List.mem_cons.1 hx with rfl | hx
 ·exact h
 ·exact hl x hx
theorem AllW.app {l l' : List RW} (h : AllW l) (h' : AllW l') : AllW (l ++ l') := fun x hx => by
 rcases List.mem_append.1 hx with hx | hx
 ·exact h x hx
 ·exact h' x hx
theorem WOk.w0 {k : Int} {s : Str} (h : 0 ≤ k) (hs : s.length ≤ 1100) : WOk (w0 k s) := ⟨h, hs⟩
theorem AllW.one {k : Int} {s : Str} (h : 0 ≤ k) (hs : s.length ≤ 1100) : AllW [Cq.w0 k s] := AllW.cons (.w0 h hs) .nil
theorem AllW.maps {k : Int} {l : List Str} (h : 0 ≤ k) (hs : ∀ s, s ∈ l → s.length ≤ 1100) : AllW (l.map (Cq.w0 k)) := fun x hx => by
 obtain ⟨s, h1, rfl⟩ := List.mem_map.1 hx
 exact .w0 h (hs s h1)
theorem AllW.par {b : Bool} {x : List RW} (h : AllW x) : AllW (parW b x) := by
 unfold parW; split
 ·exact .cons (.w0 (by decide) (by simp)) (h.app (.one (by decide) (by simp)))
 ·exact h
theorem AllW.zip : ∀ {ks : List Str} {a : List (List RW)}, (∀ s, s ∈ ks → s.length ≤ 1100) → (∀ x, x ∈ a → AllW x) → AllW (zipW ks a)
  | [], a, _, _ => by cases a <;> exact .nil
  | k :: ks, [], _, _ => .nil
  | k :: ks, x :: a, h1, h2 => .cons (.w0 (by decide) (h1 k (by simp))) ((h2 x (by simp)).app (AllW.zip (fun s hs => h1 s (by simp [hs])) (fun y hy => h2 y (by simp [hy]))))
theorem AllW.pair {s : Str} {a : List (List RW)} (hs : s.length ≤ 1100) (h : ∀ x, x ∈ a → AllW x) : AllW (pairW s a) := by
 unfold pairW; split
 ·exact .one (by decide) hs
 ·split
  ·refine .cons (.w0 (by decide) hs) ?_
   cases a with
   | nil => exact .nil
   | cons x r => exact h x (by simp)
  ·exact .zip (fun p hp => by have := keysB_mem hp; omega) h
theorem AllW.sepT {k : Int} {l : List (List RW)} (hk : 0 ≤ k) (h : ∀ x, x ∈ l → AllW x) : AllW (Cq.sepT k l) := fun w hw => by
 obtain ⟨x, hx, hw⟩ := List.mem_flatMap.1 hw
 rcases List.mem_cons.1 hw with rfl | hw
 ·exact .w0 hk (by simp)
 ·exact h x hx w hw
theorem AllW.sep {k : Int} {l : List (List RW)} (hk : 0 ≤ k) (h : ∀ x, x ∈ l → AllW x) : AllW (sepW k l) := by
 cases l with
 | nil => exact .nil
 | cons x r => exact (h x (by simp)).app (AllW.sepT hk fun y hy => h y (by simp [hy]))
theorem AllW.vars {l : List Str} (h : ∀ s, s ∈ l → s.length ≤ 1100) : AllW (varsW l) := by
 unfold varsW; split
 ·exact .nil
 ·exact .cons (.w0 (by decide) (by simp)) ((AllW.maps (by decide) h).app (.one (by decide) (by simp)))
theorem fixed_len {j : Nat} : (fixedW.getD j []).length ≤ 1100 := by
  rcases Nat.lt_or_ge j 5 with h | h
  · have : j = 0 ∨ j = 1 ∨ j = 2 ∨ j = 3 ∨ j = 4 := by omega
    rcases this with rfl | rfl | rfl | rfl | rfl <;> decide
  · have : fixedW.getD j [] = [] := by
      rw [List.getD_eq_getElem?_getD, List.getElem?_eq_none (by simp [fixedW]; omega)]; rfl
    rw [this]; simp
theorem nodeW_all {N : List rNd} {O : List (List RW)} {n : rNd} (hs : SmallN n) (hO : ∀ k, AllW (oAt O k)) : AllW (nodeW N O n) := by
 have hS := hs.s
 have hmsg : ∀ l : List Int, AllW (msgW N O n.S l) := fun l => .pair hS fun x hx => by
  obtain ⟨k, _, rfl⟩ := List.mem_map.1 hx
  exact (hO k).par
 have hsep : ∀ (k : Int) (l : List Int), 0 ≤ k → AllW (sepW k (l.map (oAt O))) := fun k l hk => .sep hk fun x hx => by
  obtain ⟨j, _, rfl⟩ := List.mem_map.1 hx
  exact hO j
 unfold nodeW
 split
 ·exact .one (by decide) fixed_len
 split
 ·unfold numW; split
  ·rename_i r e
   have : r.length ≤ 1100 := by rw [e] at hS; simp at hS; omega
   exact .cons (.w0 (by decide) (by simp)) (.one (by decide) this)
  ·exact .one (by decide) hS
 split
 ·exact .one (by decide) hS
 split
 ·exact .one (by decide) hS
 split
 ·exact .cons (.w0 (by decide) hS) (.cons (.w0 (by decide) (by simp)) (hO _))
 split
 ·exact .cons (.w0 (by decide) (by simp)) (hO _)
 split
 ·exact hmsg _
 split
 ·exact AllW.app (hO _).par (hmsg _)
 split
 ·exact AllW.app (hO _).par (hsep 8 _ (by decide))
 ·unfold blockW
  refine .cons (.w0 (by decide) (by simp)) (AllW.app (.maps (by decide) fun s h => hs.ls s (List.mem_of_mem_take h)) (AllW.app ?_ (AllW.app (.vars fun s h => hs.ls s (List.mem_of_mem_drop h)) (AllW.app (hsep 9 _ (by decide)) (.one (by decide) (by simp))))))
  split
  ·exact .one (by decide) (by simp)
  ·exact .nil
theorem tab_all {N : List rNd} (hN : ∀ n, n ∈ N → SmallN n) : ∀ i k, AllW (oAt (tabO N i) k)
 | 0, k => by
  have : oAt (tabO N 0) k = [] := by simp [oAt, tabO]
  rw [this]; exact .nil
 | i+1, k => by
  unfold oAt
  split
  ·rename_i x hx
   simp only [tabO] at hx
   rcases Nat.lt_or_ge k.toNat (tabO N i).length with h | h
   ·rw [List.getElem?_append_left h] at hx
    have := tab_all hN i k
    unfold oAt at this
    rw [hx] at this; exact this
   ·rw [List.getElem?_append_right h] at hx
    obtain rfl := List.mem_singleton.1 (List.mem_of_getElem? hx)
    split
    ·rename_i n hn
     exact nodeW_all (hN n (List.mem_of_getElem? hn)) (tab_all hN i)
    ·exact .nil
  ·exact .nil
theorem wordsW_all {m : rMt} (hm : MOk m) : AllW (wordsW m) := by
 unfold wordsW headW
 refine AllW.app (.pair hm.sm.s fun x hx => ?_) (.cons (.w0 (by decide) (by simp)) (AllW.app (.vars hm.sm.tl) (AllW.app (.sep (by decide) fun x hx => ?_) (.one (by decide) (by simp)))))
 ·obtain ⟨a, ha, rfl⟩ := List.mem_map.1 hx
  exact .one (by decide) (hm.sm.al a ha)
 ·obtain ⟨k, _, rfl⟩ := List.mem_map.1 hx
  exact tab_all hm.sm.ns _ _
theorem AllW.sm {l : List RW} (h : AllW l) (hl : l.length ≤ 100000) : X13.Sm l := ⟨hl, fun w hw => by have := h w hw; exact ⟨by have := this.2; omega, this.1⟩⟩
theorem pmethod_eq {m : rMt} (h : Small m) (hK : ∀ n, n ∈ m.Nodes → 0 ≤ n.K) : ∃ (t : Str) (e : Option Int), print_Method (giveM m) = some (t, e) ∧ ref16_Method m = some (t, X13.code e) := by
 unfold print_Method ref16_Method
 rw [h.check hK, h.may hK, bindS, bindS]
 cases hok : okM m with
 | false => exact ⟨[], some 1, rfl, rfl⟩
 | true =>
  have hm := mOk_of h hK hok
  have hsm := (wordsW_all hm).sm (by have := wordsW_len hm; omega)
  refine ⟨(X13.textB (wordsW m)).1, (X13.textB (wordsW m)).2, ?_, ?_⟩
  ·rw [pwords_eq hm]
   show ((lex_Text (wm (wordsW m))).bind fun v3 => some (v3.1, v3.2)) = _
   rw [X13.textl_eq hsm]; rfl
  ·show ((ref16_words m).bind fun v2 => (ref13_Text v2).bind fun v3 => some (v3.1, v3.2)) = _
   rw [words_eq hm, bindS, X13.textr_eq hsm]; rfl
theorem printWrites (m : rMt) (hK : ∀ n, n ∈ m.Nodes → 0 ≤ n.K) : law16_PrintWrites m = some true := by
  unfold law16_PrintWrites
  obtain ⟨b, hb1, hb2⟩ := bigTree_eq m
  rw [hb1, bindS, sure16, bindS]
  cases b with
  | true => rfl
  | false =>
    have hs := hb2 rfl
    obtain ⟨t, e, h1, h2⟩ := pmethod_eq hs hK
    rw [ifF, give_eq m hs.fits, bindS, h1, bindS, h2, bindS]
    show ((law_num e).bind fun v8 => if decide (v8 = X13.code e) = true then if (t == t) = true then (some true : Option Bool).bind fun v11 => some v11 else some false else some false).bind (fun y6 => some y6) = _
    have hn : law_num e = some (X13.code e) := by cases e <;> rfl
    rw [hn, bindS, decide_eq_true rfl, if_pos rfl, beq_self_eq_true, if_pos rfl]
    rfl
end Go.Cq

