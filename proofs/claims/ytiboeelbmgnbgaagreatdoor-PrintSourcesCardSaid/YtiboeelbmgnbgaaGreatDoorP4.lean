import Derived.Test.YtiboeelbmgnbgaaGreatDoorP3
import Derived.Test.YtiboeelbmgnbgaaGreatDoorS16
set_option linter.unusedSectionVars false
set_option linter.unusedVariables false
set_option linter.unusedSimpArgs false
set_option linter.unnecessarySimpa false
set_option maxRecDepth 100000
namespace Go.Cq
open Go Go.Av
section
variable {m : rMt}
theorem pat_loop (m : rMt) (ks : List Str) (hks : ks.length ≤ m.Args.length) (hl : m.Args.length ≤ 1000) : ∀ (rs : List Str) (i q : Nat) (l : List lWd), ks.drop i = rs → i ≤ ks.length → rs.length < q → l.length + 2 * rs.length ≤ lim →
    zBR ks q (i : Int) (PW (zAl m) l) = some (PW (zAl m) (l ++ wm (zipW rs ((m.Args.drop i).map fun a => [w0 0 a])))) := by
  intro rs
  induction rs with
  | nil =>
    intro i q l h hi hq hl2
    obtain ⟨q, rfl⟩ : ∃ q', q = q' + 1 := ⟨q - 1, by simp at hq; omega⟩
    have : i = ks.length := by have : ks.length ≤ i := by simpa using h
                               omega
    subst this
    simp only [zBR]
    rw [zAD, ifF]; simp [zipW]
  | cons k rs ih =>
    intro i q l h hi hq hl2
    obtain ⟨q, rfl⟩ : ∃ q', q = q' + 1 := ⟨q - 1, by simp at hq; omega⟩
    obtain ⟨e1, e2, e3⟩ := zAE h
    have hia : i < m.Args.length := by omega
    have hd : m.Args.drop i = m.Args[i] :: m.Args.drop (i+1) := List.drop_eq_getElem_cons hia
    simp only [List.length_cons] at hl2
    have hg : lAt (PW (zAl m) (l ++ wm [w0 1 k])).m.Args (i : Int) = some m.Args[i] := zAf (List.getElem?_eq_getElem hia)
    simp only [zBR]
    rw [zAB e3, if_pos rfl, zAf e1, zAa, zBV _ l 1 k (by omega), zAa, hg, zAa, zBV _ _ 0 _ (by simp; omega), zAa, cks (by omega), zAa, ih (i+1) q _ e2 (by omega) (by simp at hq; omega) (by simp; omega), hd]
    simp only [List.map_cons, zipW, List.map_append, List.map_nil, List.append_assoc, List.cons_append, List.nil_append]
theorem zOo {m : rMt} (hm : MOk m) : zEw (PW (zAl m) []) = some (PW (zAl m) (wm (zJb m))) := by
 obtain ⟨hs, hs2⟩ := zFQ hm.sel
 have ha := hm.sm.a
 have hS : (PW (zAl m) []).m.Sel = m.Sel := rfl
 unfold zEw zJb zIa
 rw [hS, zKp m.Sel hs2, zAa]
 rcases zBB hm.sel with h | h | h
 ·rw [h.1, decide_eq_true rfl, if_pos rfl, zBV _ [] 0 m.Sel (by unfold lim; simp), zAa, zAa, if_pos rfl]
  simp
 ·obtain ⟨a, haa⟩ : ∃ a, m.Args = [a] := by
   cases hh : m.Args with
   | nil => rw [hh] at h; simp at h
   | cons a r => cases r with
    | nil => exact ⟨a, rfl⟩
    | cons b r => rw [hh] at h; simp at h; omega
  have hg : lAt (PW (zAl m) ([] ++ wm [w0 2 m.Sel])).m.Args (0 : Int) = some a := by
   show lAt m.Args (0 : Int) = some a
   rw [haa]; rfl
  rw [h.1, decide_eq_false (by decide), ifF, decide_eq_true rfl, if_pos rfl, zBV _ [] 2 m.Sel (by unfold lim; simp), zAa, hg, zAa, zBV _ _ 0 a (by unfold lim; simp), zAa, zAa, zAa, if_neg (by decide), if_pos rfl, haa]
  simp [hd0]
 obtain ⟨h1, h2, h3, h4, h5⟩ := h
 have hsp : strings_Split m.Sel.dropLast [58] = some (zER m.Sel) := zI8 58 (by simp; omega)
 have hloop := pat_loop m (zER m.Sel) (by omega) (by omega) (zER m.Sel) 0 fuel [] rfl (Nat.zero_le _) (by unfold fuel; omega) (by unfold lim; simp; omega)
 rw [show ((0 : Nat) : Int) = 0 from rfl] at hloop
 rw [h1, decide_eq_false (by decide), ifF, decide_eq_false (by decide), ifF, zFy m.Sel hs2 h2, zAa, hsp, zAa, hloop, zAa, zAa, zAa, if_neg (by decide), if_neg (by decide)]
 simp
theorem zP0 {m : rMt} (hm : MOk m) : zDK (zAl m) = some (wm (zHl m)) := by
 unfold zDK zHl
 have l1 := zKL m hm.sm.a
 have l2 := zEP m.Temps
 have l3 := hm.body_len
 have l4 := hm.sm.t
 obtain ⟨ht, hf, hh⟩ := hm.tr
 have hr := Fo.room hm hf
 have hn := hm.sm.n
 have hT : (zAl m).Temps = m.Temps := rfl
 have hB : (zAl m).Body = m.Body := rfl
 have hno : ∀ k, k ∈ m.Body → zGv m (Rn (fuel - 1)) k := fun k hk => by
  obtain ⟨t, htt⟩ := List.mem_iff_getElem?.1 hk
  obtain ⟨j, nj, lo', h', a1, a2, a3, a4, a5, a6⟩ := hf.get t k htt
  obtain ⟨nr, b1, b2⟩ := zDy a2
  subst a1; subst b2
  exact node_all hm j nr lo' h' b1 (zKu a3 rfl) a4 (fuel - 1) (by unfold fuel; omega)
 have hst := zNB hm m.Body (by have := hm.sm.b; omega) hno (wm (zJb m) ++ wm [w0 15 []] ++ wm (zEy m.Temps)) (by simp; unfold lim; omega)
 have hst' : pwr_stmts (PW (zAl m) (wm (zJb m) ++ wm [w0 15 []] ++ wm (zEy m.Temps))) m.Body = some (PW (zAl m) (wm (zJb m) ++ wm [w0 15 []] ++ wm (zEy m.Temps) ++ wm (sepW 9 (m.Body.map (oAt (zA0 m)))))) := hst
 rw [zOo hm, zAa, zD2 _ _ 15 (by simp; unfold lim; omega), zAa, hT, zIm _ _ _ (by omega) (by simp; unfold lim; omega), zAa, hB, hst', zAa, zD2 _ _ 16 (by simp; unfold lim; omega), zAa]
 simp
end
def WOk (w : RW) : Prop := 0 ≤ w.K ∧ w.S.length ≤ 1100
def AllW (l : List RW) : Prop := ∀ w, w ∈ l → WOk w
theorem AllW.nil : AllW [] := fun w h => by simp at h
theorem AllW.cons {w : RW} {l : List RW} (h : WOk w) (hl : AllW l) : AllW (w :: l) := fun x hx => by
 rcases List.mem_cons.1 hx with rfl | hx
 ·exact h
 exact hl x hx
theorem AllW.app {l l' : List RW} (h : AllW l) (h' : AllW l') : AllW (l ++ l') := fun x hx => by
 rcases List.mem_append.1 hx with hx | hx
 ·exact h x hx
 exact h' x hx
theorem WOk.w0 {k : Int} {s : Str} (h : 0 ≤ k) (hs : s.length ≤ 1100) : WOk (w0 k s) := ⟨h, hs⟩
theorem AllW.one {k : Int} {s : Str} (h : 0 ≤ k) (hs : s.length ≤ 1100) : AllW [Cq.w0 k s] := AllW.cons (.w0 h hs) .nil
theorem AllW.maps {k : Int} {l : List Str} (h : 0 ≤ k) (hs : ∀ s, s ∈ l → s.length ≤ 1100) : AllW (l.map (Cq.w0 k)) := fun x hx => by
 obtain ⟨s, h1, rfl⟩ := List.mem_map.1 hx
 exact .w0 h (hs s h1)
theorem AllW.par {b : Bool} {x : List RW} (h : AllW x) : AllW (parW b x) := by
 unfold parW; split
 ·exact .cons (.w0 (by decide) (by simp)) (h.app (.one (by decide) (by simp)))
 exact h
theorem AllW.zip : ∀ {ks : List Str} {a : List (List RW)}, (∀ s, s ∈ ks → s.length ≤ 1100) → (∀ x, x ∈ a → AllW x) → AllW (zipW ks a)
  | [], a, _, _ => by cases a <;> exact .nil
  | k :: ks, [], _, _ => .nil
  | k :: ks, x :: a, h1, h2 => .cons (.w0 (by decide) (h1 k (by simp))) ((h2 x (by simp)).app (AllW.zip (fun s hs => h1 s (by simp [hs])) (fun y hy => h2 y (by simp [hy]))))
theorem AllW.pair {s : Str} {a : List (List RW)} (hs : s.length ≤ 1100) (h : ∀ x, x ∈ a → AllW x) : AllW (zIa s a) := by
 unfold zIa; split
 ·exact .one (by decide) hs
 split
 ·refine .cons (.w0 (by decide) hs) ?_
  cases a with
  | nil => exact .nil
  | cons x r => exact h x (by simp)
 exact .zip (fun p hp => by have := zQd hp; omega) h
theorem AllW.sepT {k : Int} {l : List (List RW)} (hk : 0 ≤ k) (h : ∀ x, x ∈ l → AllW x) : AllW (Cq.sepT k l) := fun w hw => by
 obtain ⟨x, hx, hw⟩ := List.mem_flatMap.1 hw
 rcases List.mem_cons.1 hw with rfl | hw
 ·exact .w0 hk (by simp)
 exact h x hx w hw
theorem AllW.sep {k : Int} {l : List (List RW)} (hk : 0 ≤ k) (h : ∀ x, x ∈ l → AllW x) : AllW (sepW k l) := by
 cases l with
 | nil => exact .nil
 | cons x r => exact (h x (by simp)).app (AllW.sepT hk fun y hy => h y (by simp [hy]))
theorem AllW.vars {l : List Str} (h : ∀ s, s ∈ l → s.length ≤ 1100) : AllW (zEy l) := by
 unfold zEy; split
 ·exact .nil
 exact .cons (.w0 (by decide) (by simp)) ((AllW.maps (by decide) h).app (.one (by decide) (by simp)))
theorem zQb {j : Nat} : (zEz.getD j []).length ≤ 1100 := by
  rcases Nat.lt_or_ge j 5 with h | h
  · have : j = 0 ∨ j = 1 ∨ j = 2 ∨ j = 3 ∨ j = 4 := by omega
    rcases this with rfl | rfl | rfl | rfl | rfl <;> decide
  have : zEz.getD j [] = [] := by
    rw [List.getD_eq_getElem?_getD, List.getElem?_eq_none (by simp [zEz]; omega)]; rfl
  rw [this]; simp
theorem zPN {N : List rNd} {O : List (List RW)} {n : rNd} (hs : SmallN n) (hO : ∀ k, AllW (oAt O k)) : AllW (zFU N O n) := by
 have hS := hs.s
 have hmsg : ∀ l : List Int, AllW (msgW N O n.S l) := fun l => .pair hS fun x hx => by
  obtain ⟨k, _, rfl⟩ := List.mem_map.1 hx
  exact (hO k).par
 have hsep : ∀ (k : Int) (l : List Int), 0 ≤ k → AllW (sepW k (l.map (oAt O))) := fun k l hk => .sep hk fun x hx => by
  obtain ⟨j, _, rfl⟩ := List.mem_map.1 hx
  exact hO j
 unfold zFU
 split
 ·exact .one (by decide) zQb
 split
 ·unfold numW; split
  ·rename_i r e
   have : r.length ≤ 1100 := by rw [e] at hS; simp at hS; omega
   exact .cons (.w0 (by decide) (by simp)) (.one (by decide) this)
  exact .one (by decide) hS
 split
 ·exact .one (by decide) hS
 split
 ·exact .one (by decide) hS
 split
 ·exact .cons (.w0 (by decide) hS) (.cons (.w0 (by decide) (by simp)) (hO _))
 split
 ·exact .cons (.w0 (by decide) (by simp)) (hO _)
 split
 ·exact hmsg _
 split
 ·exact AllW.app (hO _).par (hmsg _)
 split
 ·exact AllW.app (hO _).par (hsep 8 _ (by decide))
 unfold zHO
 refine .cons (.w0 (by decide) (by simp)) (AllW.app (.maps (by decide) fun s h => hs.ls s (List.mem_of_mem_take h)) (AllW.app ?_ (AllW.app (.vars fun s h => hs.ls s (List.mem_of_mem_drop h)) (AllW.app (hsep 9 _ (by decide)) (.one (by decide) (by simp))))))
 split
 ·exact .one (by decide) (by simp)
 exact .nil
theorem zMp {N : List rNd} (hN : ∀ n, n ∈ N → SmallN n) : ∀ i k, AllW (oAt (tabO N i) k)
 | 0, k => by
  have : oAt (tabO N 0) k = [] := by simp [oAt, tabO]
  rw [this]; exact .nil
 | i+1, k => by
  unfold oAt
  split
  ·rename_i x hx
   simp only [tabO] at hx
   rcases Nat.lt_or_ge k.toNat (tabO N i).length with h | h
   ·rw [List.getElem?_append_left h] at hx
    have := zMp hN i k
    unfold oAt at this
    rw [hx] at this; exact this
   rw [List.getElem?_append_right h] at hx
   obtain rfl := List.mem_singleton.1 (List.mem_of_getElem? hx)
   split
   ·rename_i n hn
    exact zPN (hN n (List.mem_of_getElem? hn)) (zMp hN i)
   exact .nil
  exact .nil
theorem zOz {m : rMt} (hm : MOk m) : AllW (zHl m) := by
 unfold zHl zJb
 refine AllW.app (.pair hm.sm.s fun x hx => ?_) (.cons (.w0 (by decide) (by simp)) (AllW.app (.vars hm.sm.tl) (AllW.app (.sep (by decide) fun x hx => ?_) (.one (by decide) (by simp)))))
 ·obtain ⟨a, ha, rfl⟩ := List.mem_map.1 hx
  exact .one (by decide) (hm.sm.al a ha)
 obtain ⟨k, _, rfl⟩ := List.mem_map.1 hx
 exact zMp hm.sm.ns _ _
theorem AllW.sm {l : List RW} (h : AllW l) (hl : l.length ≤ 100000) : X13.Sm l := ⟨hl, fun w hw => by have := h w hw; exact ⟨by have := this.2; omega, this.1⟩⟩
end Go.Cq

set_option maxRecDepth 100000
namespace Go.Cq
open Go Go.Av
theorem zOu (a b : List lWd) (h : a.length + b.length ≤ 4294967296) : zFi [a, b] = some (a ++ b) := by
 have e1 : ∀ q, zBJ [a, b] (q+1+1+1) 0 0 = some ((a.length + b.length : Nat) : Int) := fun q => by
  have c1 : ck (0 + (a.length : Int)) = some (a.length : Int) := by rw [Int.zero_add]; exact ckn (by omega)
  have c2 : ck ((a.length : Int) + (b.length : Int)) = some ((a.length + b.length : Nat) : Int) := by rw [← Int.natCast_add]; exact ckn (by omega)
  have d1 : decide ((a.length : Int) < 0) = false := decide_eq_false (by omega)
  have d2 : decide (((a.length + b.length : Nat) : Int) < 0) = false := decide_eq_false (by omega)
  have g0 : ∀ q s i, zBJ [a, b] (q+1) s i = _ := fun q s i => by rw [zBJ]
  rw [g0]
  rw [show decide ((0 : Int) < (([a, b] : List (List lWd)).length : Int)) = true from rfl, if_pos rfl, show lAt [a, b] 0 = some a from rfl, zAa, c1, zAa, d1, ifF, zAa, show ck (0 + 1) = some 1 from rfl, zAa, g0]
  rw [show decide ((1 : Int) < (([a, b] : List (List lWd)).length : Int)) = true from rfl, if_pos rfl, show lAt [a, b] 1 = some b from rfl, zAa, c2, zAa, d2, ifF, zAa, show ck (1 + 1) = some 2 from rfl, zAa, g0]
  rw [show decide ((2 : Int) < (([a, b] : List (List lWd)).length : Int)) = false from rfl, ifF]
 have e3 : ∀ q, zBN [a, b] (q+1+1+1) [] 0 = some (a ++ b) := fun q => by
  have c1 : app 32 ([] : List lWd) a = some a := zJr (by omega) (by simp; omega)
  have c2 : app 32 a b = some (a ++ b) := zJr (by omega) (by omega)
  have g0 : ∀ q s i, zBN [a, b] (q+1) s i = _ := fun q s i => by rw [zBN]
  rw [g0]
  rw [show decide ((0 : Int) < (([a, b] : List (List lWd)).length : Int)) = true from rfl, if_pos rfl, show lAt [a, b] 0 = some a from rfl, zAa, c1, zAa, show ck (0 + 1) = some 1 from rfl, zAa, g0]
  rw [show decide ((1 : Int) < (([a, b] : List (List lWd)).length : Int)) = true from rfl, if_pos rfl, show lAt [a, b] 1 = some b from rfl, zAa, c2, zAa, show ck (1 + 1) = some 2 from rfl, zAa, g0]
  rw [show decide ((2 : Int) < (([a, b] : List (List lWd)).length : Int)) = false from rfl, ifF]
 unfold zFi
 have f1 := e1 18446744073709551613
 have f3 := e3 18446744073709551613
 change zBJ [a, b] fuel 0 0 = _ at f1
 change zBN [a, b] fuel [] 0 = _ at f3
 have e2 : zEQ ((a.length + b.length : Nat) : Int) = some [] := by unfold zEQ zHJ; rw [if_pos ⟨by omega, by omega⟩]
 rw [f1, zAa, e2, zAa, f3, zAa]
theorem bigC_l2 (l : List rCl) (c : rCl) (i : Nat) (hi : l[i]? = some c) (K : Unit → Option Bool) (hm : c.Methods.length ≤ 1000) : ∀ (r : List rMt) (k q : Nat), c.Methods.drop k = r → k ≤ c.Methods.length → r.length < q →
    zAI l (i : Int) K q (k : Int) = some true ∨ (zAI l (i : Int) K q (k : Int) = K () ∧ ∀ m, m ∈ r → Small m) := by
  intro r
  induction r with
  | nil =>
    intro k q h hk hq
    obtain ⟨q, rfl⟩ : ∃ q', q = q' + 1 := ⟨q - 1, by simp at hq; omega⟩
    have : k = c.Methods.length := by have : c.Methods.length ≤ k := by simpa using h
                                      omega
    subst this
    right
    simp only [zAI]
    rw [zAf hi, zAa, zAD, ifF]
    exact ⟨rfl, fun m hm => by simp at hm⟩
  | cons x r ih =>
    intro k q h hk hq
    obtain ⟨q, rfl⟩ : ∃ q', q = q' + 1 := ⟨q - 1, by simp at hq; omega⟩
    obtain ⟨e1, e2, e3⟩ := zAE h
    obtain ⟨b, g1, g2⟩ := zO9 x
    simp only [zAI]
    rw [zAf hi, zAa, zAB e3, if_pos rfl, zAf e1, zAa, g1, zAa, cks (by omega), zAa]
    cases b with
    | true => left; rw [if_pos rfl]
    | false =>
      rw [ifF]
      rcases ih (k+1) q e2 (by omega) (by simp at hq; omega) with h1 | ⟨h1, h2⟩
      · exact .inl h1
      refine .inr ⟨h1, fun m hm => ?_⟩
      rcases List.mem_cons.1 hm with rfl | hm
      · exact g2 rfl
      exact h2 m hm
theorem bigC_l1 (l : List rCl) (hl : l.length ≤ 1000) (K : Unit → Option Bool) : ∀ (r : List rCl) (k q : Nat), l.drop k = r → k ≤ l.length → r.length < q →
    zAA l K q (k : Int) = some true ∨ (zAA l K q (k : Int) = K () ∧ ∀ c, c ∈ r → SmallC c) := by
  intro r
  induction r with
  | nil =>
    intro k q h hk hq
    obtain ⟨q, rfl⟩ : ∃ q', q = q' + 1 := ⟨q - 1, by simp at hq; omega⟩
    have : k = l.length := by have : l.length ≤ k := by simpa using h
                              omega
    subst this
    right
    simp only [zAA]
    rw [zAD, ifF]
    exact ⟨rfl, fun m hm => by simp at hm⟩
  | cons x r ih =>
    intro k q h hk hq
    obtain ⟨q, rfl⟩ : ∃ q', q = q' + 1 := ⟨q - 1, by simp at hq; omega⟩
    obtain ⟨e1, e2, e3⟩ := zAE h
    obtain ⟨b, g1, g2⟩ := zFE x.Vars
    simp only [zAA]
    rw [zAB e3, if_pos rfl, zAf e1, zAa, g1, zBL, cks (by omega)]
    by_cases c1 : x.Name.length ≤ 1100
    · rw [decide_eq_false (by omega), ifF]
      by_cases c2 : x.Super.length ≤ 1100
      · rw [decide_eq_false (by omega), ifF, zAa]
        cases b with
        | true => left; rw [if_pos rfl, zAa, if_pos rfl]
        | false =>
          rw [ifF, zAa]
          by_cases c3 : x.Methods.length ≤ 20
          · rw [decide_eq_false (by omega), ifF]
            have h2 := bigC_l2 l x k e1 (fun _ => (some ((k + 1 : Nat) : Int)).bind fun v34 => zAA l K q v34) (by omega) x.Methods 0 fuel rfl (Nat.zero_le _) (by unfold fuel; omega)
            rw [show ((0 : Nat) : Int) = 0 from rfl] at h2
            rcases h2 with h2 | ⟨h2, h3⟩
            · exact .inl h2
            rw [h2, zAa]
            rcases ih (k+1) q e2 (by omega) (by simp at hq; omega) with h4 | ⟨h4, h5⟩
            · exact .inl h4
            refine .inr ⟨h4, fun c hc => ?_⟩
            rcases List.mem_cons.1 hc with rfl | hc
            · exact ⟨(g2 rfl).1, c3, h3, c1, c2, (g2 rfl).2⟩
            exact h5 c hc
          left; rw [decide_eq_true (by omega), if_pos rfl]
      left; rw [decide_eq_true (by omega), if_pos rfl, zAa, if_pos rfl]
    left; rw [decide_eq_true (by omega), if_pos rfl, zAa, if_pos rfl]
theorem bigC_eq (l : List rCl) : zBF l = some true ∨ (zBF l = some false ∧ l.length ≤ 70 ∧ ∀ c, c ∈ l → SmallC c) := by
 unfold zBF
 by_cases hl : l.length ≤ 70
 ·rw [decide_eq_false (by omega), ifF, zBL]
  have h1 := bigC_l1 l (by omega) (fun _ => some false) l 0 fuel rfl (Nat.zero_le _) (by unfold fuel; omega)
  rw [show ((0 : Nat) : Int) = 0 from rfl] at h1
  rcases h1 with h1 | ⟨h1, h2⟩
  ·exact .inl h1
  exact .inr ⟨h1, hl, h2⟩
 left; rw [decide_eq_true (by omega), if_pos rfl]
def zEE (l : List rMt) : List RW := l.flatMap zHl
def zCY (c : rCl) : List RW := w0 0 c.Name :: w0 2 [60] :: w0 0 c.Super :: (zEy c.Vars ++ (w0 15 [] :: (zEE c.Methods ++ [w0 16 []])))
structure COk (c : rCl) : Prop where
 sm : SmallC c
 ms : ∀ m, m ∈ c.Methods → MOk m
theorem zHa : ∀ {l : List rMt}, (∀ m, m ∈ l → MOk m) → (zEE l).length ≤ 41000 * l.length
 | [], _ => by simp [zEE]
 | m :: l, h => by
  have h1 := zHw (h m (by simp))
  have h2 := zHa (l := l) fun x hx => h x (by simp [hx])
  unfold zEE at h2 ⊢
  rw [List.flatMap_cons, List.length_append, List.length_cons]; omega
theorem zLs {c : rCl} (h : COk c) : (zCY c).length ≤ 821000 := by
 have h1 := zHa h.ms
 have h2 := h.sm.m
 have h3 := zEP c.Vars
 have h4 := h.sm.v
 unfold zCY
 simp only [List.length_cons, List.length_append, List.length_nil]
 have : 41000 * c.Methods.length ≤ 820000 := by omega
 omega
theorem zQi {c : rCl} (h : COk c) : AllW (zCY c) := by
 unfold zCY
 refine .cons (.w0 (by decide) h.sm.nm) (.cons (.w0 (by decide) (by simp)) (.cons (.w0 (by decide) h.sm.sp) (AllW.app (.vars h.sm.vs) (.cons (.w0 (by decide) (by simp)) (AllW.app (fun w hw => ?_) (.one (by decide) (by simp)))))))
 obtain ⟨m, hm, hw⟩ := List.mem_flatMap.1 hw
 exact zOz (h.ms m hm) w hw
def srcB : List (List RW) → List RW → Option (List RW)
 | [], acc => some acc
 | x :: r, acc => if 65536 < (acc ++ x).length then none else srcB r (acc ++ x)
theorem zNY : ∀ {l : List (List RW)} {acc v : List RW}, srcB l acc = some v → acc.length ≤ 65536 → v.length ≤ 65536
 | [], acc, v, h, ha => by cases h; exact ha
 | x :: r, acc, v, h, ha => by
  simp only [srcB] at h
  split at h
  ·cases h
  exact zNY h (by omega)
theorem zNx : ∀ {l : List (List RW)} {acc v : List RW}, srcB l acc = some v → AllW acc → (∀ x, x ∈ l → AllW x) → AllW v
 | [], acc, v, h, ha, _ => by cases h; exact ha
 | x :: r, acc, v, h, ha, hx => by
  simp only [srcB] at h
  split at h
  ·cases h
  exact zNx h (ha.app (hx x (by simp))) fun y hy => hx y (by simp [hy])
theorem src16_l2 (c : rCl) (h : COk c) : ∀ (r : List rMt) (k q : Nat) (acc : List RW), c.Methods.drop k = r → k ≤ c.Methods.length → r.length < q → acc.length ≤ 100000 + 41000 * k → zBA c q acc (k : Int) = some (acc ++ zEE r) := by
  have hml := h.sm.m
  intro r
  induction r with
  | nil =>
    intro k q acc hd hk hq ha
    obtain ⟨q, rfl⟩ : ∃ q', q = q' + 1 := ⟨q - 1, by simp at hq; omega⟩
    have : k = c.Methods.length := by have : c.Methods.length ≤ k := by simpa using hd
                                      omega
    subst this
    simp only [zBA]
    rw [zAD, ifF]; simp [zEE]
  | cons x r ih =>
    intro k q acc hd hk hq ha
    obtain ⟨q, rfl⟩ : ∃ q', q = q' + 1 := ⟨q - 1, by simp at hq; omega⟩
    obtain ⟨e1, e2, e3⟩ := zAE hd
    have hx := h.ms x (List.mem_of_getElem? e1)
    have hl := zHw hx
    simp only [zBA]
    rw [zAB e3, if_pos rfl, zAf e1, zAa, words_eq hx, zAa, appB (by unfold big9; omega), zAa, cks (by omega), zAa, ih (k+1) q _ e2 (by omega) (by simp at hq; omega) (by simp; omega)]
    simp [zEE]
theorem psrc_l3 (c : rCl) (h : COk c) : ∀ (r : List rMt) (k q : Nat) (acc : List lWd), c.Methods.drop k = r → k ≤ c.Methods.length → r.length < q → acc.length ≤ 100000 + 41000 * k → zBw (zFb c) q (k : Int) acc = some (acc ++ wm (zEE r)) := by
  have hml := h.sm.m
  have hM : (zFb c).Methods = c.Methods.map zAl := rfl
  intro r
  induction r with
  | nil =>
    intro k q acc hd hk hq ha
    obtain ⟨q, rfl⟩ : ∃ q', q = q' + 1 := ⟨q - 1, by simp at hq; omega⟩
    have : k = c.Methods.length := by have : c.Methods.length ≤ k := by simpa using hd
                                      omega
    subst this
    simp only [zBw]
    rw [hM, List.length_map, decide_eq_false (by omega), ifF]; simp [zEE]
  | cons x r ih =>
    intro k q acc hd hk hq ha
    obtain ⟨q, rfl⟩ : ∃ q', q = q' + 1 := ⟨q - 1, by simp at hq; omega⟩
    obtain ⟨e1, e2, e3⟩ := zAE hd
    have hx := h.ms x (List.mem_of_getElem? e1)
    have hl := zHw hx
    have hg : lAt (c.Methods.map zAl) (k : Int) = some (zAl x) := zAf (by simp [e1])
    simp only [zBw]
    rw [hM, List.length_map, decide_eq_true (by omega), if_pos rfl, hg, zAa, zP0 hx, zAa, zOu _ _ (by simp; omega), zAa, cks (by omega), zAa, ih (k+1) q _ e2 (by omega) (by simp at hq; omega) (by simp; omega)]
    simp [zEE]
theorem src16_l1 (l : List rCl) (hl : l.length ≤ 1000) (h : ∀ c, c ∈ l → COk c) (K : List RW → Option (Str × Int)) : ∀ (r : List rCl) (k q : Nat) (acc : List RW), l.drop k = r → k ≤ l.length → r.length < q → acc.length ≤ 65536 →
    zBC l K q acc (k : Int) = match srcB (r.map zCY) acc with | some v => K v | none => some ([], 4) := by
  intro r
  induction r with
  | nil =>
    intro k q acc hd hk hq ha
    obtain ⟨q, rfl⟩ : ∃ q', q = q' + 1 := ⟨q - 1, by simp at hq; omega⟩
    have : k = l.length := by have : l.length ≤ k := by simpa using hd
                              omega
    subst this
    simp only [zBC]
    rw [zAD, ifF]; rfl
  | cons c r ih =>
    intro k q acc hd hk hq ha
    obtain ⟨q, rfl⟩ : ∃ q', q = q' + 1 := ⟨q - 1, by simp at hq; omega⟩
    obtain ⟨e1, e2, e3⟩ := zAE hd
    have hc := h c (List.mem_of_getElem? e1)
    have hcl := zLs hc
    have hv := zEP c.Vars
    have hvv := hc.sm.v
    have hmt := zHa hc.ms
    have hmm := hc.sm.m
    have hml : (zEE c.Methods).length ≤ 820000 := by omega
    have h2 := src16_l2 c hc c.Methods 0 fuel (acc ++ [w0 0 c.Name, w0 2 [60], w0 0 c.Super] ++ zEy c.Vars ++ [w0 15 []]) rfl (Nat.zero_le _) (by unfold fuel; omega) (by simp; omega)
    rw [show ((0 : Nat) : Int) = 0 from rfl] at h2
    have hacc : acc ++ [w0 0 c.Name, w0 2 [60], w0 0 c.Super] ++ zEy c.Vars ++ [w0 15 []] ++ zEE c.Methods ++ [w0 16 []] = acc ++ zCY c := by simp [zCY]
    simp only [zBC]
    rw [zAB e3, if_pos rfl, zAf e1, zAa, w_eq, zAa, w_eq, zAa, w_eq, zAa, appB (by simp; unfold big9; omega), zAa, zI3 _ (by omega), zAa, appB (by simp; unfold big9; omega), zAa, w_eq, zAa, appB (by simp; unfold big9; omega), zAa, h2, zAa, w_eq, zAa, appB (by simp; unfold big9; omega), zAa, hacc]
    show _ = match (if 65536 < (acc ++ zCY c).length then none else srcB (r.map zCY) (acc ++ zCY c)) with | some v => K v | none => some ([], 4)
    by_cases hb : 65536 < (acc ++ zCY c).length
    · rw [decide_eq_true (by omega), if_pos rfl, if_pos hb]
    rw [decide_eq_false (by omega), ifF, if_neg hb, cks (by omega), zAa, ih (k+1) q _ e2 (by omega) (by simp at hq; omega) (by omega)]
theorem psrc_l1 (l : List rCl) (hl : l.length ≤ 1000) (h : ∀ c, c ∈ l → COk c) (M : tMt) (K : pwr → Option (Str × Option Int)) : ∀ (r : List rCl) (k q : Nat) (acc : List RW), l.drop k = r → k ≤ l.length → r.length < q → acc.length ≤ 65536 →
    zA9 (l.map zFb) K q (k : Int) (PW M (wm acc)) = match srcB (r.map zCY) acc with | some v => K (PW M (wm v)) | none => some ([], some 4) := by
  intro r
  induction r with
  | nil =>
    intro k q acc hd hk hq ha
    obtain ⟨q, rfl⟩ : ∃ q', q = q' + 1 := ⟨q - 1, by simp at hq; omega⟩
    have : k = l.length := by have : l.length ≤ k := by simpa using hd
                              omega
    subst this
    simp only [zA9]
    rw [List.length_map, decide_eq_false (by omega), ifF]; rfl
  | cons c r ih =>
    intro k q acc hd hk hq ha
    obtain ⟨q, rfl⟩ : ∃ q', q = q' + 1 := ⟨q - 1, by simp at hq; omega⟩
    obtain ⟨e1, e2, e3⟩ := zAE hd
    have hc := h c (List.mem_of_getElem? e1)
    have hcl := zLs hc
    have hv := zEP c.Vars
    have hvv := hc.sm.v
    have hmt := zHa hc.ms
    have hmm := hc.sm.m
    have hml : (zEE c.Methods).length ≤ 820000 := by omega
    have hg : lAt (l.map zFb) (k : Int) = some (zFb c) := zAf (by simp [e1])
    have n1 : (zFb c).Name = c.Name := rfl
    have n2 : (zFb c).Super = c.Super := rfl
    have n3 : (zFb c).Vars = c.Vars := rfl
    have h2 := psrc_l3 c hc c.Methods 0 fuel (wm acc ++ wm [w0 0 c.Name] ++ wm [w0 2 [60]] ++ wm [w0 0 c.Super] ++ wm (zEy c.Vars) ++ wm [w0 15 []]) rfl (Nat.zero_le _) (by unfold fuel; omega) (by simp; omega)
    rw [show ((0 : Nat) : Int) = 0 from rfl] at h2
    have hacc : wm acc ++ wm [w0 0 c.Name] ++ wm [w0 2 [60]] ++ wm [w0 0 c.Super] ++ wm (zEy c.Vars) ++ wm [w0 15 []] ++ wm (zEE c.Methods) ++ wm [w0 16 []] = wm (acc ++ zCY c) := by simp [zCY]
    simp only [zA9]
    rw [List.length_map, decide_eq_true (by omega), if_pos rfl, hg, zAa, n1, n2, n3, zBV M _ 0 _ (by simp; unfold lim; omega), zAa, zBV M _ 2 _ (by simp; unfold lim; omega), zAa, zBV M _ 0 _ (by simp; unfold lim; omega), zAa, zIm M _ _ (by omega) (by simp; unfold lim; omega), zAa, zD2 M _ 15 (by simp; unfold lim; omega), zAa, h2, zAa,
      zD2 M _ 16 (by simp; unfold lim; omega), zAa, hacc]
    show _ = match (if 65536 < (acc ++ zCY c).length then none else srcB (r.map zCY) (acc ++ zCY c)) with | some v => K (PW M (wm v)) | none => some ([], some 4)
    have hlw : (PW M (wm (acc ++ zCY c))).l.length = (acc ++ zCY c).length := by show (wm (acc ++ zCY c)).length = _; simp
    rw [hlw]
    by_cases hb : 65536 < (acc ++ zCY c).length
    · rw [decide_eq_true (by omega), if_pos rfl, if_pos hb]
    rw [decide_eq_false (by omega), ifF, if_neg hb, cks (by omega), zAa, ih (k+1) q _ e2 (by omega) (by simp at hq; omega) (by omega)]
theorem zOP (l : List rCl) (hl : l.length ≤ 70) (hf : ∀ c, c ∈ l → SmallC c) (hK : ∀ c, c ∈ l → ∀ m, m ∈ c.Methods → ∀ n, n ∈ m.Nodes → 0 ≤ n.K) : ∃ (t : Str) (e : Option Int), zDf (l.map zFb) = some (t, e) ∧ zDS l = some (t, X13.code e) := by
 obtain ⟨b, g1, g2⟩ := zMK l hl hf hK
 unfold zDf zDS
 rw [g1, g2, zAa, zAa]
 cases b with
 | false => exact ⟨[], some 1, rfl, rfl⟩
 | true =>
  have hok : ∀ c, c ∈ l → COk c := fun c hc => ⟨hf c hc, fun m hm => by
   have h1 := zLP l okM (fun c hc m hm => ((hf c hc).ms m hm).may (hK c hc m hm)) (by unfold bigN; omega) (fun c hc => by have := (hf c hc).v; unfold bigN; omega) (fun c hc => by have := (hf c hc).m; unfold bigN; omega)
   rw [g2] at h1
   have h2 : (decide (l.length ≤ 64) && l.all (zGz okM)) = true := (Option.some.inj h1).symm
   simp only [Bool.and_eq_true, List.all_eq_true] at h2
   have h3 := h2.2 c hc
   unfold zGz at h3
   simp only [Bool.and_eq_true, List.all_eq_true] at h3
   exact mOk_of ((hf c hc).ms m hm) (hK c hc m hm) (h3.2.2.2.2.2 m hm)⟩
  rw [if_pos rfl, Option.isSome_none, ifF, Bool.not_true, ifF]
  have p1 := psrc_l1 l (by omega) hok (tMt.mk [] [] [] [] []) (fun v67 => (zD4 v67.l).bind fun v68 => some (v68.1, v68.2)) l 0 fuel [] rfl (Nat.zero_le _) (by unfold fuel; omega) (by simp)
  have p2 := src16_l1 l (by omega) hok (fun v42 => (zDI v42).bind fun v43 => some (v43.1, v43.2)) l 0 fuel [] rfl (Nat.zero_le _) (by unfold fuel; omega) (by simp)
  rw [show ((0 : Nat) : Int) = 0 from rfl] at p1 p2
  rw [zBL, zBL, p2]
  have p1' : zA9 (l.map zFb) (fun v67 => (zD4 v67.l).bind fun v68 => some (v68.1, v68.2)) fuel 0 (pwr.mk (tMt.mk [] [] [] [] []) []) = _ := p1
  rw [p1']
  cases hs : srcB (l.map zCY) [] with
  | none => exact ⟨[], some 4, rfl, rfl⟩
  | some v =>
   have hvl := zNY hs (by simp)
   have hva := zNx hs AllW.nil fun x hx => by
    obtain ⟨c, hc, rfl⟩ := List.mem_map.1 hx
    exact zQi (hok c hc)
   have hsm := hva.sm (by omega)
   refine ⟨(X13.textB v).1, (X13.textB v).2, ?_, ?_⟩
   ·show ((zD4 (wm v)).bind fun v68 => some (v68.1, v68.2)) = _
    rw [X13.textl_eq hsm]; rfl
   show ((zDI v).bind fun v43 => some (v43.1, v43.2)) = _
   rw [X13.textr_eq hsm]; rfl
theorem zLr (l : List rCl) (hK : ∀ c, c ∈ l → ∀ m, m ∈ c.Methods → ∀ n, n ∈ m.Nodes → 0 ≤ n.K) : zCH l = some true := by
  unfold zCH
  rw [sure16, zAa]
  rcases bigC_eq l with h | ⟨h, hl, hf⟩
  · rw [h]; rfl
  obtain ⟨t, e, h1, h2⟩ := zOP l hl hf hK
  rw [h, zAa, ifF, giveC_eq l (by omega) hf, zAa, h1, zAa, h2, zAa]
  show ((zIY e).bind fun v8 => if decide (v8 = X13.code e) = true then if (t == t) = true then (some true : Option Bool) else some false else some false).bind (fun y6 => some y6) = _
  have hn : zIY e = some (X13.code e) := by cases e <;> rfl
  rw [hn, zAa, decide_eq_true rfl, if_pos rfl, beq_self_eq_true, if_pos rfl]
  rfl
end Go.Cq

