import Derived.Test.YtiboeelbmgnbgaaGreatDoorP2
set_option linter.unusedSectionVars false
set_option linter.unusedVariables false
set_option linter.unusedSimpArgs false
set_option linter.unnecessarySimpa false
set_option maxRecDepth 100000
namespace Go.Cq
open Go Go.Av
def sGet (S : List Nat) (k : Int) : Nat := match S[k.toNat]? with | some x => x | none => 3
def sumG (S : List Nat) : List Int → Nat
 | [] => 0
 | k :: r => sGet S k + 3 + sumG S r
def tabS (N : List rNd) : Nat → List Nat
 | 0 => []
 | i+1 => tabS N i ++ [match N[i]? with | some n => 210 + sumG (tabS N i) n.Kids | none => 3]
theorem zG1 (N : List rNd) : ∀ i, (tabS N i).length = i
 | 0 => rfl
 | i+1 => by simp [tabS, zG1 N i]
theorem zNI (N : List rNd) : ∀ (d j k : Nat), k < j → (tabS N (j + d))[k]? = (tabS N j)[k]?
 | 0, j, k, h => rfl
 | d+1, j, k, h => by
  show (tabS N (j + d) ++ _)[k]? = _
  rw [List.getElem?_append_left (by rw [zG1]; omega), zNI N d j k h]
theorem zOd (N : List rNd) {i j : Nat} (hij : j ≤ i) {k : Int} (h : k < (j : Int)) (h0 : 0 ≤ k) : sGet (tabS N i) k = sGet (tabS N j) k := by
 obtain ⟨k, rfl⟩ : ∃ k' : Nat, k = (k' : Int) := ⟨k.toNat, by omega⟩
 have := zNI N (i - j) j k (by omega)
 rw [show j + (i - j) = i by omega] at this
 unfold sGet
 simp only [Int.toNat_natCast]
 rw [this]
theorem zJO {S S' : List Nat} : ∀ {l : List Int}, (∀ k, k ∈ l → sGet S k = sGet S' k) → sumG S l = sumG S' l
 | [], _ => rfl
 | k :: r, h => by simp only [sumG]; rw [h k (by simp), zJO fun x hx => h x (by simp [hx])]
def sAt (m : rMt) (k : Int) : Nat := sGet (tabS m.Nodes m.Nodes.length) k
def sumS (m : rMt) (l : List Int) : Nat := sumG (tabS m.Nodes m.Nodes.length) l
theorem zC3 {m : rMt} {k : Int} {r : List Int} : sumS m (k :: r) = sAt m k + 3 + sumS m r := rfl
theorem zFD {m : rMt} : sumS m [] = 0 := rfl
theorem zNy {m : rMt} (hm : MOk m) {i : Nat} {n : rNd} (hn : m.Nodes[i]? = some n) : sAt m (i : Int) = 210 + sumS m n.Kids := by
 have hk := hm.kids hn
 have hi := (List.getElem?_eq_some_iff.1 hn).1
 unfold sAt sumS
 rw [zOd m.Nodes (j := i + 1) (by omega) (by omega) (by omega)]
 have : (tabS m.Nodes (i+1))[i]? = some (210 + sumG (tabS m.Nodes i) n.Kids) := by
  simp only [tabS, hn]
  rw [List.getElem?_append_right (by rw [zG1]; exact Nat.le_refl _), zG1]; simp
 unfold sGet
 simp only [Int.toNat_natCast, this]
 congr 1
 exact zJO fun k hkm => (zOd m.Nodes (by omega) (hk k hkm).2 (hk k hkm).1).symm
theorem zMR {m : rMt} : ∀ {l : List Int}, (∀ k, k ∈ l → (oAt (zA0 m) k).length + 3 ≤ sAt m k) → sumK (zA0 m) l ≤ sumS m l
 | [], _ => Nat.le_refl _
 | k :: r, h => by
  have h1 := h k (by simp)
  have h2 := zMR (m := m) (l := r) fun x hx => h x (by simp [hx])
  unfold sAt at h1
  unfold sumS at h2 ⊢
  simp only [sumK, sumG]; omega
theorem sAt_geN {m : rMt} (hm : MOk m) : ∀ i : Nat, (oAt (zA0 m) (i : Int)).length + 3 ≤ sAt m (i : Int) := by
 intro i
 induction i using Nat.strongRecOn with
 | _ i ih =>
  rcases Nat.lt_or_ge i m.Nodes.length with h | h
  ·obtain ⟨n, hn⟩ : ∃ n, m.Nodes[i]? = some n := ⟨_, List.getElem?_eq_getElem h⟩
   have hk := hm.kids hn
   have hmem := List.mem_of_getElem? hn
   have h1 := zOc (N := m.Nodes) (O := tabO m.Nodes m.Nodes.length) (hm.n.may n hmem) (hm.n.l n hmem)
   have h2 : sumK (tabO m.Nodes m.Nodes.length) n.Kids ≤ sumS m n.Kids := zMR fun k hkm => by
    obtain ⟨k, rfl⟩ : ∃ k' : Nat, k = (k' : Int) := ⟨k.toNat, by have := (hk k hkm).1; omega⟩
    exact ih k (by have := (hk _ hkm).2; omega)
   show (oAt (tabO m.Nodes m.Nodes.length) (i : Int)).length + 3 ≤ _
   rw [zJW hm.n hn hk h, zNy hm hn]
   omega
  have h1 : oAt (zA0 m) (i : Int) = [] := by
   unfold oAt
   rw [List.getElem?_eq_none (by simp [zDz]; omega)]
  have h2 : sAt m (i : Int) = 3 := by
   unfold sAt sGet
   rw [List.getElem?_eq_none (by simp [zG1]; omega)]
  rw [h1, h2]; simp
theorem zFS {m : rMt} (hm : MOk m) (k : Int) : (oAt (zA0 m) k).length + 3 ≤ sAt m k := by
 have := sAt_geN hm k.toNat
 have e1 : oAt (zA0 m) k = oAt (zA0 m) (k.toNat : Int) := by unfold oAt; rw [Int.toNat_natCast]
 have e2 : sAt m k = sAt m (k.toNat : Int) := by unfold sAt sGet; rw [Int.toNat_natCast]
 rw [e1, e2]; exact this
theorem sumK_leS {m : rMt} (hm : MOk m) (l : List Int) : sumK (zA0 m) l ≤ sumS m l := zMR fun k _ => zFS hm k
abbrev wm (x : List RW) : List lWd := x.map X13.ucv
abbrev PW := pwr.mk
abbrev lim : Nat := 900000000
theorem zBV (M : tMt) (l : List lWd) (k : Int) (s : Str) (h : l.length ≤ lim) : zAR (PW M l) k s = some (PW M (l ++ wm [w0 k s])) := by
 unfold zAR
 rw [appB (by unfold lim at h; simp; unfold big9; omega), zAa]
 rfl
theorem add_l1 (ks : List Int) (hk : ks.length ≤ 1000) : ∀ (r : List Int) (i q : Nat) (l : List lWd), ks.drop i = r → i ≤ ks.length → r.length < q → l.length + r.length ≤ lim + 1000 → zCV ks q (i : Int) l = some (l ++ wm (r.map fun k => w0 k [])) := by
  intro r
  induction r with
  | nil =>
    intro i q l h hi hq hl
    obtain ⟨q, rfl⟩ : ∃ q', q = q' + 1 := ⟨q - 1, by simp at hq; omega⟩
    have : i = ks.length := by have : ks.length ≤ i := by simpa using h
                               omega
    subst this
    simp only [zCV]
    rw [zAD, ifF]; simp
  | cons k r ih =>
    intro i q l h hi hq hl
    obtain ⟨q, rfl⟩ : ∃ q', q = q' + 1 := ⟨q - 1, by simp at hq; omega⟩
    obtain ⟨e1, e2, e3⟩ := zAE h
    unfold lim at hl
    simp only [zCV]
    rw [zAB e3, if_pos rfl, zAf e1, zAa, appB (by simp at hl ⊢; unfold big9; omega), zAa, cks (by omega), zAa, ih (i+1) q _ e2 (by omega) (by simp at hq; omega) (by unfold lim; simp at hl ⊢; omega)]
    simp [w0, X13.ucv]
theorem zD2 (M : tMt) (l : List lWd) (k : Int) (h : l.length ≤ lim) : zBP (PW M l) ([k] : List Int) = some (PW M (l ++ wm [w0 k []])) := by
 unfold zBP
 have := add_l1 [k] (by simp) [k] 0 fuel l rfl (by simp) (by unfold fuel; simp) (by simp; omega)
 rw [show ((0 : Nat) : Int) = 0 from rfl] at this
 rw [this, zAa]
 rfl
theorem pvars_l1 (M : tMt) (ns : List Str) (hn : ns.length ≤ 1000) : ∀ (r : List Str) (i q : Nat) (l : List lWd), ns.drop i = r → i ≤ ns.length → r.length < q → l.length + r.length ≤ lim → zCm ns q (i : Int) (PW M l) = some (PW M (l ++ wm (r.map (w0 0)))) := by
  intro r
  induction r with
  | nil =>
    intro i q l h hi hq hl
    obtain ⟨q, rfl⟩ : ∃ q', q = q' + 1 := ⟨q - 1, by simp at hq; omega⟩
    have : i = ns.length := by have : ns.length ≤ i := by simpa using h
                               omega
    subst this
    simp only [zCm]
    rw [zAD, ifF]; simp
  | cons k r ih =>
    intro i q l h hi hq hl
    obtain ⟨q, rfl⟩ : ∃ q', q = q' + 1 := ⟨q - 1, by simp at hq; omega⟩
    obtain ⟨e1, e2, e3⟩ := zAE h
    simp only [zCm]
    rw [zAB e3, if_pos rfl, zAf e1, zAa, zBV M l 0 k (by omega), zAa, cks (by omega), zAa, ih (i+1) q _ e2 (by omega) (by simp at hq; omega) (by simp at hl ⊢; omega)]
    simp
theorem zIm (M : tMt) (l : List lWd) (ns : List Str) (hn : ns.length ≤ 1000) (h : l.length + (zEy ns).length ≤ lim) : zD8 (PW M l) ns = some (PW M (l ++ wm (zEy ns))) := by
  unfold zD8
  cases ns with
  | nil => simp [zEy]
  | cons x r =>
    have hv : zEy (x :: r) = w0 14 [] :: ((x :: r).map (w0 0) ++ [w0 14 []]) := rfl
    rw [hv] at h ⊢
    simp only [List.length_cons, List.length_append, List.length_map, List.length_nil] at h
    have h1 := pvars_l1 M (x :: r) hn (x :: r) 0 fuel (l ++ wm [w0 14 []]) rfl (Nat.zero_le _) (by unfold fuel; omega) (by simp at h ⊢; omega)
    rw [show ((0 : Nat) : Int) = 0 from rfl] at h1
    rw [decide_eq_false (by simp <;> omega), ifF, zD2 M l 14 (by omega), zAa, h1, zAa, zD2 M _ 14 (by simp at h ⊢; omega), zAa]
    simp
section
variable {m : rMt} (hm : MOk m)
theorem zNZ {m : rMt} {j : Nat} {n : rNd} (h : m.Nodes[j]? = some n) : lAt (zAl m).Nodes (j : Int) = some (zAd n) := zAf (zG0 h)
theorem zRN {m : rMt} (hm : MOk m) (l : List lWd) {j : Nat} {n : rNd} (hn : m.Nodes[j]? = some n) (least : Int) :
  zE7 (PW (zAl m) l) (j : Int) least = some (inW n.K n.S least, PW (zAl m) l) := by
 unfold zE7
 have h1 : lAt (PW (zAl m) l).m.Nodes (j : Int) = some (zAd n) := zNZ hn
 have hmay := hm.n.may n (List.mem_of_getElem? hn)
 rw [h1, zAa]
 show Option.bind (if decide (n.K = 8) = true then some true else if decide (n.K = 10) = true then some true else if decide (n.K = 9) = true then (zCU n.S).bind fun v9 => some (decide (v9 < least)) else some false) _ = _
 unfold inW
 by_cases h8 : n.K = 8
 ·rw [decide_eq_true h8, if_pos rfl, zAa, Bool.true_or]
 rw [decide_eq_false h8, ifF, Bool.false_or]
 by_cases h10 : n.K = 10
 ·rw [decide_eq_true h10, if_pos rfl, zAa, Bool.true_or]
 rw [decide_eq_false h10, ifF, Bool.false_or]
 by_cases h9 : n.K = 9
 ·rw [decide_eq_true h9, if_pos rfl, zKp n.S (zFQ (may9 hmay h9)).2, zAa, zAa, Bool.true_and]
 rw [decide_eq_false h9, ifF, zAa, Bool.false_and]
def zGv (m : rMt) (r : R_pwr_stmts) (j : Int) : Prop := ∀ l : List lWd, l.length + sAt m j ≤ lim → r.pwr_node (PW (zAl m) l) j = some (PW (zAl m) (l ++ wm (oAt (zA0 m) j)))
def zMz (m : rMt) (r : R_pwr_stmts) (j : Int) : Prop := ∀ (l : List lWd) (least : Int), l.length + sAt m j + 2 ≤ lim → r.pwr_kid (PW (zAl m) l) j least = some (PW (zAl m) (l ++ wm (parW (inW (nK m.Nodes j).1 (nK m.Nodes j).2 least) (oAt (zA0 m) j))))
theorem kid_ok {m : rMt} (hm : MOk m) {r : R_pwr_stmts} {j : Nat} {n : rNd} (hn : m.Nodes[j]? = some n) (h : zGv m r (j : Int)) (l : List lWd) (least : Int) (hl : l.length + sAt m (j : Int) + 2 ≤ lim) :
  zFX r (PW (zAl m) l) (j : Int) least = some (PW (zAl m) (l ++ wm (parW (inW (nK m.Nodes (j : Int)).1 (nK m.Nodes (j : Int)).2 least) (oAt (zA0 m) (j : Int))))) := by
 unfold zFX
 have hS := zFS hm (j : Int)
 rw [zRN hm l hn, zAa, zOg hn]
 unfold parW
 dsimp only
 cases inW n.K n.S least with
 | false => rw [Bool.not_false, if_pos rfl, h l (by omega), zAa, ifF]
 | true =>
  rw [Bool.not_true, ifF, zD2 _ l 10 (by omega), zAa, h _ (by simp; omega), zAa, zD2 _ _ 11 (by simp; omega), zAa, if_pos rfl]
  simp
theorem msg_loop {m : rMt} (hm : MOk m) {r : R_pwr_stmts} (kids : List Int) (ks : List Str) (hks : ks.length ≤ kids.length) (hkl : kids.length ≤ 1000) (s : Str) (hs : zCS s = 2) (hk : ∀ k, k ∈ kids → zMz m r k) :
    ∀ (rs : List Str) (i q : Nat) (l : List lWd), ks.drop i = rs → i ≤ ks.length → rs.length < q → l.length + (sumS m (kids.drop i)) ≤ lim → zBY kids r ks q (i : Int) (PW (zAl m) l) = some (PW (zAl m) (l ++ wm (zipW rs ((kids.drop i).map (argW m.Nodes (zA0 m) s))))) := by
  intro rs
  induction rs with
  | nil =>
    intro i q l h hi hq hl
    obtain ⟨q, rfl⟩ : ∃ q', q = q' + 1 := ⟨q - 1, by simp at hq; omega⟩
    have : i = ks.length := by have : ks.length ≤ i := by simpa using h
                               omega
    subst this
    simp only [zBY]
    rw [zAD, ifF]; simp [zipW]
  | cons k rs ih =>
    intro i q l h hi hq hl
    obtain ⟨q, rfl⟩ : ∃ q', q = q' + 1 := ⟨q - 1, by simp at hq; omega⟩
    obtain ⟨e1, e2, e3⟩ := zAE h
    have hia : i < kids.length := by omega
    have hd : kids.drop i = kids[i] :: kids.drop (i+1) := List.drop_eq_getElem_cons hia
    rw [hd] at hl ⊢
    simp only [zC3, zFD] at hl
    have hS := zFS hm kids[i]
    have hp := zD5 (inW (nK m.Nodes kids[i]).1 (nK m.Nodes kids[i]).2 (zCS s)) (oAt (zA0 m) kids[i])
    have harg : argW m.Nodes (zA0 m) s kids[i] = parW (inW (nK m.Nodes kids[i]).1 (nK m.Nodes kids[i]).2 2) (oAt (zA0 m) kids[i]) := by unfold argW; rw [hs]
    have hlen : (argW m.Nodes (zA0 m) s kids[i]).length ≤ (oAt (zA0 m) kids[i]).length + 2 := hp
    simp only [zBY]
    rw [zAB e3, if_pos rfl, zAf e1, zAa, zBV _ l 1 k (by omega), zAa, zAf (List.getElem?_eq_getElem hia), zAa, hk _ (List.getElem_mem hia) _ 2 (by simp; omega), zAa, cks (by omega), zAa, ← harg,
      ih (i+1) q _ e2 (by omega) (by simp at hq; omega) (by simp; omega)]
    simp only [List.map_cons, zipW, List.map_append, List.map_nil, List.append_assoc, List.cons_append, List.nil_append]
theorem zJN {m : rMt} (hm : MOk m) {r : R_pwr_stmts} (kids : List Int) (s : Str) (ha : arity s = ((kids.length : Int), true)) (hkl : kids.length ≤ 1000) (hk : ∀ k, k ∈ kids → zMz m r k) (l : List lWd) (hl : l.length + 1 + sumS m kids ≤ lim) :
  zDs r (PW (zAl m) l) s kids = some (PW (zAl m) (l ++ wm (msgW m.Nodes (zA0 m) s kids))) := by
 unfold zDs msgW zIa
 obtain ⟨hs, hs2⟩ := zFQ ha
 rw [zKp s hs2, zAa]
 rcases zBB ha with h | h | h
 ·rw [h.1, decide_eq_true rfl, if_pos rfl, zBV _ l 0 s (by omega), zAa, zAa, if_pos rfl]
 ·obtain ⟨k, hkk⟩ : ∃ k, kids = [k] := by
   cases kids with
   | nil => simp at h
   | cons a r => cases r with
    | nil => exact ⟨a, rfl⟩
    | cons b r => simp at h; omega
  subst hkk
  have hS := zFS hm k
  have hl0 : lAt ([k] : List Int) (0 : Int) = some k := rfl
  have harg : argW m.Nodes (zA0 m) s k = parW (inW (nK m.Nodes k).1 (nK m.Nodes k).2 3) (oAt (zA0 m) k) := by unfold argW zCS; rw [h.1]; rfl
  simp only [zC3, zFD] at hl
  rw [h.1, decide_eq_false (by decide), ifF, decide_eq_true rfl, if_pos rfl, zBV _ l 2 s (by omega), zAa, hl0, zAa, hk k (by simp) _ 3 (by simp; omega), zAa, zAa, zAa, ← harg, if_neg (by decide), if_pos rfl]
  simp [hd0]
 obtain ⟨h1, h2, h3, h4, h5⟩ := h
 have hle : zCS s = 2 := by unfold zCS; rw [h1]; rfl
 have hsp : strings_Split s.dropLast [58] = some (zER s) := zI8 58 (by simp; omega)
 have hloop := msg_loop hm (r := r) kids (zER s) (by omega) hkl s hle hk (zER s) 0 fuel l rfl (Nat.zero_le _) (by unfold fuel; omega) (by simp; omega)
 rw [show ((0 : Nat) : Int) = 0 from rfl] at hloop
 rw [h1, decide_eq_false (by decide), ifF, decide_eq_false (by decide), ifF, zFy s hs2 h2, zAa, hsp, zAa, hloop, zAa, zAa, zAa, if_neg (by decide), if_neg (by decide)]
 simp
theorem zOj {m : rMt} (hm : MOk m) {r : R_pwr_stmts} (kids : List Int) (hkl : kids.length ≤ 1000) (hk : ∀ k, k ∈ kids → zGv m r k) :
    ∀ (rs : List Int) (i q : Nat) (l : List lWd), kids.drop i = rs → 0 < i → i ≤ kids.length → rs.length < q → l.length + sumS m rs ≤ lim → zB7 kids r q (i : Int) (PW (zAl m) l) = some (PW (zAl m) (l ++ wm (sepT 9 (rs.map (oAt (zA0 m)))))) := by
  intro rs
  induction rs with
  | nil =>
    intro i q l h h0 hi hq hl
    obtain ⟨q, rfl⟩ : ∃ q', q = q' + 1 := ⟨q - 1, by simp at hq; omega⟩
    have : i = kids.length := by have : kids.length ≤ i := by simpa using h
                                 omega
    subst this
    simp only [zB7]
    rw [zAD, ifF]; simp [sepT]
  | cons k rs ih =>
    intro i q l h h0 hi hq hl
    obtain ⟨q, rfl⟩ : ∃ q', q = q' + 1 := ⟨q - 1, by simp at hq; omega⟩
    obtain ⟨e1, e2, e3⟩ := zAE h
    have hS := zFS hm k
    simp only [zC3, zFD] at hl
    simp only [zB7]
    rw [zAB e3, if_pos rfl, zAf e1, zAa, decide_eq_true (by omega), if_pos rfl, zD2 _ l 9 (by omega), zAa, zAa, hk k (List.mem_of_getElem? e1) _ (by simp; omega), zAa, cks (by omega), zAa, ih (i+1) q _ e2 (by omega) (by omega) (by simp at hq; omega) (by simp; omega)]
    simp [sepT]
theorem zNB {m : rMt} (hm : MOk m) {r : R_pwr_stmts} (kids : List Int) (hkl : kids.length ≤ 1000) (hk : ∀ k, k ∈ kids → zGv m r k) (l : List lWd) (hl : l.length + sumS m kids ≤ lim) :
    zEr r (PW (zAl m) l) kids = some (PW (zAl m) (l ++ wm (sepW 9 (kids.map (oAt (zA0 m)))))) := by
  unfold zEr
  rw [show (fuel : Nat) = (fuel - 1) + 1 from rfl]
  simp only [zB7]
  cases kids with
  | nil => simp [sepW]
  | cons k rs =>
    have hS := zFS hm k
    simp only [zC3, zFD] at hl
    have h1 := zOj hm (r := r) (k :: rs) hkl hk rs 1 (fuel - 1) (l ++ wm (oAt (zA0 m) k)) rfl (by omega) (by simp) (by simp at hkl; unfold fuel; omega) (by simp; omega)
    have hl0 : lAt (k :: rs) (0 : Int) = some k := rfl
    rw [decide_eq_true (by simp <;> omega), if_pos rfl, hl0, zAa, decide_eq_false (by omega), ifF, zAa, hk k (by simp) l (by omega), zAa, show ck ((0 : Int) + 1) = some ((1 : Nat) : Int) from rfl, zAa, h1, zAa]
    simp [sepW]
end
end Go.Cq

set_option maxRecDepth 100000
namespace Go.Cq
open Go Go.Av
section
variable {m : rMt} (hm : MOk m)
theorem block_l1 (M : tMt) (ns : List Str) (hn : ns.length ≤ 1000) : ∀ (r : List Str) (i q : Nat) (l : List lWd), ns.drop i = r → i ≤ ns.length → r.length < q → l.length + r.length ≤ lim → zCK ns q (i : Int) (PW M l) = some (PW M (l ++ wm (r.map (w0 5)))) := by
  intro r
  induction r with
  | nil =>
    intro i q l h hi hq hl
    obtain ⟨q, rfl⟩ : ∃ q', q = q' + 1 := ⟨q - 1, by simp at hq; omega⟩
    have : i = ns.length := by have : ns.length ≤ i := by simpa using h
                               omega
    subst this
    simp only [zCK]
    rw [zAD, ifF]; simp
  | cons k r ih =>
    intro i q l h hi hq hl
    obtain ⟨q, rfl⟩ : ∃ q', q = q' + 1 := ⟨q - 1, by simp at hq; omega⟩
    obtain ⟨e1, e2, e3⟩ := zAE h
    simp only [zCK]
    rw [zAB e3, if_pos rfl, zAf e1, zAa, zBV M l 5 k (by simp at hl; omega), zAa, cks (by omega), zAa, ih (i+1) q _ e2 (by omega) (by simp at hq; omega) (by simp at hl ⊢; omega)]
    simp
include hm in
theorem block_ok {r : R_pwr_stmts} {n : rNd} (n0 : 0 ≤ n.N) (nl : n.N ≤ (n.L.length : Int)) (hL : n.L.length ≤ 40)
  (hst : ∀ l : List lWd, l.length + sumS m n.Kids ≤ lim → r.pwr_stmts (PW (zAl m) l) n.Kids = some (PW (zAl m) (l ++ wm (sepW 9 (n.Kids.map (oAt (zA0 m))))))) (l : List lWd) (hl : l.length + 100 + sumS m n.Kids ≤ lim) :
  zEj r (PW (zAl m) l) (zAd n) = some (PW (zAl m) (l ++ wm (zHO (zA0 m) n))) := by
 obtain ⟨c, hc⟩ : ∃ c : Nat, n.N = (c : Int) := ⟨n.N.toNat, by omega⟩
 have hcl : c ≤ n.L.length := by omega
 unfold zEj
 have s1 : sub (zAd n).L 0 (zAd n).N = some (n.L.take c) := by
  show sub n.L 0 n.N = _
  rw [hc]; exact sub0 hcl
 have s2 : sub (zAd n).L (zAd n).N ((zAd n).L.length : Int) = some (n.L.drop c) := by
  show sub n.L n.N (n.L.length : Int) = _
  unfold sub; rw [if_pos ⟨by omega, by omega, by omega⟩, hc]; simp
 have hb := block_l1 (zAl m) (n.L.take c) (by simp; omega) (n.L.take c) 0 fuel (l ++ wm [w0 12 []]) rfl (Nat.zero_le _) (by simp; unfold fuel; omega) (by simp; omega)
 rw [show ((0 : Nat) : Int) = 0 from rfl] at hb
 have hvl := zEP (n.L.drop c)
 have hvd : (n.L.drop c).length ≤ 40 := by simp; omega
 have htl : ((n.L.take c).map (w0 5)).length ≤ 40 := by simp; omega
 have hsl : (sepW 9 (n.Kids.map (oAt (zA0 m)))).length ≤ sumS m n.Kids := Nat.le_trans (zKb (O := zA0 m) (k := 9) n.Kids) (sumK_leS hm n.Kids)
 have hnk : (zAd n).Kids = n.Kids := rfl
 have hnN : (zAd n).N = n.N := rfl
 rw [zD2 _ l 12 (by omega), zAa, s1, zAa, hb, zAa, s2, hnk, hnN]
 unfold zHO
 rw [hc, Int.toNat_natCast]
 by_cases hp : 0 < (c : Int)
 ·rw [decide_eq_true hp, if_pos rfl, if_pos hp, zD2 _ _ 14 (by simp at htl ⊢; omega), zAa, zAa, zAa, zIm _ _ _ (by omega) (by simp at htl ⊢; omega), zAa, hst _ (by simp at htl ⊢; omega), zAa, zD2 _ _ 13 (by simp at htl ⊢; omega), zAa]
  simp
 rw [decide_eq_false hp, ifF, if_neg hp, zAa, zAa, zIm _ _ _ (by omega) (by simp at htl ⊢; omega), zAa, hst _ (by simp at htl ⊢; omega), zAa, zD2 _ _ 13 (by simp at htl ⊢; omega), zAa]
 simp
def MsgOk (m : rMt) (r : R_pwr_stmts) (k : Int) : Prop := ∃ nk, lAt m.Nodes k = some nk ∧ nK m.Nodes k = (nk.K, nk.S) ∧ ∀ l : List lWd, l.length + sAt m k ≤ lim → r.pwr_message (PW (zAl m) l) nk.S nk.Kids = some (PW (zAl m) (l ++ wm (oAt (zA0 m) k)))
theorem zN3 {k : Int} {nk : rNd} (h : lAt m.Nodes k = some nk) : lAt (zAl m).Nodes k = some (zAd nk) := by
 unfold lAt at h ⊢
 split at h
 ·rename_i h0
  rw [if_pos h0]
  simp [zAl, h]
 cases h
include hm in
theorem zPV {r : R_pwr_stmts} (n : tNd) (kids : List Int) (hkl : kids.length ≤ 1000) (hk : ∀ k, k ∈ kids → MsgOk m r k) :
    ∀ (rs : List Int) (i q : Nat) (l : List lWd), kids.drop i = rs → 0 < i → i ≤ kids.length → rs.length < q → l.length + sumS m rs ≤ lim → zBk n r kids q (i : Int) (PW (zAl m) l) = some (PW (zAl m) (l ++ wm (sepT 8 (rs.map (oAt (zA0 m)))))) := by
  intro rs
  induction rs with
  | nil =>
    intro i q l h h0 hi hq hl
    obtain ⟨q, rfl⟩ : ∃ q', q = q' + 1 := ⟨q - 1, by simp at hq; omega⟩
    have : i = kids.length := by have : kids.length ≤ i := by simpa using h
                                 omega
    subst this
    simp only [zBk]
    rw [zAD, ifF]; simp [sepT]
  | cons k rs ih =>
    intro i q l h h0 hi hq hl
    obtain ⟨q, rfl⟩ : ∃ q', q = q' + 1 := ⟨q - 1, by simp at hq; omega⟩
    obtain ⟨e1, e2, e3⟩ := zAE h
    obtain ⟨nk, n1, n2, n3⟩ := hk k (List.mem_of_getElem? e1)
    have hg : lAt (PW (zAl m) l).m.Nodes k = some (zAd nk) := zN3 n1
    have hSk := zFS hm k
    simp only [zC3, zFD] at hl
    simp only [zBk]
    rw [zAB e3, if_pos rfl, zAf e1, zAa, hg, zAa, decide_eq_false (by omega), ifF, zD2 _ l 8 (by omega), zAa, zAa]
    have h3 := n3 (l ++ wm [w0 8 []]) (by simp; omega)
    have hS : (zAd nk).S = nk.S := rfl
    have hK : (zAd nk).Kids = nk.Kids := rfl
    rw [hS, hK, h3, zAa, cks (by omega), zAa, ih (i+1) q _ e2 (by omega) (by omega) (by simp at hq; omega) (by simp; omega)]
    simp [sepT]
include hm in
theorem casc_ok {r : R_pwr_stmts} {n : rNd} (h3 : 2 ≤ n.Kids.length) (hkl : n.Kids.length ≤ 1000) (hto : ∀ (l : List lWd) (s : Str), s.length ≤ 1000 → l.length + sAt m (kid0 n.Kids) + 2 ≤ lim → r.pwr_to (PW (zAl m) l) (kid0 n.Kids) s = some (PW (zAl m) (l ++ wm (toW m.Nodes (zA0 m) s (kid0 n.Kids)))))
    (hk : ∀ k, k ∈ n.Kids.drop 1 → MsgOk m r k) (hs : ∀ k, k ∈ n.Kids.drop 1 → (nK m.Nodes k).2.length ≤ 1000) (l : List lWd) (hl : l.length + sumS m n.Kids ≤ lim) :
    zDr r (PW (zAl m) l) (zAd n) = some (PW (zAl m) (l ++ wm (zM6 m.Nodes (zA0 m) n))) := by
  obtain ⟨k0, k1, rs, hr⟩ : ∃ k0 k1 rs, n.Kids = k0 :: k1 :: rs := by
    cases h : n.Kids with
    | nil => rw [h] at h3; simp at h3
    | cons a l => cases l with
      | nil => rw [h] at h3; simp at h3
      | cons b l => exact ⟨a, b, l, rfl⟩
  unfold zDr zM6
  have hK : (zAd n).Kids = n.Kids := rfl
  rw [hK, sub1 (by omega), zAa]
  rw [hr] at hto hk hs hl hkl ⊢
  have hd1 : (k0 :: k1 :: rs).drop 1 = k1 :: rs := rfl
  rw [hd1] at hk hs ⊢
  have hk0 : kid0 (k0 :: k1 :: rs) = k0 := rfl
  have hk1 : kid0 (k1 :: rs) = k1 := rfl
  rw [hk0] at hto ⊢
  rw [hk1]
  obtain ⟨nk, n1, n2, n3⟩ := hk k1 (by simp)
  have hg : lAt (PW (zAl m) l).m.Nodes k1 = some (zAd nk) := zN3 n1
  have hS : (zAd nk).S = nk.S := rfl
  have hKK : (zAd nk).Kids = nk.Kids := rfl
  have hsl := hs k1 (by simp)
  rw [n2] at hsl
  have hS0 := zFS hm k0
  have hS1 := zFS hm k1
  simp only [zC3, zFD] at hl
  have htl : (toW m.Nodes (zA0 m) nk.S k0).length ≤ (oAt (zA0 m) k0).length + 2 := zD5 _ _
  have hlp := zPV hm (r := r) (zAd n) (k1 :: rs) (by simp at hkl ⊢; omega) hk rs 1 (fuel - 1) (l ++ wm (toW m.Nodes (zA0 m) nk.S k0) ++ wm (oAt (zA0 m) k1)) rfl (by omega) (by simp) (by simp at hkl; unfold fuel; omega) (by simp; omega)
  have hl0 : lAt (k1 :: rs) (0 : Int) = some k1 := rfl
  have hl00 : lAt (k0 :: k1 :: rs) (0 : Int) = some k0 := rfl
  have hl00' : lAt (zAd n).Kids (0 : Int) = some k0 := by rw [hK, hr]; rfl
  rw [show (fuel : Nat) = (fuel - 1) + 1 from rfl]
  simp only [zBk]
  rw [decide_eq_true (by simp <;> omega), if_pos rfl, hl0, zAa, hg, zAa, decide_eq_true trivial, if_pos rfl, hl00', zAa, hS, hto l nk.S hsl (by omega), zAa, zAa, hKK, n3 _ (by simp; omega), zAa, show ck ((0 : Int) + 1) = some ((1 : Nat) : Int) from rfl, zAa, hlp, zAa, n2]
  simp [sepW]
theorem zQq (M : tMt) (l : List lWd) (s : Str) (hs : s.length ≤ 1000000) (hl : l.length + 2 ≤ lim) : zE1 (PW M l) s = some (PW M (l ++ wm (numW s))) := by
 unfold zE1 numW
 rw [zH4 s hs, zAa]
 cases s with
 | nil => rw [show zA3 ([] : Str) = ([], false) from rfl]; dsimp only; rw [ifF, zAa, zBV M l 3 [] (by omega), zAa]
 | cons c r =>
  by_cases hc : c = 45
  ·subst hc
   have : zA3 (45 :: r : Str) = (r, true) := by simp [zA3]
   rw [this]
   dsimp only
   rw [if_pos rfl, zBV M l 2 [45] (by omega), zAa, zAa, zBV M _ 3 r (by simp; omega), zAa]
   simp
  have : zA3 (c :: r : Str) = (c :: r, false) := by simp [zA3, hc]
  rw [this]
  dsimp only
  rw [ifF, zAa, zBV M l 3 (c :: r) (by omega), zAa]
  split
  ·rename_i e; cases e; exact absurd rfl hc
  rfl
end
end Go.Cq

set_option maxRecDepth 100000
namespace Go.Cq
open Go Go.Av
mutual
theorem Tr.room {m : rMt} (hm : MOk m) {lo i h : Nat} : Tr (m.Nodes.map zAd) lo i h → sAt m (i : Int) + 3 ≤ 216 * (i + 1 - lo)
 | .mk (n := x) hn hmay hf => by
  obtain ⟨n, h1, h2⟩ := zDy hn
  have hs := Fo.room hm hf
  have hl := hf.le.1
  subst h2
  rw [zNy hm h1]
  have e : (zAd n).Kids = n.Kids := rfl
  rw [e] at hs
  omega
theorem Fo.room {m : rMt} (hm : MOk m) {P : Nat → Bool × Bool × Bool} {k lo hi h : Nat} {l : List Int} : Fo (m.Nodes.map zAd) P k lo hi l h → sumS m l ≤ 216 * (hi - lo)
 | .nil => by rw [zFD]; omega
 | .cons (j := j) hj hs ht hr => by
  have h1 := Tr.room hm ht
  have h2 := Fo.room hm hr
  have l1 := ht.le
  have l2 := hr.le.1
  rw [zC3]
  omega
end
section
variable {m : rMt} (hm : MOk m)
abbrev Rn := zAw
theorem to_ok {m : rMt} {r : R_pwr_stmts} {k : Int} (h : zMz m r k) (l : List lWd) (s : Str) (hs : s.length ≤ 1000) (hl : l.length + sAt m k + 2 ≤ lim) : zHn r (PW (zAl m) l) k s = some (PW (zAl m) (l ++ wm (toW m.Nodes (zA0 m) s k))) := by
 unfold zHn
 rw [zKp s hs, zAa, h l _ hl, zAa]
 rfl
theorem zRt {m : rMt} (hm : MOk m) {i : Nat} {n : rNd} (hn : m.Nodes[i]? = some n) {r : R_pwr_stmts}
    (h11 : n.K ≠ 11) (hN : n.K = 8 ∨ n.K = 13 → ∀ k, k ∈ n.Kids → zGv m r k)
    (hT : n.K = 9 → ∀ k, k ∈ n.Kids → ∀ (l : List lWd) (s : Str), s.length ≤ 1000 → l.length + sAt m k + 2 ≤ lim → r.pwr_to (PW (zAl m) l) k s = some (PW (zAl m) (l ++ wm (toW m.Nodes (zA0 m) s k))))
    (hM : n.K = 9 → ∀ (kids : List Int) (s : Str), (∀ k, k ∈ kids → k ∈ n.Kids) → arity s = ((kids.length : Int), true) → ∀ l : List lWd, l.length + 1 + sumS m kids ≤ lim → r.pwr_message (PW (zAl m) l) s kids = some (PW (zAl m) (l ++ wm (msgW m.Nodes (zA0 m) s kids))))
    (hC : n.K = 10 → ∀ l : List lWd, l.length + sumS m n.Kids ≤ lim → r.pwr_cascade (PW (zAl m) l) (zAd n) = some (PW (zAl m) (l ++ wm (zM6 m.Nodes (zA0 m) n))))
    (hB : n.K = 12 → ∀ l : List lWd, l.length + 100 + sumS m n.Kids ≤ lim → r.pwr_block (PW (zAl m) l) (zAd n) = some (PW (zAl m) (l ++ wm (zHO (zA0 m) n))))
    (l : List lWd) (hl : l.length + 200 + sumS m n.Kids ≤ lim) : zEb r (PW (zAl m) l) (i : Int) = some (PW (zAl m) (l ++ wm (zFU m.Nodes (zA0 m) n))) := by
  have hmem := List.mem_of_getElem? hn
  have hmay := hm.n.may n hmem
  have h0 := hm.n.k0 n hmem
  have h13 := may_le hmay
  have hsn := hm.sm.ns n hmem
  have hSl := hsn.s
  unfold zEb zFU
  have hg : lAt (PW (zAl m) l).m.Nodes (i : Int) = some (zAd n) := zNZ hn
  have eK : (zAd n).K = n.K := rfl
  have eS : (zAd n).S = n.S := rfl
  have eKs : (zAd n).Kids = n.Kids := rfl
  rw [hg, zAa, eK, eS, eKs]
  by_cases e5 : n.K = 5
  · rw [decide_eq_true e5, if_pos rfl, zQq _ l n.S (by omega) (by omega), zAa, zAa, if_neg (by omega), if_pos e5]
  rw [decide_eq_false e5, ifF]
  by_cases e6 : n.K = 6
  · rw [decide_eq_true e6, if_pos rfl, zBV _ l 4 n.S (by omega), zAa, zAa, zAa, if_neg (by omega), if_neg e5, if_pos e6]
  rw [decide_eq_false e6, ifF]
  by_cases e7 : n.K = 7
  · rw [decide_eq_true e7, if_pos rfl, zBV _ l 0 n.S (by omega), zAa, zAa, zAa, zAa, if_neg (by omega), if_neg e5, if_neg e6, if_pos e7]
  rw [decide_eq_false e7, ifF]
  by_cases e8 : n.K = 8
  · have hp : 1 ≤ n.Kids.length := by rw [may8 hmay e8]; exact Nat.le_refl _
    have hk := hN (.inl e8) _ (zDM hp)
    have hge := zFS hm (kid0 n.Kids)
    have hsum : sAt m (kid0 n.Kids) + 3 ≤ sumS m n.Kids := by
      cases hh : n.Kids with
      | nil => rw [hh] at hp; simp at hp
      | cons x r => rw [zC3]; simp only [kid0]; omega
    rw [decide_eq_true e8, if_pos rfl, zBV _ l 0 n.S (by omega), zAa, zD2 _ _ 6 (by simp; omega), zAa, zHx hp, zAa, hk _ (by simp; omega)]
    simp only [zAa]
    rw [if_neg (by omega), if_neg e5, if_neg e6, if_neg e7, if_pos e8]
    simp
  rw [decide_eq_false e8, ifF]
  by_cases e9 : n.K = 9
  · have ha := may9 hmay e9
    have hp : 1 ≤ n.Kids.length := by rcases zBB ha with h | h | h <;> omega
    have hge := zFS hm (kid0 n.Kids)
    have htl : (toW m.Nodes (zA0 m) n.S (kid0 n.Kids)).length ≤ (oAt (zA0 m) (kid0 n.Kids)).length + 2 := zD5 _ _
    have hsum : sAt m (kid0 n.Kids) + 3 + sumS m (n.Kids.drop 1) = sumS m n.Kids := by
      cases hh : n.Kids with
      | nil => rw [hh] at hp; simp at hp
      | cons x r => rw [zC3]; rfl
    have hm2 := hM e9 (n.Kids.drop 1) n.S (fun k hk => List.mem_of_mem_drop hk) (by rw [ha]; congr 1; simp; omega) (l ++ wm (toW m.Nodes (zA0 m) n.S (kid0 n.Kids))) (by rw [List.length_append, List.length_map]; omega)
    rw [decide_eq_true e9, if_pos rfl, zHx hp, zAa, hT e9 _ (zDM hp) l n.S (zFQ ha).2 (by omega), zAa, sub1 hp, zAa, hm2]
    simp only [zAa]
    rw [if_neg (by omega), if_neg e5, if_neg e6, if_neg e7, if_neg e8, if_neg (by omega), if_neg (by omega), if_pos e9]
    simp
  rw [decide_eq_false e9, ifF]
  by_cases e10 : n.K = 10
  · rw [decide_eq_true e10, if_pos rfl, hC e10 l (by omega)]
    simp only [zAa]
    rw [if_neg (by omega), if_neg e5, if_neg e6, if_neg e7, if_neg e8, if_neg (by omega), if_neg (by omega), if_neg e9, if_pos e10]
  rw [decide_eq_false e10, ifF]
  by_cases e12 : n.K = 12
  · rw [decide_eq_true e12, if_pos rfl, hB e12 l (by omega)]
    simp only [zAa]
    rw [if_neg (by omega), if_neg e5, if_neg e6, if_neg e7, if_neg e8, if_neg (by omega), if_neg (by omega), if_neg e9, if_neg e10]
  rw [decide_eq_false e12, ifF]
  by_cases e13 : n.K = 13
  · have hp : 1 ≤ n.Kids.length := by rw [may13 hmay e13]; exact Nat.le_refl _
    have hk := hN (.inr e13) _ (zDM hp)
    have hge := zFS hm (kid0 n.Kids)
    have hsum : sAt m (kid0 n.Kids) + 3 ≤ sumS m n.Kids := by
      cases hh : n.Kids with
      | nil => rw [hh] at hp; simp at hp
      | cons x r => rw [zC3]; simp only [kid0]; omega
    rw [decide_eq_true e13, if_pos rfl, zD2 _ l 7 (by omega), zAa, zHx hp, zAa, hk _ (by simp; omega)]
    simp only [zAa]
    rw [if_neg (by omega), if_neg e5, if_neg e6, if_neg e7, if_neg e8, if_pos e13]
    simp
  rw [decide_eq_false e13, ifF]
  have e5' : n.K < 5 := by omega
  obtain ⟨k, hkk⟩ : ∃ k : Nat, n.K = (k : Int) := ⟨n.K.toNat, by omega⟩
  have hf : zEz[k]? = some (zEz.getD n.K.toNat []) := by
    have : k < zEz.length := by simp [zEz]; omega
    rw [List.getElem?_eq_getElem this, hkk]
    simp [List.getD_eq_getElem?_getD, List.getElem?_eq_getElem this]
  have hf' : lAt ([[115, 101, 108, 102], [115, 117, 112, 101, 114], [110, 105, 108], [116, 114, 117, 101], [102, 97, 108, 115, 101]] : List Str) n.K = some (zEz.getD n.K.toNat []) := by
    rw [hkk] at hf ⊢; exact zAf hf
  rw [hf', zAa, zBV _ l 0 _ (by omega)]
  simp only [zAa]
  rw [if_pos e5']
end
end Go.Cq

set_option maxRecDepth 100000
namespace Go.Cq
open Go Go.Av
theorem zKu {k : Int} {p : Bool × Bool × Bool} (h : zBi k p = true) (hp : p.2.1 = false) : k ≠ 11 := by
 intro e
 subst e
 unfold zBi at h
 rw [if_neg (by decide), if_pos rfl, hp] at h
 cases h
theorem zK3 {n : rNd} {t : Nat} (h : n.K ≠ 10 ∨ t = 0) : (zBe (zAd n) t).2.1 = false := by
  unfold zBe
  have hK : (zAd n).K = n.K := rfl
  rw [hK]
  split
  · rfl
  split
  · rename_i h10
    rcases h with h | h
    · exact absurd h10 h
    subst h; rfl
  split <;> rfl
theorem zNm {m : rMt} (hm : MOk m) {j : Nat} {n : rNd} (hn : m.Nodes[j]? = some n) {q : Nat} (h : zGv m (Rn q) (j : Int)) : zMz m (Rn (q+1)) (j : Int) := fun l least hl => kid_ok hm hn h l least hl
theorem node_all {m : rMt} (hm : MOk m) : ∀ (i : Nat) (n : rNd) (lo h : Nat), m.Nodes[i]? = some n → n.K ≠ 11 → Tr (m.Nodes.map zAd) lo i h → ∀ q, 5 * h ≤ q → zGv m (Rn q) (i : Int) := by
  intro i
  induction i using Nat.strongRecOn with
  | _ i ih =>
    intro n lo h hn h11 htr q hq l hl
    cases htr with
    | mk a b c =>
      rename_i h0 x
      obtain ⟨n', e1, e2⟩ := zDy a
      rw [hn] at e1; cases e1
      subst e2
      have hf : Fo (m.Nodes.map zAd) (zBe (zAd n)) 0 lo i n.Kids h0 := c
      obtain ⟨q, rfl⟩ : ∃ q', q = q' + 1 := ⟨q - 1, by omega⟩
      have hil := (List.getElem?_eq_some_iff.1 hn).1
      have hkr := hm.kids hn
      have hof : oAt (zA0 m) (i : Int) = zFU m.Nodes (zA0 m) n := zJW hm.n hn hkr hil
      have hmem := List.mem_of_getElem? hn
      have hmay := hm.n.may n hmem
      have hkl := hm.n.kids n hmem
      rw [hof]
      rw [zNy hm hn] at hl
      have hkid : ∀ (t : Nat) (k : Int), n.Kids[t]? = some k → (n.K ≠ 10 ∨ t = 0) → (∀ q', 5 * h0 ≤ q' → zGv m (Rn q') k) ∧ (∀ q', 5 * h0 + 1 ≤ q' → zMz m (Rn q') k) := fun t k ht hno => by
        obtain ⟨j, nj, lo', h', a1, a2, a3, a4, a5, a6⟩ := hf.get t k ht
        obtain ⟨nr, b1, b2⟩ := zDy a2
        subst a1; subst b2
        have hnr : nr.K ≠ 11 := zKu a3 (by rw [Nat.zero_add]; exact zK3 hno)
        have h1 : ∀ q', 5 * h0 ≤ q' → zGv m (Rn q') (j : Int) := fun q' hq' => ih j a6 nr lo' h' b1 hnr a4 q' (by omega)
        refine ⟨h1, fun q' hq' => ?_⟩
        obtain ⟨q', rfl⟩ : ∃ p, q' = p + 1 := ⟨q' - 1, by omega⟩
        exact zNm hm b1 (h1 q' (by omega))
      have hkm : n.K ≠ 10 → ∀ k, k ∈ n.Kids → (∀ q', 5 * h0 ≤ q' → zGv m (Rn q') k) ∧ (∀ q', 5 * h0 + 1 ≤ q' → zMz m (Rn q') k) := fun hno k hk => by
        obtain ⟨t, ht⟩ := List.mem_iff_getElem?.1 hk
        exact hkid t k ht (.inl hno)
      have hmsg : n.K = 10 → ∀ k, k ∈ n.Kids.drop 1 → ∀ q', 5 * h0 + 2 ≤ q' → MsgOk m (Rn q') k := fun h10 k hk q' hq' => by
        have hk11 := hm.msgs hn h10 k hk
        obtain ⟨t, ht⟩ := List.mem_iff_getElem?.1 hk
        rw [List.getElem?_drop] at ht
        obtain ⟨j, nj, lo', h', a1, a2, a3, a4, a5, a6⟩ := hf.get (1 + t) k ht
        obtain ⟨nr, b1, b2⟩ := zDy a2
        subst a1; subst b2
        rw [zOg b1] at hk11
        have hk11' : nr.K = 11 := hk11
        refine ⟨nr, zAf b1, zOg b1, fun l' hl' => ?_⟩
        obtain ⟨q', rfl⟩ : ∃ p, q' = p + 1 := ⟨q' - 1, by omega⟩
        have hmemr := List.mem_of_getElem? b1
        have hofk : oAt (zA0 m) (j : Int) = msgW m.Nodes (zA0 m) nr.S nr.Kids := by
          have := zJW hm.n b1 (hm.kids b1) (List.getElem?_eq_some_iff.1 b1).1
          have h2 : oAt (zA0 m) (j : Int) = zFU m.Nodes (zA0 m) nr := this
          rw [h2]
          unfold zFU
          rw [if_neg (by omega), if_neg (by omega), if_neg (by omega), if_neg (by omega), if_neg (by omega), if_neg (by omega), if_pos hk11']
        rw [hofk]
        rw [zNy hm b1] at hl'
        have hkk : ∀ g, g ∈ nr.Kids → zMz m (Rn q') g := fun g hg => by
          cases a4 with
          | mk a' b' c' =>
            rename_i h2 x2
            obtain ⟨n2, f1, f2⟩ := zDy a'
            rw [b1] at f1; cases f1
            subst f2
            obtain ⟨t2, ht2⟩ := List.mem_iff_getElem?.1 hg
            have hf2 : Fo (m.Nodes.map zAd) (zBe (zAd nr)) 0 lo' j nr.Kids h2 := c'
            obtain ⟨j2, nj2, lo2, h3, g1, g2, g3, g4, g5, g6⟩ := hf2.get t2 g ht2
            obtain ⟨nr2, k1, k2⟩ := zDy g2
            subst g1; subst k2
            have hnr2 : nr2.K ≠ 11 := zKu g3 (by rw [Nat.zero_add]; exact zK3 (.inl (by omega)))
            obtain ⟨q', rfl⟩ : ∃ p, q' = p + 1 := ⟨q' - 1, by omega⟩
            exact zNm hm k1 (ih j2 (by omega) nr2 lo2 h3 k1 hnr2 g4 q' (by omega))
        have hklr := hm.n.kids nr hmemr
        exact zJN hm nr.Kids nr.S (may11 (hm.n.may nr hmemr) hk11') (by omega) hkk l' (by omega)
      show zEb (Rn q) (PW (zAl m) l) (i : Int) = _
      refine zRt hm hn h11 (fun e k hk => (hkm (by omega) k hk).1 q (by omega)) (fun e k hk l' s hs hl' => ?_) (fun e kids s hks ha l' hl' => ?_) (fun e l' hl' => ?_) (fun e l' hl' => ?_) l (by omega)
      · obtain ⟨q, rfl⟩ : ∃ p, q = p + 1 := ⟨q - 1, by omega⟩
        exact to_ok ((hkm (by omega) k hk).2 q (by omega)) l' s hs hl'
      · obtain ⟨q, rfl⟩ : ∃ p, q = p + 1 := ⟨q - 1, by omega⟩
        have hkn : kids.length ≤ 1000 := by
          rcases zBB ha with h | h | h <;> omega
        exact zJN hm kids s ha hkn (fun k hk => (hkm (by omega) k (hks k hk)).2 q (by omega)) l' hl'
      · obtain ⟨q, rfl⟩ : ∃ p, q = p + 1 := ⟨q - 1, by omega⟩
        have h3 := (may10 hmay e).1
        have hp : 1 ≤ n.Kids.length := by omega
        have hk0 : n.Kids[0]? = some (kid0 n.Kids) := by
          cases hh : n.Kids with
          | nil => rw [hh] at hp; simp at hp
          | cons x r => rfl
        refine casc_ok hm (by omega) (by omega) (fun l2 s hs hl2 => ?_) (fun k hk => hmsg e k hk q (by omega)) (fun k hk => ?_) l' hl'
        · obtain ⟨q, rfl⟩ : ∃ p, q = p + 1 := ⟨q - 1, by omega⟩
          exact to_ok ((hkid 0 _ hk0 (.inr rfl)).2 q (by omega)) l2 s hs hl2
        obtain ⟨nk, n1, n2, n3⟩ := hmsg e k hk (5 * h0 + 2) (Nat.le_refl _)
        have h11k := hm.msgs hn e k hk
        rw [n2] at h11k ⊢
        have hkk : nk ∈ m.Nodes := by
          unfold lAt at n1
          split at n1
          · exact List.mem_of_getElem? n1
          cases n1
        exact (zFQ (may11 (hm.n.may nk hkk) h11k)).2
      obtain ⟨q, rfl⟩ : ∃ p, q = p + 1 := ⟨q - 1, by omega⟩
      obtain ⟨g0, g8, gl⟩ := may12 hmay e
      refine block_ok hm g0 gl (hm.n.l n hmem) (fun l2 hl2 => ?_) l' hl'
      obtain ⟨q, rfl⟩ : ∃ p, q = p + 1 := ⟨q - 1, by omega⟩
      exact zNB hm n.Kids (by omega) (fun k hk => (hkm (by omega) k hk).1 q (by omega)) l2 hl2
end Go.Cq

