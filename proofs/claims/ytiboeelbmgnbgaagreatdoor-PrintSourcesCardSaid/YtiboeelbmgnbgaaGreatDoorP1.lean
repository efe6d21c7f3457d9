import Derived.Test.YtiboeelbmgnbgaaGreatDoorL8
import Derived.Test.YtiboeelbmgnbgaaGreatDoorX1
set_option linter.unusedSectionVars false
set_option linter.unusedVariables false
set_option linter.unusedSimpArgs false
set_option linter.unnecessarySimpa false
set_option maxRecDepth 100000
namespace Go.Cq
open Go Go.Av
abbrev RW := rWd
abbrev big9 : Nat := 1000000000
theorem appB {α : Type} {b : Nat} {l m : List α} (h : l.length + m.length ≤ big9) (hb : b ≤ 1000 := by decide) : app b l m = some (l ++ m) := by
 unfold big9 at h
 refine zDl (by omega) ?_
 have : (l.length + m.length) * b ≤ 1000000000 * 1000 := Nat.mul_le_mul h hb
 omega
def w0 (k : Int) (s : Str) : RW := ⟨k, s, 0⟩
theorem w_eq (k : Int) (s : Str) : zAL k s = some (w0 k s) := rfl
def zFr (s : Str) : Int := if (arity s).1 = 0 then 3 else if s.getLast? = some 58 then 1 else 2
def zER (s : Str) : List Str := zAt 58 s.dropLast
theorem zIs {s : Str} {n : Int} (h : arity s = (n, true)) : s ≠ [] ∧ s.length ≤ 64 := by
 cases s with
 | nil => simp [arity] at h
 | cons c r =>
  refine ⟨by simp, ?_⟩
  unfold arity at h
  dsimp only at h
  by_cases h64 : 64 < (c :: r).length
  ·rw [decide_eq_true h64, if_pos rfl] at h; simp at h
  omega
theorem zBB {s : Str} {n : Int} (h : arity s = (n, true)) : (zFr s = 3 ∧ n = 0) ∨ (zFr s = 2 ∧ n = 1) ∨ (zFr s = 1 ∧ s.getLast? = some 58 ∧ n = ((zER s).length : Int) ∧ 1 ≤ (zER s).length ∧ (zER s).length ≤ 8) := by
 obtain ⟨hs, hl⟩ := zIs h
 have h1 : (arity s).1 = n := by rw [h]
 unfold zFr
 rw [h1]
 cases s with
 | nil => exact absurd rfl hs
 | cons c r =>
  unfold arity at h
  dsimp only at h
  rw [decide_eq_false (by omega), ifF] at h
  by_cases hg : zFx c = true
  ·rw [if_pos hg] at h
   have hc := (zJE hg).2
   have hn : n = 1 ∧ (c :: r).getLast? ≠ some 58 := by
    split at h
    ·simp only [Prod.mk.injEq] at h
     exact ⟨h.1.symm, by simpa using hc⟩
    ·rename_i d
     split at h
     ·rename_i hd
      have := (zJE hd).2
      simp only [Prod.mk.injEq] at h
      exact ⟨h.1.symm, by simpa using this⟩
     simp at h
    simp at h
   right; left
   rw [if_neg (by omega), if_neg hn.2]
   exact ⟨rfl, hn.1⟩
  rw [if_neg hg, zJX (c :: r) (by simp)] at h
  by_cases hm : nmB (c :: r) = true
  ·rw [if_pos hm] at h
   simp only [Prod.mk.injEq] at h
   left; rw [if_pos h.1.symm]; exact ⟨rfl, h.1.symm⟩
  rw [if_neg hm] at h
  by_cases h58 : (c :: r).getLast? = some 58
  ·rw [if_pos h58] at h
   split at h
   ·rename_i hk
    simp only [Bool.and_eq_true, decide_eq_true_eq] at hk
    simp only [Prod.mk.injEq] at h
    have hp : 0 < (zAt 58 (c :: r).dropLast).length := List.length_pos_iff.2 (zCt _ _)
    right; right
    rw [if_neg (by omega), if_pos h58]
    exact ⟨rfl, h58, h.1.symm, hp, hk.2⟩
   simp at h
  rw [if_neg h58] at h; simp at h
theorem zKp (s : Str) (hl : s.length ≤ 1000) : zCU s = some (zFr s) := by
 unfold zCU zFr
 rw [zNL s (by unfold bigN; omega), zAa, zFV s hl, zAa]
 by_cases h : (arity s).1 = 0
 ·rw [decide_eq_true h, if_pos rfl, if_pos h]
 rw [decide_eq_false h, ifF, if_neg h]
 by_cases h2 : s.getLast? = some 58
 ·rw [decide_eq_true h2, if_pos rfl, if_pos h2]
 rw [decide_eq_false h2, ifF, if_neg h2]
theorem zI5 (s : Str) (hs : s ≠ []) (hl : s.length ≤ 1000) : zCW s = some (zFr s) := by
 unfold zCW zFr
 rw [zJQ s, zAa]
 by_cases h : (arity s).1 = 0
 ·rw [decide_eq_true h, if_pos rfl, if_pos h]
 have hp : 0 < s.length := List.length_pos_iff.2 hs
 rw [decide_eq_false h, ifF, if_neg h, zJp (by omega) (by omega), zAa]
 obtain ⟨c, hc⟩ : ∃ c, s.getLast? = some c := ⟨_, List.getLast?_eq_some_getLast hs⟩
 have hc' : s[s.length - 1]? = some c := by rw [← List.getLast?_eq_getElem?]; exact hc
 rw [show (s.length : Int) - 1 = ((s.length - 1 : Nat) : Int) by omega, zCR hc', zAa, hc]
 have := zKI c
 rw [this]
 by_cases h2 : c = 58
 ·rw [decide_eq_true h2, if_pos rfl, h2, if_pos rfl]
 rw [decide_eq_false h2, ifF, if_neg (fun e => h2 (Option.some.inj e))]
def kL : Str → Str → List Str
 | _, [] => []
 | cur, c :: r => if c = 58 then cur :: kL [] r else kL (cur ++ [c]) r
theorem zJ6 : ∀ (t cur : Str), kL cur (t ++ [58]) = match zAt 58 t with | p :: l => (cur ++ p) :: l | [] => []
 | [], cur => by simp [kL, zAt]
 | x :: t, cur => by
  by_cases h : x = 58
  ·subst h
   simp only [List.cons_append, kL, if_true, zAt]
   rw [zJ6 t []]
   have := zCt 58 t
   cases hs : zAt 58 t with
   | nil => exact absurd hs this
   | cons p l => simp
  simp only [List.cons_append, kL, zAt, if_neg h]
  rw [zJ6 t (cur ++ [x])]
  have := zCt 58 t
  cases hs : zAt 58 t with
  | nil => exact absurd hs this
  | cons p l => simp
theorem keys_l1 (s : Str) (hl : s.length ≤ 1000) : ∀ (r : Str) (i fr q : Nat) (acc : List Str), s.drop i = r → i ≤ s.length → fr ≤ i → r.length < q → acc.length ≤ i →
    zCl s q acc (fr : Int) (i : Int) = some (acc ++ kL ((s.take i).drop fr) r) := by
  intro r
  induction r with
  | nil =>
    intro i fr q acc h hi hf hq ha
    obtain ⟨q, rfl⟩ : ∃ q', q = q' + 1 := ⟨q - 1, by simp at hq; omega⟩
    have : i = s.length := by have : s.length ≤ i := by simpa using h
                              omega
    subst this
    simp only [zCl]
    rw [zAD, ifF]; simp [kL]
  | cons c r ih =>
    intro i fr q acc h hi hf hq ha
    obtain ⟨q, rfl⟩ : ∃ q', q = q' + 1 := ⟨q - 1, by simp at hq; omega⟩
    obtain ⟨e1, e2, e3⟩ := zAE h
    have htk : s.take (i+1) = s.take i ++ [c] := by
      rw [List.take_add_one, e1]; rfl
    have htl : (s.take i).length = i := by simp; omega
    simp only [zCl]
    rw [zAB e3, if_pos rfl, zCR e1, zAa, zKI c, cks (by omega)]
    have hsub : sub s (fr : Int) (i : Int) = some ((s.take i).drop fr) := by
      unfold sub; rw [if_pos ⟨by omega, by omega, by omega⟩]; simp
    by_cases h58 : c = 58
    · rw [decide_eq_true h58, if_pos rfl, hsub, zAa, appB (by simp; unfold big9; omega), zAa, zAa, zAa]
      dsimp only
      rw [zAa]
      have := ih (i+1) (i+1) q (acc ++ [(s.take i).drop fr]) e2 (by omega) (Nat.le_refl _) (by simp at hq; omega) (by simp; omega)
      rw [this]
      have hd : (s.take (i+1)).drop (i+1) = [] := by simp
      rw [hd]
      simp [kL, h58]
    rw [decide_eq_false h58, ifF, zAa, zAa]
    have := ih (i+1) fr q acc e2 (by omega) (by omega) (by simp at hq; omega) (by omega)
    rw [this, htk, List.drop_append_of_le_length (by omega)]
    simp [kL, h58]
theorem keys_eq (s : Str) (hl : s.length ≤ 1000) (h : s.getLast? = some 58) : zE4 s = some (zER s) := by
  unfold zE4
  have h1 := keys_l1 s hl s 0 0 fuel [] rfl (Nat.zero_le _) (Nat.le_refl _) (by unfold fuel; omega) (by simp)
  rw [show ((0 : Nat) : Int) = 0 from rfl] at h1
  rw [h1, zAa]
  have e : s = s.dropLast ++ [58] := by
    obtain ⟨ys, rfl⟩ := List.getLast?_eq_some_iff.1 h
    simp
  have h2 : kL ((s.take 0).drop 0) s = zER s := by
    unfold zER
    conv => lhs; rw [e]
    simp only [List.take_zero, List.drop_nil]
    rw [zJ6]
    have := zCt 58 s.dropLast
    cases hs : zAt 58 s.dropLast with
    | nil => exact absurd hs this
    | cons p l => simp
  rw [h2]; simp
theorem zQd {s p : Str} (h : p ∈ zER s) : p.length ≤ s.length := by
 have := zEi 58 s.dropLast p h
 simp at this; omega
end Go.Cq

set_option maxRecDepth 100000
namespace Go.Cq
open Go Go.Av
def nK (N : List rNd) (k : Int) : Int × Str := match N[k.toNat]? with | some n => (n.K, n.S) | none => (0, [])
def oAt (O : List (List RW)) (k : Int) : List RW := match O[k.toNat]? with | some x => x | none => []
def inW (K : Int) (S : Str) (least : Int) : Bool := decide (K = 8) || (decide (K = 10) || (decide (K = 9) && decide (zFr S < least)))
def zFC (s : Str) : Int := max 2 (zFr s)
def zCS (s : Str) : Int := if zFr s = 2 then 3 else 2
def parW (b : Bool) (x : List RW) : List RW := if b = true then w0 10 [] :: (x ++ [w0 11 []]) else x
def argW (N : List rNd) (O : List (List RW)) (s : Str) (k : Int) : List RW := parW (inW (nK N k).1 (nK N k).2 (zCS s)) (oAt O k)
def toW (N : List rNd) (O : List (List RW)) (s : Str) (k : Int) : List RW := parW (inW (nK N k).1 (nK N k).2 (zFC s)) (oAt O k)
def zipW : List Str → List (List RW) → List RW
 | k :: ks, x :: xs => w0 1 k :: (x ++ zipW ks xs)
 | _, _ => []
def hd0 (a : List (List RW)) : List RW := match a with | x :: _ => x | [] => []
def zIa (s : Str) (a : List (List RW)) : List RW := if zFr s = 3 then [w0 0 s] else if zFr s = 2 then w0 2 s :: hd0 a else zipW (zER s) a
def msgW (N : List rNd) (O : List (List RW)) (s : Str) (kids : List Int) : List RW := zIa s (kids.map (argW N O s))
def sepT (k : Int) (l : List (List RW)) : List RW := l.flatMap fun y => w0 k [] :: y
def sepW (k : Int) : List (List RW) → List RW
 | [] => []
 | x :: r => x ++ sepT k r
def zEy (l : List Str) : List RW := if l = [] then [] else w0 14 [] :: (l.map (w0 0) ++ [w0 14 []])
def zEz : List Str := [[115, 101, 108, 102], [115, 117, 112, 101, 114], [110, 105, 108], [116, 114, 117, 101], [102, 97, 108, 115, 101]]
def kid0 (l : List Int) : Int := match l with | x :: _ => x | [] => 0
def numW (s : Str) : List RW := match s with | 45 :: r => [w0 2 [45], w0 3 r] | _ => [w0 3 s]
def zHO (O : List (List RW)) (n : rNd) : List RW :=
 w0 12 [] :: ((n.L.take n.N.toNat).map (w0 5) ++ ((if 0 < n.N then [w0 14 []] else []) ++ (zEy (n.L.drop n.N.toNat) ++ (sepW 9 (n.Kids.map (oAt O)) ++ [w0 13 []]))))
def zM6 (N : List rNd) (O : List (List RW)) (n : rNd) : List RW :=
 toW N O (nK N (kid0 (n.Kids.drop 1))).2 (kid0 n.Kids) ++ sepW 8 ((n.Kids.drop 1).map (oAt O))
def zFU (N : List rNd) (O : List (List RW)) (n : rNd) : List RW :=
 if n.K < 5 then [w0 0 (zEz.getD n.K.toNat [])]
 else if n.K = 5 then numW n.S
 else if n.K = 6 then [w0 4 n.S]
 else if n.K = 7 then [w0 0 n.S]
 else if n.K = 8 then w0 0 n.S :: w0 6 [] :: oAt O (kid0 n.Kids)
 else if n.K = 13 then w0 7 [] :: oAt O (kid0 n.Kids)
 else if n.K = 11 then msgW N O n.S n.Kids
 else if n.K = 9 then toW N O n.S (kid0 n.Kids) ++ msgW N O n.S (n.Kids.drop 1)
 else if n.K = 10 then zM6 N O n
 else zHO O n
theorem zGR (s : Str) : zFr s = 1 ∨ zFr s = 2 ∨ zFr s = 3 := by
 unfold zFr; split
 ·exact .inr (.inr rfl)
 split
 ·exact .inl rfl
 exact .inr (.inl rfl)
theorem zD5 (b : Bool) (x : List RW) : (parW b x).length ≤ x.length + 2 := by
  unfold parW; split <;> simp
theorem zKV (n : rNd) (words : List RW) (sel : Str) (to : Bool) (hr : n.K = 9 → n.S ≠ [] ∧ n.S.length ≤ 1000) (hs : sel ≠ []) (hs2 : sel.length ≤ 1000) (hw : words.length ≤ 1000000) :
    zDe n words sel to = some (parW (inW n.K n.S (if to = true then zFC sel else zCS sel)) words) := by
  unfold zDe
  have hin : ((if (decide (n.K = 9)) then
      (zCW n.S).bind fun v4 =>
      (zCW sel).bind fun v5 =>
      (
        if to then
          some ((decide (v4 < v5)) || ((decide (v5 = 1)) && (decide (v4 = 1))))
        else
          (
            if (decide (v5 = 2)) then
              some (!decide (v4 = 3))
            else
              some (decide (v4 = 1))
          ).bind fun y11 =>
          some y11
      ).bind fun y6 =>
      some y6
    else
      some ((decide (n.K = 8)) || (decide (n.K = 10)))) : Option Bool) = some (inW n.K n.S (if to = true then zFC sel else zCS sel)) := by
    unfold inW
    by_cases h9 : n.K = 9
    · obtain ⟨h1, h2⟩ := hr h9
      rw [decide_eq_true h9, if_pos rfl, zI5 n.S h1 h2, zAa, zI5 sel hs hs2, zAa, decide_eq_false (show ¬ n.K = 8 by omega), decide_eq_false (show ¬ n.K = 10 by omega), Bool.false_or, Bool.false_or, Bool.true_and]
      rcases zGR n.S with e1 | e1 | e1 <;> rcases zGR sel with e2 | e2 | e2 <;> cases to <;> simp [e1, e2, zFC, zCS] <;> omega
    rw [decide_eq_false h9, ifF, Bool.false_and, Bool.or_false]
  rw [hin, zAa, w_eq, w_eq]
  unfold parW
  cases inW n.K n.S (if to = true then zFC sel else zCS sel) with
  | false => rfl
  | true =>
    rw [Bool.not_true, ifF, zAa, appB (by simp; unfold big9; omega), zAa, zAa, appB (by simp; unfold big9; omega), zAa, if_pos rfl]
    simp
theorem pair_l1 (a : List (List RW)) (ks : List Str) (hk : ks.length ≤ a.length) (hkl : ks.length ≤ 1000) (ha : ∀ x, x ∈ a → x.length ≤ 200000) : ∀ (r : List Str) (i q : Nat) (acc : List RW), ks.drop i = r → i ≤ ks.length → r.length < q → acc.length ≤ i * 200001 →
    zCn a ks q acc (i : Int) = some (acc ++ zipW r (a.drop i)) := by
  intro r
  induction r with
  | nil =>
    intro i q acc h hi hq hac
    obtain ⟨q, rfl⟩ : ∃ q', q = q' + 1 := ⟨q - 1, by simp at hq; omega⟩
    have : i = ks.length := by have : ks.length ≤ i := by simpa using h
                               omega
    subst this
    simp only [zCn]
    rw [zAD, ifF]; simp [zipW]
  | cons k r ih =>
    intro i q acc h hi hq hac
    obtain ⟨q, rfl⟩ : ∃ q', q = q' + 1 := ⟨q - 1, by simp at hq; omega⟩
    obtain ⟨e1, e2, e3⟩ := zAE h
    have hia : i < a.length := by omega
    have hd : a.drop i = a[i] :: a.drop (i+1) := List.drop_eq_getElem_cons hia
    have hx := ha a[i] (List.getElem_mem hia)
    simp only [zCn]
    rw [zAB e3, if_pos rfl, zAf e1, zAa, w_eq, zAa, appB (by simp; unfold big9; omega), zAa, zAf (List.getElem?_eq_getElem hia), zAa, appB (by simp; unfold big9; omega), zAa, cks (by omega), zAa,
      ih (i+1) q _ e2 (by omega) (by simp at hq; omega) (by simp; omega), hd]
    simp [zipW]
theorem zQE (s : Str) (a : List (List RW)) (h0 : s ≠ []) (hl : s.length ≤ 1000) (h2 : zFr s = 2 → 1 ≤ a.length) (h1 : zFr s = 1 → s.getLast? = some 58 ∧ (zER s).length ≤ a.length ∧ (zER s).length ≤ 1000) (ha : ∀ x, x ∈ a → x.length ≤ 200000) : zEf s a = some (zIa s a) := by
 unfold zEf zIa
 rw [zI5 s h0 hl, zAa, w_eq, w_eq, zAa, zAa]
 rcases zGR s with e | e | e
 ·obtain ⟨h3, h4, h5⟩ := h1 e
  rw [e, keys_eq s hl h3, zAa]
  have := pair_l1 a (zER s) h4 h5 ha (zER s) 0 fuel [] rfl (Nat.zero_le _) (by unfold fuel; omega) (by simp)
  rw [show ((0 : Nat) : Int) = 0 from rfl] at this
  rw [this]
  simp
 ·have h3 := h2 e
  cases a with
  | nil => simp at h3
  | cons x r =>
   have hl0 : lAt (x :: r) (0 : Int) = some x := rfl
   rw [e, hl0, zAa]
   have hx := ha x (by simp)
   rw [appB (by simp; unfold big9; omega), zAa]
   simp [hd0]
 rw [e]; simp
theorem zQT (l : List Str) (hl : l.length ≤ 100000) : ∀ (r : List Str) (i q : Nat) (acc : List RW), l.drop i = r → i ≤ l.length → r.length < q → acc.length ≤ i → zCs l q acc (i : Int) = some (acc ++ r.map (w0 0)) := by
  intro r
  induction r with
  | nil =>
    intro i q acc h hi hq hac
    obtain ⟨q, rfl⟩ : ∃ q', q = q' + 1 := ⟨q - 1, by simp at hq; omega⟩
    have : i = l.length := by have : l.length ≤ i := by simpa using h
                              omega
    subst this
    simp only [zCs]
    rw [zAD, ifF]; simp
  | cons k r ih =>
    intro i q acc h hi hq hac
    obtain ⟨q, rfl⟩ : ∃ q', q = q' + 1 := ⟨q - 1, by simp at hq; omega⟩
    obtain ⟨e1, e2, e3⟩ := zAE h
    simp only [zCs]
    rw [zAB e3, if_pos rfl, zAf e1, zAa, w_eq, zAa, appB (by simp; unfold big9; omega), zAa, cks (by omega), zAa, ih (i+1) q _ e2 (by omega) (by simp at hq; omega) (by simp; omega)]
    simp
theorem zI3 (l : List Str) (hl : l.length ≤ 100000) : zDF l = some (zEy l) := by
  unfold zDF zEy
  have := zQT l hl l 0 fuel [] rfl (Nat.zero_le _) (by unfold fuel; omega) (by simp)
  rw [show ((0 : Nat) : Int) = 0 from rfl] at this
  rw [this, zAa, w_eq]
  cases l with
  | nil => rfl
  | cons x r =>
    rw [decide_eq_true (by simp <;> omega), if_pos rfl, zAa, appB (by simp; unfold big9; simp at hl; omega), zAa, appB (by simp; unfold big9; simp at hl; omega), zAa, zAa, if_neg (by simp)]
    simp
theorem zIr {O : List (List RW)} {j : Nat} {x : List RW} (h : O[j]? = some x) : oAt O (j : Int) = x := by simp [oAt, h]
theorem zPU {O : List (List RW)} (hO : ∀ x, x ∈ O → x.length ≤ 100000) (k : Int) : (oAt O k).length ≤ 100000 := by
 unfold oAt; split
 ·exact hO _ (List.mem_of_getElem? (by assumption))
 simp
theorem sepT_len {k : Int} {l : List (List RW)} (h : ∀ x, x ∈ l → x.length ≤ 200000) : (sepT k l).length ≤ l.length * 200001 := by
 unfold sepT
 induction l with
 | nil => simp
 | cons x l ih =>
  have h1 := h x (by simp)
  have h2 := ih (fun y hy => h y (by simp [hy]))
  rw [List.flatMap_cons, List.length_append, List.length_cons, List.length_cons]
  omega
theorem stmts_l1 (O : List (List RW)) (l : List Int) (hl : l.length ≤ 1000) (hO : ∀ x, x ∈ O → x.length ≤ 100000) (hk : ∀ k, k ∈ l → 0 ≤ k ∧ k < (O.length : Int)) : ∀ (r : List Int) (i q : Nat) (acc : List RW), l.drop i = r → 0 < i → i ≤ l.length → r.length < q → acc.length ≤ i * 200001 →
    zBp O l q acc (i : Int) = some (acc ++ sepT 9 (r.map (oAt O))) := by
  intro r
  induction r with
  | nil =>
    intro i q acc h h0 hi hq hac
    obtain ⟨q, rfl⟩ : ∃ q', q = q' + 1 := ⟨q - 1, by simp at hq; omega⟩
    have : i = l.length := by have : l.length ≤ i := by simpa using h
                              omega
    subst this
    simp only [zBp]
    rw [zAD, ifF]; simp [sepT]
  | cons k r ih =>
    intro i q acc h h0 hi hq hac
    obtain ⟨q, rfl⟩ : ∃ q', q = q' + 1 := ⟨q - 1, by simp at hq; omega⟩
    obtain ⟨e1, e2, e3⟩ := zAE h
    obtain ⟨k1, k2⟩ := hk k (List.mem_of_getElem? e1)
    obtain ⟨k, rfl⟩ : ∃ k' : Nat, k = (k' : Int) := ⟨k.toNat, by omega⟩
    obtain ⟨x, hx⟩ : ∃ x, O[k]? = some x := ⟨_, List.getElem?_eq_getElem (by omega)⟩
    have hxl := hO x (List.mem_of_getElem? hx)
    simp only [zBp]
    rw [zAB e3, if_pos rfl, decide_eq_true (by omega), if_pos rfl, w_eq, zAa, appB (by simp; unfold big9; omega), zAa, zAa, zAf e1, zAa, zAf hx, zAa, appB (by simp; unfold big9; omega), zAa, cks (by omega), zAa,
      ih (i+1) q _ e2 (by omega) (by omega) (by simp at hq; omega) (by simp; omega)]
    simp [sepT, zIr hx]
theorem zNt (O : List (List RW)) (l : List Int) (hl : l.length ≤ 1000) (hO : ∀ x, x ∈ O → x.length ≤ 100000) (hk : ∀ k, k ∈ l → 0 ≤ k ∧ k < (O.length : Int)) : zDG O l = some (sepW 9 (l.map (oAt O))) := by
  unfold zDG
  rw [show (fuel : Nat) = (fuel - 1) + 1 from rfl]
  simp only [zBp]
  cases l with
  | nil => rfl
  | cons k r =>
    obtain ⟨k1, k2⟩ := hk k (by simp)
    obtain ⟨k, rfl⟩ : ∃ k' : Nat, k = (k' : Int) := ⟨k.toNat, by omega⟩
    obtain ⟨x, hx⟩ : ∃ x, O[k]? = some x := ⟨_, List.getElem?_eq_getElem (by omega)⟩
    have hxl := hO x (List.mem_of_getElem? hx)
    have h1 := stmts_l1 O ((k : Int) :: r) hl hO hk r 1 (fuel - 1) x rfl (by omega) (by simp) (by simp at hl; unfold fuel; omega) (by omega)
    have hl0 : lAt ((k : Int) :: r) 0 = some (k : Int) := rfl
    rw [decide_eq_true (by simp <;> omega), if_pos rfl, decide_eq_false (by omega), ifF, zAa, hl0, zAa, zAf hx, zAa, appB (by simp; unfold big9; omega), zAa, show ck ((0 : Int) + 1) = some ((1 : Nat) : Int) from rfl, zAa, List.nil_append, h1, zAa]
    simp [sepW, zIr hx]
end Go.Cq

set_option maxRecDepth 100000
namespace Go.Cq
open Go Go.Av
structure NOk (N : List rNd) : Prop where
 may : ∀ x, x ∈ N → mayB (zAd x) = true
 k0 : ∀ x, x ∈ N → 0 ≤ x.K
 kids : ∀ x, x ∈ N → x.Kids.length ≤ 520
 l : ∀ x, x ∈ N → x.L.length ≤ 40
 len : N.length ≤ 1000
theorem may9 {n : rNd} (h : mayB (zAd n) = true) (hk : n.K = 9) : arity n.S = ((n.Kids.length : Int) - 1, true) := by
 have : zEt n.S ((n.Kids.length : Int) - 1) = true := by
  simp [mayB, zAd, hk] at h; exact h.2
 simp only [zEt, Bool.and_eq_true, decide_eq_true_eq] at this
 exact Prod.ext this.2 this.1
theorem may11 {n : rNd} (h : mayB (zAd n) = true) (hk : n.K = 11) : arity n.S = ((n.Kids.length : Int), true) := by
 have : zEt n.S (n.Kids.length : Int) = true := by
  simp [mayB, zAd, hk] at h; exact h.2
 simp only [zEt, Bool.and_eq_true, decide_eq_true_eq] at this
 exact Prod.ext this.2 this.1
theorem may10 {n : rNd} (h : mayB (zAd n) = true) (hk : n.K = 10) : 3 ≤ n.Kids.length ∧ n.Kids.length ≤ 17 := by
 simp [mayB, zAd, hk] at h; exact h.2.2
theorem may8 {n : rNd} (h : mayB (zAd n) = true) (hk : n.K = 8) : n.Kids.length = 1 := by
 simp [mayB, zAd, hk] at h; exact h.2.2
theorem may13 {n : rNd} (h : mayB (zAd n) = true) (hk : n.K = 13) : n.Kids.length = 1 := by
 simp [mayB, zAd, hk] at h; exact h.2.2
theorem may12 {n : rNd} (h : mayB (zAd n) = true) (hk : n.K = 12) : 0 ≤ n.N ∧ n.N ≤ 8 ∧ n.N ≤ (n.L.length : Int) := by
 simp [mayB, zAd, hk] at h; exact ⟨h.2.1, h.2.2.1, h.2.2.2.1⟩
theorem may5 {n : rNd} (h : mayB (zAd n) = true) (hk : n.K = 5) : n.S ≠ [] := by
 intro e
 have : zO3 n.S = true := by simp [mayB, zAd, hk] at h; exact h.2.2
 rw [e] at this
 exact absurd this (by decide)
theorem may_le {n : rNd} (h : mayB (zAd n) = true) : n.K ≤ 13 := zPd h
theorem zFQ {s : Str} {n : Int} (h : arity s = (n, true)) : s ≠ [] ∧ s.length ≤ 1000 := ⟨(zIs h).1, by have := (zIs h).2; omega⟩
section
variable {m : rMt} {O : List (List RW)}
theorem zOg {N : List rNd} {j : Nat} {x : rNd} (h : N[j]? = some x) : nK N (j : Int) = (x.K, x.S) := by simp [nK, h]
theorem zNV (N : List rNd) (hO : ∀ x, x ∈ O → x.length ≤ 100000) (s : Str) (k : Int) : (argW N O s k).length ≤ 100002 := by
 unfold argW; have := zD5 (inW (nK N k).1 (nK N k).2 (zCS s)) (oAt O k); have := zPU hO k; omega
theorem msg_l1 (hN : NOk m.Nodes) (hO : ∀ x, x ∈ O → x.length ≤ 100000) (hON : O.length ≤ m.Nodes.length) (n : rNd) (hs : n.S ≠ []) (hs2 : n.S.length ≤ 1000) (kids : List Int) (hkl : kids.length ≤ 1000) (hk : ∀ k, k ∈ kids → 0 ≤ k ∧ k < (O.length : Int)) :
    ∀ (r : List Int) (i q : Nat) (acc : List (List RW)), kids.drop i = r → i ≤ kids.length → r.length < q → acc.length ≤ i →
      zBg m O n kids q acc (i : Int) = some (acc ++ r.map (argW m.Nodes O n.S)) := by
  intro r
  induction r with
  | nil =>
    intro i q acc h hi hq hac
    obtain ⟨q, rfl⟩ : ∃ q', q = q' + 1 := ⟨q - 1, by simp at hq; omega⟩
    have : i = kids.length := by have : kids.length ≤ i := by simpa using h
                                 omega
    subst this
    simp only [zBg]
    rw [zAD, ifF]; simp
  | cons k r ih =>
    intro i q acc h hi hq hac
    obtain ⟨q, rfl⟩ : ∃ q', q = q' + 1 := ⟨q - 1, by simp at hq; omega⟩
    obtain ⟨e1, e2, e3⟩ := zAE h
    obtain ⟨k1, k2⟩ := hk k (List.mem_of_getElem? e1)
    obtain ⟨k, rfl⟩ : ∃ k' : Nat, k = (k' : Int) := ⟨k.toNat, by omega⟩
    obtain ⟨x, hx⟩ : ∃ x, O[k]? = some x := ⟨_, List.getElem?_eq_getElem (by omega)⟩
    obtain ⟨nk, hnk⟩ : ∃ nk, m.Nodes[k]? = some nk := ⟨_, List.getElem?_eq_getElem (by omega)⟩
    have hxl := hO x (List.mem_of_getElem? hx)
    have hnm := List.mem_of_getElem? hnk
    have hab := zKV nk x n.S false (fun h9 => zFQ (may9 (hN.may nk hnm) h9)) hs hs2 (by omega)
    simp only [zBg]
    rw [zAB e3, if_pos rfl, zAf e1, zAa, zAf hnk, zAa, zAf hx, zAa, hab, zAa, appB (by simp; unfold big9; omega), zAa, cks (by omega), zAa, ih (i+1) q _ e2 (by omega) (by simp at hq; omega) (by simp; omega)]
    simp [argW, zOg hnk, zIr hx]
theorem zJA (hN : NOk m.Nodes) (hO : ∀ x, x ∈ O → x.length ≤ 100000) (hON : O.length ≤ m.Nodes.length) (n : rNd) (kids : List Int) (ha : arity n.S = ((kids.length : Int), true)) (hkl : kids.length ≤ 1000) (hk : ∀ k, k ∈ kids → 0 ≤ k ∧ k < (O.length : Int)) :
  zCQ m O n kids = some (msgW m.Nodes O n.S kids) := by
 unfold zCQ msgW
 obtain ⟨hs, hs2⟩ := zFQ ha
 have h1 := msg_l1 hN hO hON n hs hs2 kids hkl hk kids 0 fuel [] rfl (Nat.zero_le _) (by unfold fuel; omega) (by simp)
 rw [show ((0 : Nat) : Int) = 0 from rfl] at h1
 rw [h1, zAa, List.nil_append, zQE n.S _ hs hs2 (fun e => ?_) (fun e => ?_) (fun x hx => ?_), zAa]
 ·rcases zBB ha with h | h | h
  ·rw [h.1] at e; cases e
  ·simp; omega
  rw [h.1] at e; cases e
 ·rcases zBB ha with h | h | h
  ·rw [h.1] at e; cases e
  ·rw [h.1] at e; cases e
  exact ⟨h.2.1, by simp; omega, by omega⟩
 obtain ⟨k, _, rfl⟩ := List.mem_map.1 hx
 have := zNV m.Nodes hO n.S k
 omega
theorem casc_l1 (hO : ∀ x, x ∈ O → x.length ≤ 100000) (n : rNd) (hkl : n.Kids.length ≤ 1000) (hk : ∀ k, k ∈ n.Kids → 0 ≤ k ∧ k < (O.length : Int)) :
    ∀ (r : List Int) (i q : Nat) (acc : List RW), n.Kids.drop i = r → 1 < i → i ≤ n.Kids.length → r.length < q → acc.length ≤ i * 200001 →
      zBj O n q acc (i : Int) = some (acc ++ sepT 8 (r.map (oAt O))) := by
  intro r
  induction r with
  | nil =>
    intro i q acc h h0 hi hq hac
    obtain ⟨q, rfl⟩ : ∃ q', q = q' + 1 := ⟨q - 1, by simp at hq; omega⟩
    have : i = n.Kids.length := by have : n.Kids.length ≤ i := by simpa using h
                                   omega
    subst this
    simp only [zBj]
    rw [zAD, ifF]; simp [sepT]
  | cons k r ih =>
    intro i q acc h h0 hi hq hac
    obtain ⟨q, rfl⟩ : ∃ q', q = q' + 1 := ⟨q - 1, by simp at hq; omega⟩
    obtain ⟨e1, e2, e3⟩ := zAE h
    obtain ⟨k1, k2⟩ := hk k (List.mem_of_getElem? e1)
    obtain ⟨k, rfl⟩ : ∃ k' : Nat, k = (k' : Int) := ⟨k.toNat, by omega⟩
    obtain ⟨x, hx⟩ : ∃ x, O[k]? = some x := ⟨_, List.getElem?_eq_getElem (by omega)⟩
    have hxl := hO x (List.mem_of_getElem? hx)
    simp only [zBj]
    rw [zAB e3, if_pos rfl, decide_eq_true (by omega), if_pos rfl, w_eq, zAa, appB (by simp; unfold big9; omega), zAa, zAa, zAf e1, zAa, zAf hx, zAa, appB (by simp; unfold big9; omega), zAa, cks (by omega), zAa,
      ih (i+1) q _ e2 (by omega) (by omega) (by simp at hq; omega) (by simp; omega)]
    simp [sepT, zIr hx]
theorem args_l2 (n : rNd) (hN : n.N ≤ (n.L.length : Int)) (hl : n.L.length ≤ 1000) : ∀ (c i q : Nat) (acc : List RW), (i : Int) + c = n.N → c < q → acc.length ≤ i + 10 → zCq n q acc (i : Int) = some (acc ++ ((n.L.drop i).take c).map (w0 5)) := by
 intro c
 induction c with
 | zero =>
  intro i q acc h hq hac
  obtain ⟨q, rfl⟩ : ∃ q', q = q' + 1 := ⟨q - 1, by omega⟩
  simp only [zCq]
  rw [decide_eq_false (by omega), ifF]; simp
 | succ c ih =>
  intro i q acc h hq hac
  obtain ⟨q, rfl⟩ : ∃ q', q = q' + 1 := ⟨q - 1, by omega⟩
  have hi : i < n.L.length := by omega
  have hd : n.L.drop i = n.L[i] :: n.L.drop (i+1) := List.drop_eq_getElem_cons hi
  simp only [zCq]
  rw [decide_eq_true (by omega), if_pos rfl, zAf (List.getElem?_eq_getElem hi), zAa, w_eq, zAa, appB (by simp; unfold big9; omega), zAa, cks (by omega), zAa, ih (i+1) q _ (by omega) (by omega) (by simp; omega), hd, List.take_succ_cons, List.map_cons, List.append_assoc]
  rfl
theorem zHx {l : List Int} (h : 1 ≤ l.length) : lAt l (0 : Int) = some (kid0 l) := by
 cases l with
 | nil => simp at h
 | cons x r => rfl
theorem zDM {l : List Int} (h : 1 ≤ l.length) : kid0 l ∈ l := by
 cases l with
 | nil => simp at h
 | cons x r => simp [kid0]
theorem sub1 {α : Type} {l : List α} (h : 1 ≤ l.length) : sub l 1 (l.length : Int) = some (l.drop 1) := by
 unfold sub; rw [if_pos ⟨by omega, by omega, by omega⟩]; simp
theorem node_eq (hN : NOk m.Nodes) (hO : ∀ x, x ∈ O → x.length ≤ 100000) (hON : O.length ≤ m.Nodes.length) (n : rNd) (hn : n ∈ m.Nodes) (hk : ∀ k, k ∈ n.Kids → 0 ≤ k ∧ k < (O.length : Int))
    (hc : n.K = 10 → ∀ k, k ∈ n.Kids.drop 1 → (nK m.Nodes k).1 = 11) : zFf m O n = some (zFU m.Nodes O n) := by
  have hm := hN.may n hn
  have h0 := hN.k0 n hn
  have h13 := may_le hm
  have hkl := hN.kids n hn
  have hll := hN.l n hn
  unfold zFf zFU
  by_cases c5 : n.K < 5
  · obtain ⟨k, hkk⟩ : ∃ k : Nat, n.K = (k : Int) := ⟨n.K.toNat, by omega⟩
    have hf : zEz[k]? = some (zEz.getD n.K.toNat []) := by
      have : k < zEz.length := by simp [zEz]; omega
      rw [List.getElem?_eq_getElem this, hkk]
      simp [List.getD_eq_getElem?_getD, List.getElem?_eq_getElem this]
    have hf' : lAt ([[115, 101, 108, 102], [115, 117, 112, 101, 114], [110, 105, 108], [116, 114, 117, 101], [102, 97, 108, 115, 101]] : List Str) n.K = some (zEz.getD n.K.toNat []) := by
      rw [hkk] at hf ⊢; exact zAf hf
    rw [decide_eq_true c5, if_pos rfl, hf', zAa, w_eq, zAa, if_pos c5]
  rw [decide_eq_false c5, ifF, if_neg c5]
  by_cases e5 : n.K = 5
  · have hne := may5 hm e5
    obtain ⟨c, r, hS⟩ : ∃ c r, n.S = c :: r := by cases h : n.S with | nil => exact absurd h hne | cons c r => exact ⟨c, r, rfl⟩
    have hsi : sIdx n.S 0 = some (c.toNat : Int) := zCR (j := 0) (by rw [hS]; rfl)
    rw [decide_eq_true e5, if_pos rfl, hsi, zAa, zAa, if_pos e5]
    by_cases hc45 : c = 45
    · subst hc45
      rw [decide_eq_true (by rfl), if_pos rfl, w_eq, zAa, hS, sub1 (by simp), zAa, w_eq, zAa]
      rfl
    have : ¬ ((c.toNat : Int) = 45) := fun e => hc45 (UInt8.toNat_inj.1 (by have : c.toNat = 45 := by omega
                                                                            rw [this]; rfl))
    rw [decide_eq_false this, ifF, if_pos rfl, w_eq, zAa, hS]
    unfold numW
    split
    · rename_i e; cases e; exact absurd rfl hc45
    rfl
  rw [decide_eq_false e5, ifF, zAa, ifF, ifF, if_neg e5]
  by_cases e6 : n.K = 6
  · rw [decide_eq_true e6, if_pos rfl, w_eq, zAa, if_pos e6]
  rw [decide_eq_false e6, ifF, if_neg e6]
  by_cases e7 : n.K = 7
  · rw [decide_eq_true e7, if_pos rfl, w_eq, zAa, if_pos e7]
  rw [decide_eq_false e7, ifF, if_neg e7]
  have hget : ∀ k, k ∈ n.Kids → lAt O k = some (oAt O k) := fun k hkm => by
    obtain ⟨k1, k2⟩ := hk k hkm
    obtain ⟨k, rfl⟩ : ∃ k' : Nat, k = (k' : Int) := ⟨k.toNat, by omega⟩
    obtain ⟨x, hx⟩ : ∃ x, O[k]? = some x := ⟨_, List.getElem?_eq_getElem (by omega)⟩
    rw [zAf hx, zIr hx]
  have hgetN : ∀ k, k ∈ n.Kids → ∃ x, lAt m.Nodes k = some x ∧ nK m.Nodes k = (x.K, x.S) ∧ x ∈ m.Nodes := fun k hkm => by
    obtain ⟨k1, k2⟩ := hk k hkm
    obtain ⟨k, rfl⟩ : ∃ k' : Nat, k = (k' : Int) := ⟨k.toNat, by omega⟩
    obtain ⟨x, hx⟩ : ∃ x, m.Nodes[k]? = some x := ⟨_, List.getElem?_eq_getElem (by omega)⟩
    exact ⟨x, zAf hx, zOg hx, List.mem_of_getElem? hx⟩
  have hlen := fun k => zPU hO k
  by_cases e8 : n.K = 8
  · have hp : 1 ≤ n.Kids.length := by rw [may8 hm e8]; exact Nat.le_refl _
    have h1 := hlen (kid0 n.Kids)
    rw [decide_eq_true e8, if_pos rfl, w_eq, w_eq, zAa, zAa, zHx hp, zAa, hget _ (zDM hp), zAa, appB (by simp; unfold big9; omega), zAa, if_pos e8]
    rfl
  rw [decide_eq_false e8, ifF, if_neg e8]
  by_cases e13 : n.K = 13
  · have hp : 1 ≤ n.Kids.length := by rw [may13 hm e13]; exact Nat.le_refl _
    have h1 := hlen (kid0 n.Kids)
    rw [decide_eq_true e13, if_pos rfl, w_eq, zAa, zHx hp, zAa, hget _ (zDM hp), zAa, appB (by simp; unfold big9; omega), zAa, if_pos e13]
    rfl
  rw [decide_eq_false e13, ifF, if_neg e13]
  by_cases e11 : n.K = 11
  · rw [decide_eq_true e11, if_pos rfl, zJA hN hO hON n n.Kids (may11 hm e11) (by omega) hk, zAa, if_pos e11]
  rw [decide_eq_false e11, ifF, if_neg e11]
  by_cases e9 : n.K = 9
  · have ha := may9 hm e9
    have hpos : 1 ≤ n.Kids.length := by
      rcases zBB ha with h | h | h <;> omega
    have hl0 := zHx hpos
    have hk0 := zDM hpos
    obtain ⟨r, hdr⟩ : ∃ r, n.Kids.drop 1 = r := ⟨_, rfl⟩
    have hrl : n.Kids.length = r.length + 1 := by rw [← hdr]; simp; omega
    obtain ⟨x, x1, x2, x3⟩ := hgetN _ hk0
    have h1 := hlen (kid0 n.Kids)
    obtain ⟨hs, hs2⟩ := zFQ ha
    have hab := zKV x (oAt O (kid0 n.Kids)) n.S true (fun h9 => zFQ (may9 (hN.may x x3) h9)) hs hs2 (by omega)
    have hto : parW (inW x.K x.S (zFC n.S)) (oAt O (kid0 n.Kids)) = toW m.Nodes O n.S (kid0 n.Kids) := by unfold toW; rw [x2]
    have htl : (toW m.Nodes O n.S (kid0 n.Kids)).length ≤ 100002 := by rw [← hto]; have := zD5 (inW x.K x.S (zFC n.S)) (oAt O (kid0 n.Kids)); omega
    have hsb : sub n.Kids 1 (n.Kids.length : Int) = some r := by rw [sub1 hpos, hdr]
    have hmsg := zJA hN hO hON n r (by rw [ha, hrl]; simp) (by omega) (fun k hkm => hk k (List.mem_of_mem_drop (i := 1) (by rw [hdr]; exact hkm)))
    have hml : (msgW m.Nodes O n.S r).length ≤ 900000000 := by
      unfold msgW zIa
      have hz : ∀ (ks : List Str) (a : List (List RW)), (∀ x, x ∈ a → x.length ≤ 200000) → (zipW ks a).length ≤ a.length * 200001 := by
        intro ks
        induction ks with
        | nil => intro a _; simp [zipW]
        | cons k ks ih =>
          intro a ha
          cases a with
          | nil => simp [zipW]
          | cons x xs =>
            have h1 := ih xs (fun y hy => ha y (by simp [hy]))
            have h2 := ha x (by simp)
            simp only [zipW, List.length_cons, List.length_append]; omega
      have ha2 : ∀ x, x ∈ r.map (argW m.Nodes O n.S) → x.length ≤ 200000 := fun x hx => by
        obtain ⟨k, _, rfl⟩ := List.mem_map.1 hx
        have := zNV m.Nodes hO n.S k; omega
      split
      · simp
      split
      · cases hmm : r.map (argW m.Nodes O n.S) with
        | nil => simp [hd0]
        | cons y ys => have := ha2 y (by rw [hmm]; simp); simp [hd0]; omega
      have := hz (zER n.S) _ ha2
      simp at this
      omega
    rw [decide_eq_true e9, if_pos rfl, hl0, zAa, x1, zAa, hget _ hk0, zAa, hab, if_pos rfl, hto, zAa, appB (by simp; unfold big9; omega), zAa, hsb, zAa, hmsg, zAa, appB (by simp; unfold big9; omega), zAa, if_pos e9, hdr]
    rfl
  rw [decide_eq_false e9, ifF, if_neg e9]
  by_cases e10 : n.K = 10
  · obtain ⟨h3, h17⟩ := may10 hm e10
    obtain ⟨k0, k1, r, hr⟩ : ∃ k0 k1 r, n.Kids = k0 :: k1 :: r := by
      cases h : n.Kids with
      | nil => rw [h] at h3; simp at h3
      | cons a l => cases l with
        | nil => rw [h] at h3; simp at h3
        | cons b l => exact ⟨a, b, l, rfl⟩
    have m0 : k0 ∈ n.Kids := by rw [hr]; simp
    have m1 : k1 ∈ n.Kids := by rw [hr]; simp
    have hl0 : lAt n.Kids (0 : Int) = some k0 := by rw [hr]; rfl
    have hl1 : lAt n.Kids (1 : Int) = some k1 := by rw [hr]; rfl
    obtain ⟨x, x1, x2, x3⟩ := hgetN _ m0
    obtain ⟨y, y1, y2, y3⟩ := hgetN _ m1
    have h1 := hlen k0
    have h2 := hlen k1
    have hy11 : y.K = 11 := by
      have := hc e10 k1 (by rw [hr]; simp)
      rw [y2] at this; exact this
    obtain ⟨hs, hs2⟩ := zFQ (may11 (hN.may y y3) hy11)
    have hab := zKV x (oAt O k0) y.S true (fun h9 => zFQ (may9 (hN.may x x3) h9)) hs hs2 (by omega)
    have hto : parW (inW x.K x.S (zFC y.S)) (oAt O k0) = toW m.Nodes O y.S k0 := by unfold toW; rw [x2]
    have htl : (toW m.Nodes O y.S k0).length ≤ 100002 := by rw [← hto]; have := zD5 (inW x.K x.S (zFC y.S)) (oAt O k0); omega
    have hrl : n.Kids.length = r.length + 2 := by rw [hr]; simp
    have hcl := casc_l1 hO n (by omega) hk r 2 (fuel - 1) (toW m.Nodes O y.S k0 ++ oAt O k1) (by rw [hr]; rfl) (by omega) (by omega) (by unfold fuel; omega) (by simp; omega)
    have hl1' : zBj O n fuel (toW m.Nodes O y.S k0) 1 = some (toW m.Nodes O y.S k0 ++ oAt O k1 ++ sepT 8 (r.map (oAt O))) := by
      rw [show (fuel : Nat) = (fuel - 1) + 1 from rfl]
      simp only [zBj]
      rw [decide_eq_true (by omega), if_pos rfl, decide_eq_false (by omega), ifF, zAa, hl1, zAa, hget _ m1, zAa, appB (by unfold big9; omega), zAa, show ck ((1 : Int) + 1) = some ((2 : Nat) : Int) from rfl, zAa]
      exact hcl
    rw [decide_eq_true e10, if_pos rfl, hl0, zAa, x1, zAa, hget _ m0, zAa, hl1, zAa, y1, zAa, hab, if_pos rfl, hto, zAa, appB (by simp; unfold big9; omega), zAa, List.nil_append, hl1', zAa, if_pos e10]
    unfold zM6
    rw [hr]
    simp [kid0, y2, sepW]
  have e12 : n.K = 12 := by omega
  rw [decide_eq_false e10, ifF, if_neg e10]
  obtain ⟨n0, n8, nl⟩ := may12 hm e12
  obtain ⟨c, hcN⟩ : ∃ c : Nat, n.N = (c : Int) := ⟨n.N.toNat, by omega⟩
  have ha2 := args_l2 n nl (by omega) c 0 fuel [w0 12 []] (by omega) (by unfold fuel; omega) (by simp)
  rw [show ((0 : Nat) : Int) = 0 from rfl] at ha2
  have hst := zNt O n.Kids (by omega) hO hk
  have hsb : sub n.L n.N (n.L.length : Int) = some (n.L.drop c) := by
    unfold sub; rw [if_pos ⟨by omega, by omega, by omega⟩, hcN]; simp
  have hv := zI3 (n.L.drop c) (by simp; omega)
  have hvl : (zEy (n.L.drop c)).length ≤ 50 := by
    unfold zEy; split
    · simp
    simp; omega
  have hsl : (sepW 9 (n.Kids.map (oAt O))).length ≤ 500000000 := by
    cases hkk : n.Kids with
    | nil => simp [sepW]
    | cons k r =>
      have hx := hlen k
      have := sepT_len (k := 9) (l := r.map (oAt O)) (fun x hx => by obtain ⟨k, _, rfl⟩ := List.mem_map.1 hx; have := hlen k; omega)
      have hrl : n.Kids.length = r.length + 1 := by rw [hkk]; simp
      simp at this
      simp [sepW]
      omega
  have htk : ((n.L.take c).map (w0 5)).length ≤ 40 := by simp; omega
  simp only [List.drop_zero] at ha2
  unfold zHO
  by_cases hpos : 0 < n.N
  · rw [decide_eq_true hpos, if_pos hpos, w_eq, w_eq, zAa, w_eq, ha2, zAa, if_pos rfl, hsb]
    simp only [zAa, hv, hst]
    rw [appB (by simp only [List.length_append, List.length_cons, List.length_nil]; unfold big9; omega), zAa, zAa, appB (by simp only [List.length_append, List.length_cons, List.length_nil]; unfold big9; omega), zAa, appB (by simp only [List.length_append, List.length_cons, List.length_nil]; unfold big9; omega), zAa, appB (by simp only [List.length_append, List.length_cons, List.length_nil]; unfold big9; omega), zAa]
    simp [hcN]
  rw [decide_eq_false hpos, if_neg hpos, w_eq, w_eq, zAa, w_eq, ha2, zAa, ifF, hsb]
  simp only [zAa, hv, hst]
  rw [appB (by simp only [List.length_append, List.length_cons, List.length_nil]; unfold big9; omega), zAa, appB (by simp only [List.length_append, List.length_cons, List.length_nil]; unfold big9; omega), zAa, appB (by simp only [List.length_append, List.length_cons, List.length_nil]; unfold big9; omega), zAa]
  simp [hcN]
end
end Go.Cq

