import Derived.Test.YtiboeelbmgnbgaaGreatDoorL1
import Derived.Lib.SplitLaws
set_option linter.unusedSectionVars false
set_option linter.unusedVariables false
set_option linter.unusedSimpArgs false
set_option linter.unnecessarySimpa false
set_option maxRecDepth 100000
namespace Go.Cq
open Go Go.Av
theorem zKn (c : UInt8) (r : Str) : Lib.index (c :: r) [c] = 0 := by
  have := Lib.index_first (s := c :: r) (sub := [c]) (i := 0) (Nat.zero_le _) (by simp [Lib.occAt]) (fun _ h => absurd h (Nat.not_lt_zero _))
  exact this
theorem zJu {c x : UInt8} (h : x ≠ c) (r : Str) : Lib.index (x :: r) [c] = if Lib.index r [c] = -1 then -1 else Lib.index r [c] + 1 := by
 have h0 : Lib.NoOcc (x :: r) [c] 1 := fun j hj => by
  have : j = 0 := by omega
  subst this
  simp [Lib.occAt]
  show (c == x && true) = false
  rw [Bool.and_true]; simpa using fun e : c = x => h e.symm
 have := Lib.index_drop (s := x :: r) (sub := [c]) (i := 1) h0 (by simp)
 rw [this]
 simp
def zAt (c : UInt8) : Str → List Str
 | [] => [[]]
 | x :: r => if x = c then [] :: zAt c r else match zAt c r with
  | [] => [[x]]
  | p :: l => (x :: p) :: l
theorem zHG (c : UInt8) : ∀ s : Str, Lib.splitK [c] 0 (s.count c) s = zAt c s
 | [] => rfl
 | x :: r => by
  unfold zAt
  by_cases h : x = c
  ·subst h
   rw [if_pos rfl, List.count_cons_self, Lib.splitK, zKn]
   simp
   exact zHG x r
  rw [if_neg h, List.count_cons_of_ne h, ← zHG c r]
  have hge := Lib.index_ge r [c]
  cases hc : r.count c with
  | zero =>
   rfl
  | succ k =>
   rw [Lib.splitK, Lib.splitK, zJu h]
   by_cases hm : Lib.index r [c] = -1
   ·rw [hm]; rfl
   rw [if_neg hm]
   obtain ⟨i, hi⟩ : ∃ i : Nat, Lib.index r [c] = i := ⟨(Lib.index r [c]).toNat, by omega⟩
   rw [hi]
   have e1 : ((i : Int) + 1).toNat = i + 1 := by omega
   have e2 : (i : Int).toNat = i := by omega
   rw [if_neg (by simp; try omega), if_neg (by simp; try omega), e1, e2]
   simp
theorem zI8 {s : Str} (c : UInt8) (h : s.length < 4294967281) : strings_Split s [c] = some (zAt c s) := by
 unfold strings_Split zNK
 rw [if_pos ⟨h, Nat.le_refl _⟩]
 have : Lib.countB ⟨s.toArray⟩ ⟨[c].toArray⟩ = s.count c := Lib.count_one c s
 rw [this, zHG]
theorem zCt (c : UInt8) : ∀ s : Str, zAt c s ≠ []
  | [] => by simp [zAt]
  | x :: r => by
    unfold zAt
    split
    · simp
    split <;> simp
theorem zIV (c : UInt8) : ∀ t : Str, zAt c (t ++ [c]) = zAt c t ++ [[]]
 | [] => by simp [zAt]
 | x :: r => by
  rw [List.cons_append]
  unfold zAt
  rw [zIV c r]
  split
  ·simp
  cases h : zAt c r with
  | nil => exact absurd h (zCt c r)
  | cons p l => simp
theorem zIJ (c : UInt8) : ∀ s : Str, (∀ x, x ∈ s → x ≠ c) → zAt c s = [s]
 | [], _ => rfl
 | x :: r, h => by
  unfold zAt
  rw [if_neg (h x (by simp)), zIJ c r fun y hy => h y (by simp [hy])]
theorem zHb (c : UInt8) : ∀ (s p : Str), zAt c s = [p] → p = s
 | [], p, h => by simp [zAt] at h; exact h
 | x :: r, p, h => by
  unfold zAt at h
  split at h
  ·simp at h; exact absurd h.2 (zCt c r)
  cases e : zAt c r with
  | nil => exact absurd e (zCt c r)
  | cons q l =>
   rw [e] at h
   simp only [List.cons.injEq] at h
   obtain ⟨rfl, rfl⟩ := h
   rw [zHb c r q e]
theorem zIy (c : UInt8) : ∀ (s : Str), s ≠ [] → s.getLast? ≠ some c → ∃ l p, zAt c s = l ++ [p] ∧ p ≠ []
 | [], h, _ => absurd rfl h
 | [x], _, h => by
  have : x ≠ c := by simpa using h
  refine ⟨[], [x], ?_, by simp⟩
  simp [zAt, this]
 | x :: y :: r, _, h => by
  obtain ⟨l, p, e, hp⟩ := zIy c (y :: r) (by simp) (by simpa using h)
  by_cases hx : x = c
  ·refine ⟨[] :: l, p, ?_, hp⟩
   rw [zAt, if_pos hx, e]; rfl
  rw [zAt, if_neg hx, e]
  cases l with
  | nil => exact ⟨[], x :: p, rfl, by simp⟩
  | cons q l => exact ⟨(x :: q) :: l, p, rfl, hp⟩
def nmB (s : Str) : Bool := match s with | c :: r => zAn 97 122 c && (zCE c && r.all zCE) | [] => false
def fin (n : Nat) (fresh : Bool) : Int × Bool := if n = 0 then (0, true) else if (!fresh || decide (8 < n)) = true then (0, false) else ((n : Int), true)
def arL : Nat → Bool → Str → Int × Bool
 | n, fresh, [] => fin n fresh
 | n, true, c :: r => if zAn 97 122 c = true then arL n false r else (0, false)
 | n, false, c :: r => if c = 58 then arL (n+1) true r else if zCE c = true then arL n false r else (0, false)
def resF : Nat → List Str → Int × Bool
 | _, [] => (0, false)
 | n, [p] => if p = [] then fin n true else if nmB p = true then fin n false else (0, false)
 | n, p :: q :: l => if nmB p = true then resF (n+1) (q :: l) else (0, false)
def resM : Nat → List Str → Int × Bool
 | _, [] => (0, false)
 | n, [p] => if p.all zCE = true then fin n false else (0, false)
 | n, p :: q :: l => if p.all zCE = true then resF (n+1) (q :: l) else (0, false)
theorem zMx {c : UInt8} (h : zAn 97 122 c = true) : zCE c = true := by unfold zCE; rw [h]; rfl
theorem zQH : ∀ (s : Str) (n : Nat), arL n true s = resF n (zAt 58 s) ∧ arL n false s = resM n (zAt 58 s)
  | [], n => ⟨rfl, rfl⟩
  | c :: r, n => by
    have ih := fun m => zQH r m
    by_cases hc : c = 58
    · subst hc
      have e : zAt 58 (58 :: r) = [] :: zAt 58 r := by rw [zAt, if_pos rfl]
      rw [e]
      cases h : zAt 58 r with
      | nil => exact absurd h (zCt _ r)
      | cons q l =>
        refine ⟨rfl, ?_⟩
        have := (ih (n+1)).1
        rw [h] at this
        exact this
    cases h : zAt 58 r with
    | nil => exact absurd h (zCt _ r)
    | cons p l =>
      have e : zAt 58 (c :: r) = (c :: p) :: l := by rw [zAt, if_neg hc, h]
      rw [e]
      have i1 := (ih n).2
      rw [h] at i1
      constructor
      · show (if zAn 97 122 c = true then arL n false r else (0, false)) = _
        cases hb : zAn 97 122 c with
        | false =>
          rw [ifF]
          cases l <;> simp [resF, nmB, hb]
        | true =>
          rw [if_pos rfl, i1]
          cases l <;> simp [resF, resM, nmB, hb, zMx hb]
      show (if c = 58 then _ else if zCE c = true then arL n false r else (0, false)) = _
      rw [if_neg hc]
      cases ha : zCE c with
      | false =>
        rw [ifF]
        cases l <;> simp [resM, ha]
      | true =>
        rw [if_pos rfl, i1]
        cases l <;> simp [resM, ha]
theorem zLR : ∀ (L : List Str) (n : Nat), resF n (L ++ [[]]) = if L.all nmB = true then fin (n + L.length) true else (0, false)
  | [], n => rfl
  | p :: L, n => by
    cases L with
    | nil =>
      show (if nmB p = true then resF (n+1) [[]] else (0, false)) = _
      cases h : nmB p <;> simp [h, resF]
    | cons q L =>
      show (if nmB p = true then resF (n+1) (q :: L ++ [[]]) else (0, false)) = _
      rw [zLR (q :: L) (n+1)]
      cases h : nmB p
      · simp [h]
      simp [h, Nat.add_assoc, Nat.add_comm 1]
theorem zHs : ∀ (L : List Str) (n : Nat) (p : Str), p ≠ [] → 0 < n → resF n (L ++ [p]) = (0, false)
  | [], n, p, hp, hn => by
    show (if p = [] then fin n true else if nmB p = true then fin n false else (0, false)) = _
    rw [if_neg hp]
    have : fin n false = (0, false) := by unfold fin; rw [if_neg (by omega)]; rfl
    rw [this]; split <;> rfl
  | q :: L, n, p, hp, hn => by
    cases L with
    | nil =>
      show (if nmB q = true then resF (n+1) [p] else (0, false)) = _
      have := zHs [] (n+1) p hp (by omega)
      rw [List.nil_append] at this
      rw [this]; split <;> rfl
    | cons x L =>
      show (if nmB q = true then resF (n+1) (x :: L ++ [p]) else (0, false)) = _
      rw [zHs (x :: L) (n+1) p hp (by omega)]; split <;> rfl
theorem nmB_no58 {s : Str} (h : nmB s = true) : ∀ x, x ∈ s → x ≠ 58 := by
 cases s with
 | nil => simp
 | cons c r =>
  simp only [nmB, Bool.and_eq_true, List.all_eq_true] at h
  have e : zCE 58 = false := by decide
  intro x hx he
  subst he
  rcases List.mem_cons.1 hx with hx | hx
  ·rw [← hx, e] at h; exact absurd h.2.1 (by simp)
  have := h.2.2 _ hx; rw [e] at this; cases this
theorem zJX (s : Str) (hs : s ≠ []) : arL 0 true s = if nmB s = true then (0, true) else if s.getLast? = some 58 then (if ((zAt 58 s.dropLast).all nmB && decide ((zAt 58 s.dropLast).length ≤ 8)) = true then (((zAt 58 s.dropLast).length : Int), true) else (0, false)) else (0, false) := by
  rw [(zQH s 0).1]
  cases hn : nmB s with
  | true =>
    rw [zIJ 58 s (nmB_no58 hn), if_pos rfl]
    show (if s = [] then _ else if nmB s = true then fin 0 false else _) = _
    rw [if_neg hs, hn, if_pos rfl]; rfl
  | false =>
    rw [ifF]
    by_cases hl : s.getLast? = some 58
    · rw [if_pos hl]
      have e : s = s.dropLast ++ [58] := by
        obtain ⟨ys, rfl⟩ := List.getLast?_eq_some_iff.1 hl
        simp
      conv => lhs; rw [e]
      rw [zIV, zLR]
      have hpos : 0 < (zAt 58 s.dropLast).length := List.length_pos_iff.2 (zCt _ _)
      cases (zAt 58 s.dropLast).all nmB with
      | false => rfl
      | true =>
        rw [if_pos rfl, Bool.true_and]
        unfold fin
        rw [if_neg (by omega), Nat.zero_add]
        by_cases h8 : (zAt 58 s.dropLast).length ≤ 8
        · rw [if_neg (by simp; omega), if_pos (by simpa using h8)]
        rw [if_pos (by simp; omega), if_neg (by simpa using h8)]
    rw [if_neg hl]
    obtain ⟨l, p, e, hp⟩ := zIy 58 s hs hl
    rw [e]
    cases l with
    | nil =>
      have : p = s := zHb 58 s p (by rw [e]; rfl)
      subst this
      show (if p = [] then _ else if nmB p = true then _ else _) = _
      rw [if_neg hp, hn, ifF]
    | cons q l =>
      cases l with
      | nil =>
        show (if nmB q = true then resF 1 ([] ++ [p]) else (0, false)) = _
        rw [zHs [] 1 p hp (by omega)]; split <;> rfl
      | cons x l =>
        show (if nmB q = true then resF 1 (x :: l ++ [p]) else (0, false)) = _
        rw [zHs (x :: l) 1 p hp (by omega)]; split <;> rfl
end Go.Cq

set_option maxRecDepth 100000
namespace Go.Cq
open Go Go.Av
theorem zH9 (s : List Int) (f : Int → Option Bool) (p : Int → Bool) (hf : ∀ x, x ∈ s → f x = some (p x)) (hs : s.length ≤ bigN) : zDW s f = some (s.any p) := by
 unfold zDW zED
 rw [zBL]
 have h := zBK (F := fun q (_ : Unit) i => zBy s f (fun _ => some (-1)) q i) (g := fun j x _ k => if p x then some (j : Int) else k ()) (K := fun _ => some (-1)) (l := s)
  (fun q st j x hx hj => by
   simp only [zBy]
   rw [zAB hj, if_pos rfl, zAf hx, zAa, hf x (List.mem_of_getElem? hx), zAa, ckj hj hs, zAa]) (fun q st => by
   simp only [zBy]
   rw [zAD, ifF]) () (zDZ hs)
 simp only at h
 rw [h]
 have : ∀ (r : List Int) (j : Nat), (zFT (fun j x _ k => if p x then some (j : Int) else k ()) (fun _ => some (-1)) j r ()).bind (fun v1 => some (decide ((0 : Int) ≤ v1))) = some (r.any p) := by
  intro r
  induction r with
  | nil => intro j; rfl
  | cons x r ih =>
   intro j
   rw [List.any_cons]
   show Option.bind (if p x then some (j : Int) else _) _ = _
   cases p x with
   | true => rw [if_pos rfl, zAa, Bool.true_or]; simp
   | false => rw [ifF, Bool.false_or]; exact ih (j+1)
 exact this s 0
theorem zFR (s : List Str) (f : Str → Option Bool) (p : Str → Bool) (hf : ∀ x, x ∈ s → f x = some (p x)) (hs : s.length ≤ bigN) : zA1 s f = some (s.any p) := by
 unfold zA1 zC5
 rw [zBL]
 have h := zBK (F := fun q (_ : Unit) i => zAS s f (fun _ => some (-1)) q i) (g := fun j x _ k => if p x then some (j : Int) else k ()) (K := fun _ => some (-1)) (l := s)
  (fun q st j x hx hj => by
   simp only [zAS]
   rw [zAB hj, if_pos rfl, zAf hx, zAa, hf x (List.mem_of_getElem? hx), zAa, ckj hj hs, zAa]) (fun q st => by
   simp only [zAS]
   rw [zAD, ifF]) () (zDZ hs)
 simp only at h
 rw [h]
 have : ∀ (r : List Str) (j : Nat), (zFT (fun j x _ k => if p x then some (j : Int) else k ()) (fun _ => some (-1)) j r ()).bind (fun v1 => some (decide ((0 : Int) ≤ v1))) = some (r.any p) := by
  intro r
  induction r with
  | nil => intro j; rfl
  | cons x r ih =>
   intro j
   rw [List.any_cons]
   show Option.bind (if p x then some (j : Int) else _) _ = _
   cases p x with
   | true => rw [if_pos rfl, zAa, Bool.true_or]; simp
   | false => rw [ifF, Bool.false_or]; exact ih (j+1)
 exact this s 0
theorem letter_eq (c : UInt8) : zDt (c.toNat : Int) = some (zCE c) := by
 have := zFg (fun c => decide (zDt (c.toNat : Int) = some (zCE c))) (by decide +kernel) c
 exact of_decide_eq_true this
theorem zN0 (s : Str) (hs : s.length ≤ bigN) : zDL s = some (nmB s) := by
 unfold zDL
 cases s with
 | nil => rfl
 | cons c r =>
  have e0 : ((c :: r : Str) == []) = false := rfl
  rw [e0, ifF, show (0 : Int) = ((0 : Nat) : Int) from rfl, zCR (s := c :: r) (j := 0) (c := c) rfl, zAa]
  have hb : (if (decide ((c.toNat : Int) < 97)) then some true else some (decide ((122 : Int) < (c.toNat : Int)))) = some (!zAn 97 122 c) := by
   have := zFg (fun c => decide ((if (decide ((c.toNat : Int) < 97)) then some true else some (decide ((122 : Int) < (c.toNat : Int)))) = some (!zAn 97 122 c))) (by decide +kernel) c
   exact of_decide_eq_true this
  rw [hb, zAa]
  have hc := zH9 (zAx (c :: r)) zDm (fun n => !(zCE (UInt8.ofNat n.toNat))) (fun x hx => by
   unfold zAx at hx
   obtain ⟨y, _, rfl⟩ := List.mem_map.1 hx
   unfold zDm
   rw [letter_eq, zAa]
   simp) (by unfold zAx; rw [List.length_map]; exact hs)
  have ha : (zAx (c :: r)).any (fun n => !(zCE (UInt8.ofNat n.toNat))) = !(zCE c && r.all zCE) := by
   unfold zAx
   rw [List.any_map]
   have : ((fun n : Int => !(zCE (UInt8.ofNat n.toNat))) ∘ fun c : UInt8 => (c.toNat : Int)) = fun c => !zCE c := by funext x; simp
   rw [this, ← List.all_cons, List.not_all_eq_any_not]
  rw [hc, ha]
  show _ = some (zAn 97 122 c && (zCE c && r.all zCE))
  cases zAn 97 122 c with
  | false => rfl
  | true => rw [Bool.not_true, ifF, zAa, Bool.not_not, Bool.true_and]
def zFx (c : UInt8) : Bool := zMi.contains c
def arity (s : Str) : Int × Bool := match s with
 | [] => (0, false)
 | c :: r => if decide (64 < (c :: r).length) = true then (0, false) else if zFx c = true then (match r with | [] => (1, true) | [d] => if zFx d = true then (1, true) else (0, false) | _ => (0, false)) else arL 0 true (c :: r)
theorem zPg (c : UInt8) : zEa (c.toNat : Int) = some (zFx c) := by
 have := zFg (fun c => decide (zEa (c.toNat : Int) = some (zFx c))) (by decide +kernel) c
 exact of_decide_eq_true this
theorem small_eq (c : UInt8) : zCJ (c.toNat : Int) = some (zAn 97 122 c) := by
 have := zFg (fun c => decide (zCJ (c.toNat : Int) = some (zAn 97 122 c))) (by decide +kernel) c
 exact of_decide_eq_true this
theorem zKI (c : UInt8) : decide ((c.toNat : Int) = 58) = decide (c = 58) := by
 have := zFg (fun c => decide ((c.toNat : Int) = 58) == decide (c = 58)) (by decide +kernel) c
 simpa using this
theorem word_int (c : UInt8) : ((zCJ (c.toNat : Int)).bind fun v29 => if (!v29) then if (decide ((c.toNat : Int) < 65)) then if (decide ((c.toNat : Int) < 48)) then some true else some (decide ((57 : Int) < (c.toNat : Int))) else if (decide ((90 : Int) < (c.toNat : Int))) then if (decide ((c.toNat : Int) < 48)) then some true else some (decide ((57 : Int) < (c.toNat : Int))) else some false else some false) = some (!zCE c) := by
 have := zFg (fun c => decide (((zCJ (c.toNat : Int)).bind fun v29 => if (!v29) then if (decide ((c.toNat : Int) < 65)) then if (decide ((c.toNat : Int) < 48)) then some true else some (decide ((57 : Int) < (c.toNat : Int))) else if (decide ((90 : Int) < (c.toNat : Int))) then if (decide ((c.toNat : Int) < 48)) then some true else some (decide ((57 : Int) < (c.toNat : Int))) else some false else some false) = some (!zCE c))) (by decide +kernel) c
 exact of_decide_eq_true this
def finK (v39 : Int) (v40 : Bool) : Option (Int × Bool) := if (decide (v39 = 0)) then some (0, true) else if ((!v40) || (decide ((8 : Int) < v39))) then some (0, false) else some (v39, true)
theorem finK_eq (n : Nat) (b : Bool) : finK (n : Int) b = some (fin n b) := by
  unfold finK fin
  by_cases h : n = 0
  · subst h; rfl
  rw [decide_eq_false (by omega), ifF, if_neg h]
  have : decide ((8 : Int) < (n : Int)) = decide (8 < n) := by
    by_cases h8 : 8 < n
    · rw [decide_eq_true h8, decide_eq_true (by omega)]
    rw [decide_eq_false h8, decide_eq_false (by omega)]
  rw [this]
  cases (!b || decide (8 < n)) <;> rfl
theorem zOC (s : Str) (hs : s.length ≤ 1000) : zBr s finK fuel 0 true 0 = some (arL 0 true s) := by
  have hl : ∀ (r : Str) (j q : Nat) (n : Nat) (b : Bool), s.drop j = r → j ≤ s.length → r.length < q → n ≤ j → zBr s finK q (n : Int) b (j : Int) = some (arL n b r) := by
    intro r
    induction r with
    | nil =>
      intro j q n b h hj hq hn
      have : j = s.length := by have : s.length ≤ j := by simpa using h
                                omega
      subst this
      obtain ⟨q, rfl⟩ : ∃ q', q = q' + 1 := ⟨q - 1, by simp at hq; omega⟩
      simp only [zBr]
      rw [zAD, ifF, finK_eq]
      cases b <;> rfl
    | cons c r ih =>
      intro j q n b h hj hq hn
      obtain ⟨e1, e2, e3⟩ := zAE h
      obtain ⟨q, rfl⟩ : ∃ q', q = q' + 1 := ⟨q - 1, by simp at hq; omega⟩
      have hq' : r.length < q := by simp at hq; omega
      have hck : ck ((j : Int) + 1) = some ((j + 1 : Nat) : Int) := cks (by omega)
      simp only [zBr]
      rw [zAB e3, if_pos rfl, zBL, zCR e1, zAa]
      cases b with
      | true =>
        rw [if_pos rfl, small_eq, zAa]
        show _ = some (if zAn 97 122 c = true then arL n false r else (0, false))
        cases zAn 97 122 c with
        | false => rfl
        | true => rw [Bool.not_true, ifF, if_pos rfl, hck]; exact ih (j+1) q n false e2 (by omega) hq' (by omega)
      | false =>
        rw [ifF, zKI]
        show _ = some (if c = 58 then arL (n+1) true r else if zCE c = true then arL n false r else (0, false))
        by_cases hc : c = 58
        · rw [decide_eq_true hc, if_pos rfl, if_pos hc, cks (by omega), zAa, hck]
          exact ih (j+1) q (n+1) true e2 (by omega) hq' (by omega)
        rw [decide_eq_false hc, ifF, if_neg hc, word_int, zAa]
        cases zCE c with
        | false => rfl
        | true => rw [Bool.not_true, ifF, if_pos rfl, hck]; exact ih (j+1) q n false e2 (by omega) hq' (by omega)
  exact hl s 0 fuel 0 true rfl (by omega) (by unfold fuel; omega) (Nat.le_refl _)
theorem zJQ (s : Str) : zDD s = some (arity s) := by
  unfold zDD
  cases s with
  | nil => rfl
  | cons c r =>
    unfold arity
    simp only
    by_cases h : 64 < (c :: r).length
    · have e : ((decide (((c :: r : Str).length : Int) < 1)) || (decide ((64 : Int) < ((c :: r : Str).length : Int)))) = true := by simp only [Bool.or_eq_true, decide_eq_true_eq]; omega
      rw [e, if_pos rfl, decide_eq_true h, if_pos rfl]
    have e : ((decide (((c :: r : Str).length : Int) < 1)) || (decide ((64 : Int) < ((c :: r : Str).length : Int)))) = false := by simp only [Bool.or_eq_false_iff, decide_eq_false_iff_not, List.length_cons] at h ⊢; omega
    rw [e, ifF, decide_eq_false h, ifF, show (0 : Int) = ((0 : Nat) : Int) from rfl, zCR (s := c :: r) (j := 0) (c := c) rfl, zAa, zPg, zAa]
    cases zFx c with
    | false =>
      rw [ifF, zBL, ifF]
      exact zOC (c :: r) (by omega)
    | true =>
      rw [if_pos rfl, if_pos rfl]
      cases r with
      | nil => rfl
      | cons d r =>
        cases r with
        | nil =>
          rw [show decide (((c :: [d] : Str).length : Int) = 1) = false from rfl, ifF, show decide (((c :: [d] : Str).length : Int) = 2) = true from rfl, if_pos rfl, show (1 : Int) = ((1 : Nat) : Int) from rfl, zCR (s := c :: [d]) (j := 1) (c := d) rfl, zAa, zPg, zAa, zAa]
          show _ = some (if zFx d = true then ((1 : Int), true) else (0, false))
          cases zFx d <;> rfl
        | cons f r =>
          rw [decide_eq_false (by simp; omega), ifF, decide_eq_false (by simp; omega), ifF, zAa, ifF]
theorem zJx {c : UInt8} (h : zFx c = true) : zAn 97 122 c = false := by
 have := zFg (fun c => !zFx c || !zAn 97 122 c) (by decide +kernel) c
 rw [h] at this; simpa using this
theorem zJE {c : UInt8} (h : zFx c = true) : zCE c = false ∧ c ≠ 58 := by
 have := zFg (fun c => !zFx c || (!zCE c && !(c == 58))) (by decide +kernel) c
 rw [h] at this
 simp at this
 exact this
theorem zFV (s : Str) (hs : s.length ≤ 1000) : sHSf s [58] = some (decide (s.getLast? = some 58)) := by
 unfold sHSf zAr
 cases s with
 | nil => rfl
 | cons c r =>
  have h1 : decide ((([58] : Str).length : Int) ≤ ((c :: r : Str).length : Int)) = true := by simp; omega
  have hk : (((c :: r : Str).length : Int) - (([58] : Str).length : Int)) = ((r.length : Nat) : Int) := by simp
  rw [h1, if_pos rfl, hk, ckn (by simp at hs; omega), zAa]
  have hsub : sub (c :: r) ((r.length : Nat) : Int) ((c :: r : Str).length : Int) = some ((c :: r).drop r.length) := by
   unfold sub
   rw [if_pos ⟨by omega, by simp; omega, by simp⟩]
   simp
  rw [hsub, zAa, zAa, zAa]
  have : (((c :: r).drop r.length) == ([58] : Str)) = decide ((c :: r).getLast? = some 58) := by
   have e : (c :: r).drop r.length = [(c :: r).getLast (by simp)] := by
    have h := List.dropLast_concat_getLast (l := c :: r) (by simp)
    generalize (c :: r).getLast _ = z at h ⊢
    rw [← h]
    exact List.drop_left' (by simp)
   rw [e, List.getLast?_eq_some_getLast (by simp)]
   generalize (c :: r).getLast _ = z
   by_cases hz : z = 58
   ·subst hz; rfl
   have h1 : (([z] : Str) == [58]) = false := by simp [hz]
   rw [h1, decide_eq_false (by simpa using hz)]
  rw [this]
theorem zFy (s : Str) (hs : s.length ≤ 1000) (hl : s.getLast? = some 58) : sTSf s [58] = some s.dropLast := by
 unfold sTSf zAK
 have h1 := zFV s hs
 unfold sHSf at h1
 cases h2 : zAr s [58] with
 | none => rw [h2] at h1; cases h1
 | some b =>
  rw [h2, zAa] at h1
  have hb : b = true := by
   have := Option.some.inj h1
   rw [this]; exact decide_eq_true hl
  subst hb
  rw [zAa, if_pos rfl]
  cases s with
  | nil => cases hl
  | cons c r =>
   have hk : (((c :: r : Str).length : Int) - (([58] : Str).length : Int)) = ((r.length : Nat) : Int) := by simp
   rw [hk, ckn (by simp at hs; omega), zAa, sub0 (by simp), zAa, zAa]
   rw [List.dropLast_eq_take]; simp
theorem zEi (c : UInt8) : ∀ (s : Str) (p : Str), p ∈ zAt c s → p.length ≤ s.length
 | [], p, h => by simp [zAt] at h; simp [h]
 | x :: r, p, h => by
  unfold zAt at h
  split at h
  ·rcases List.mem_cons.1 h with rfl | h
   ·simp
   have := zEi c r p h; simp; omega
  cases e : zAt c r with
  | nil => exact absurd e (zCt c r)
  | cons q l =>
   rw [e] at h
   simp only at h
   rcases List.mem_cons.1 h with rfl | h
   ·have := zEi c r q (by rw [e]; simp); simp; omega
   have := zEi c r p (by rw [e]; simp [h]); simp; omega
theorem zJP (c : UInt8) : ∀ (s : Str), (zAt c s).length ≤ s.length + 1
 | [] => by simp [zAt]
 | x :: r => by
  have := zJP c r
  unfold zAt
  split
  ·simp; omega
  cases e : zAt c r with
  | nil => exact absurd e (zCt c r)
  | cons q l => rw [e] at this; simp at this ⊢; omega
theorem zNL (s : Str) (hs : s.length ≤ bigN) : zDj s = some (arity s) := by
  unfold zDj
  cases s with
  | nil => rfl
  | cons c r =>
    unfold arity
    simp only
    by_cases h : 64 < (c :: r).length
    · have e : (((c :: r : Str) == []) || (decide ((64 : Int) < ((c :: r : Str).length : Int)))) = true := by
        rw [show ((c :: r : Str) == []) = false from rfl, Bool.false_or]; exact decide_eq_true (by omega)
      rw [e, if_pos rfl, decide_eq_true h, if_pos rfl]
    have e : (((c :: r : Str) == []) || (decide ((64 : Int) < ((c :: r : Str).length : Int)))) = false := by
      rw [show ((c :: r : Str) == []) = false from rfl, Bool.false_or]; exact decide_eq_false (by omega)
    rw [e, ifF, decide_eq_false h, ifF, zN0 _ hs, zAa]
    have hs' : (c :: r).length ≤ 1000 := by omega
    have ht : zA2 (c :: r) zMi = some (Lib.trimS (c :: r) zMi) := zNc _ _ (by decide) (by decide)
    unfold zMi at ht
    have htb := trimB (c :: r) zMi
    have hal : (c :: r).all (List.contains zMi ·) = (c :: r).all zFx := rfl
    rw [hal] at htb
    unfold zMi at htb
    have hrest : zFx c = true ∨ zFx c = false := by cases zFx c <;> simp
    have htail : ∀ v : Int × Bool, ((sHSf (c :: r) [58]).bind fun v7 => if (!v7) then some (0, false) else (sTSf (c :: r) [58]).bind fun v8 => (strings_Split v8 [58]).bind fun v9 => (if (decide ((8 : Int) < (v9.length : Int))) then some true else (zA1 v9 zCy).bind fun v13 => some v13).bind fun y10 => if y10 then some (0, false) else some ((v9.length : Int), true)) =
        some (if (c :: r).getLast? = some 58 then (if ((zAt 58 (c :: r).dropLast).all nmB && decide ((zAt 58 (c :: r).dropLast).length ≤ 8)) = true then (((zAt 58 (c :: r).dropLast).length : Int), true) else (0, false)) else (0, false)) := fun v => by
      rw [zFV _ hs', zAa]
      by_cases hl : (c :: r).getLast? = some 58
      · rw [decide_eq_true hl, if_pos hl, Bool.not_true, ifF, zFy _ hs' hl, zAa, zI8 58 (by simp at hs' ⊢; omega), zAa]
        have hlen : (zAt 58 (c :: r).dropLast).length ≤ bigN := by
          have := zJP 58 (c :: r).dropLast
          simp at this
          simp at hs'
          unfold bigN; omega
        have hc := zFR (zAt 58 (c :: r).dropLast) zCy (fun x => !nmB x) (fun x hx => by
          unfold zCy
          rw [zN0 x (by have := zEi 58 _ x hx; simp at this; simp at hs'; unfold bigN; omega), zAa]) hlen
        rw [hc, zAa]
        generalize zAt 58 (c :: r).dropLast = L
        have : (L.any fun x => !nmB x) = !L.all nmB := by rw [List.not_all_eq_any_not]
        rw [this]
        by_cases h8 : L.length ≤ 8
        · rw [decide_eq_false (by omega), ifF, zAa, decide_eq_true h8, Bool.and_true]
          cases L.all nmB <;> rfl
        rw [decide_eq_true (by omega), if_pos rfl, zAa, if_pos rfl, decide_eq_false h8, Bool.and_false, ifF]
      rw [decide_eq_false hl, if_neg hl]; rfl
    rw [ht, zAa, htb, htail (0, false)]
    rcases hrest with hsg | hsg
    · have hn : nmB (c :: r) = false := by show (zAn 97 122 c && _) = false; rw [zJx hsg]; rfl
      rw [hn, ifF, hsg, if_pos rfl]
      have hw := zJX (c :: r) (by simp)
      rw [hn, ifF] at hw
      have h0 : arL 0 true (c :: r) = (0, false) := by
        show (if zAn 97 122 c = true then _ else _) = _
        rw [zJx hsg, ifF]
      rw [h0] at hw
      rw [← hw]
      cases r with
      | nil => simp [hsg]
      | cons d r =>
        cases r with
        | nil =>
          simp only [List.all_cons, hsg, List.all_nil, Bool.and_true, Bool.true_and]
          cases zFx d <;> rfl
        | cons f r =>
          have : decide (((c :: d :: f :: r : Str).length : Int) ≤ 2) = false := decide_eq_false (by simp; omega)
          rw [this]
          cases (c :: d :: f :: r).all zFx <;> rfl
    rw [hsg, ifF]
    have : (c :: r).all zFx = false := by rw [List.all_cons, hsg]; rfl
    rw [this, ifF, zAa, ifF, zJX (c :: r) (by simp)]
    cases nmB (c :: r) <;> rfl
end Go.Cq

