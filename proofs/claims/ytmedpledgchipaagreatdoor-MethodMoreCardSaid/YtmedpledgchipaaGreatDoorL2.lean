import Derived.Test.YtmedpledgchipaaGreatDoorL1
import Derived.Lib.SplitLaws
set_option linter.unusedSectionVars false
set_option linter.unusedVariables false
set_option linter.unusedSimpArgs false
set_option linter.unnecessarySimpa false
set_option maxRecDepth 100000
namespace Go.Cq
open Go Go.Av
theorem index_one_hit (c : UInt8) (r : Str) : Lib.index (c :: r) [c] = 0 := by
  have := Lib.index_first (s := c :: r) (sub := [c]) (i := 0) (Nat.zero_le _) (by simp [Lib.occAt]) (fun _ h => absurd h (Nat.not_lt_zero _))
  exact this
theorem index_one_step {c x : UInt8} (h : x ≠ c) (r : Str) : Lib.index (x :: r) [c] = if Lib.index r [c] = -1 then -1 else Lib.index r [c] + 1 := by
 have h0 : Lib.NoOcc (x :: r) [c] 1 := fun j hj => by
  have : j = 0 := by omega
  subst this
  simp [Lib.occAt]
  show (c == x && true) = false
  rw [Bool.and_true]; simpa using fun e : c = x => h e.symm
 have := Lib.index_drop (s := x :: r) (sub := [c]) (i := 1) h0 (by simp)
 rw [this]
 simp
def splitC (c : UInt8) : Str → List Str
 | [] => [[]]
 | x :: r => if x = c then [] :: splitC c r else match splitC c r with
  | [] => [[x]]
  | p :: l => (x :: p) :: l
theorem splitK_one (c : UInt8) : ∀ s : Str, Lib.splitK [c] 0 (s.count c) s = splitC c s
 | [] => rfl
 | x :: r => by
  unfold splitC
  by_cases h : x = c
  ·subst h
   rw [if_pos rfl, List.count_cons_self, Lib.splitK, index_one_hit]
   simp
   exact splitK_one x r
  ·rw [if_neg h, List.count_cons_of_ne h, ← splitK_one c r]
   have hge := Lib.index_ge r [c]
   cases hc : r.count c with
   | zero =>
    rfl
   | succ k =>
    rw [Lib.splitK, Lib.splitK, index_one_step h]
    by_cases hm : Lib.index r [c] = -1
    ·rw [hm]; rfl
    ·rw [if_neg hm]
     obtain ⟨i, hi⟩ : ∃ i : Nat, Lib.index r [c] = i := ⟨(Lib.index r [c]).toNat, by omega⟩
     rw [hi]
     have e1 : ((i : Int) + 1).toNat = i + 1 := by omega
     have e2 : (i : Int).toNat = i := by omega
     rw [if_neg (by simp; try omega), if_neg (by simp; try omega), e1, e2]
     simp
theorem split_one {s : Str} (c : UInt8) (h : s.length < 4294967281) : strings_Split s [c] = some (splitC c s) := by
 unfold strings_Split splitS
 rw [if_pos ⟨h, Nat.le_refl _⟩]
 have : Lib.countB ⟨s.toArray⟩ ⟨[c].toArray⟩ = s.count c := Lib.count_one c s
 rw [this, splitK_one]
theorem splitC_ne (c : UInt8) : ∀ s : Str, splitC c s ≠ []
  | [] => by simp [splitC]
  | x :: r => by
    unfold splitC
    split
    · simp
    · split <;> simp
theorem splitC_snoc (c : UInt8) : ∀ t : Str, splitC c (t ++ [c]) = splitC c t ++ [[]]
 | [] => by simp [splitC]
 | x :: r => by
  rw [List.cons_append]
  unfold splitC
  rw [splitC_snoc c r]
  split
  ·simp
  ·cases h : splitC c r with
   | nil => exact absurd h (splitC_ne c r)
   | cons p l => simp
theorem splitC_none (c : UInt8) : ∀ s : Str, (∀ x, x ∈ s → x ≠ c) → splitC c s = [s]
 | [], _ => rfl
 | x :: r, h => by
  unfold splitC
  rw [if_neg (h x (by simp)), splitC_none c r fun y hy => h y (by simp [hy])]
theorem splitC_single (c : UInt8) : ∀ (s p : Str), splitC c s = [p] → p = s
 | [], p, h => by simp [splitC] at h; exact h
 | x :: r, p, h => by
  unfold splitC at h
  split at h
  ·simp at h; exact absurd h.2 (splitC_ne c r)
  ·cases e : splitC c r with
   | nil => exact absurd e (splitC_ne c r)
   | cons q l =>
    rw [e] at h
    simp only [List.cons.injEq] at h
    obtain ⟨rfl, rfl⟩ := h
    rw [splitC_single c r q e]
theorem splitC_last (c : UInt8) : ∀ (s : Str), s ≠ [] → s.getLast? ≠ some c → ∃ l p, splitC c s = l ++ [p] ∧ p ≠ []
 | [], h, _ => absurd rfl h
 | [x], _, h => by
  have : x ≠ c := by simpa using h
  refine ⟨[], [x], ?_, by simp⟩
  simp [splitC, this]
 | x :: y :: r, _, h => by
  obtain ⟨l, p, e, hp⟩ := splitC_last c (y :: r) (by simp) (by simpa using h)
  by_cases hx : x = c
  ·refine ⟨[] :: l, p, ?_, hp⟩
   rw [splitC, if_pos hx, e]; rfl
  ·rw [splitC, if_neg hx, e]
   cases l with
   | nil => exact ⟨[], x :: p, rfl, by simp⟩
   | cons q l => exact ⟨(x :: q) :: l, p, rfl, hp⟩
def nmB (s : Str) : Bool := match s with | c :: r => between 97 122 c && (alnum c && r.all alnum) | [] => false
def fin (n : Nat) (fresh : Bool) : Int × Bool := if n = 0 then (0, true) else if (!fresh || decide (8 < n)) = true then (0, false) else ((n : Int), true)
def arL : Nat → Bool → Str → Int × Bool
 | n, fresh, [] => fin n fresh
 | n, true, c :: r => if between 97 122 c = true then arL n false r else (0, false)
 | n, false, c :: r => if c = 58 then arL (n+1) true r else if alnum c = true then arL n false r else (0, false)
def resF : Nat → List Str → Int × Bool
 | _, [] => (0, false)
 | n, [p] => if p = [] then fin n true else if nmB p = true then fin n false else (0, false)
 | n, p :: q :: l => if nmB p = true then resF (n+1) (q :: l) else (0, false)
def resM : Nat → List Str → Int × Bool
 | _, [] => (0, false)
 | n, [p] => if p.all alnum = true then fin n false else (0, false)
 | n, p :: q :: l => if p.all alnum = true then resF (n+1) (q :: l) else (0, false)
theorem small_alnum {c : UInt8} (h : between 97 122 c = true) : alnum c = true := by unfold alnum; rw [h]; rfl
theorem arL_res : ∀ (s : Str) (n : Nat), arL n true s = resF n (splitC 58 s) ∧ arL n false s = resM n (splitC 58 s)
  | [], n => ⟨rfl, rfl⟩
  | c :: r, n => by
    have ih := fun m => arL_res r m
    by_cases hc : c = 58
    · subst hc
      have e : splitC 58 (58 :: r) = [] :: splitC 58 r := by rw [splitC, if_pos rfl]
      rw [e]
      cases h : splitC 58 r with
      | nil => exact absurd h (splitC_ne _ r)
      | cons q l =>
        refine ⟨rfl, ?_⟩
        have := (ih (n+1)).1
        rw [h] at this
        exact this
    · cases h : splitC 58 r with
      | nil => exact absurd h (splitC_ne _ r)
      | cons p l =>
        have e : splitC 58 (c :: r) = (c :: p) :: l := by rw [splitC, if_neg hc, h]
        rw [e]
        have i1 := (ih n).2
        rw [h] at i1
        constructor
        · show (if between 97 122 c = true then arL n false r else (0, false)) = _
          cases hb : between 97 122 c with
          | false =>
            rw [ifF]
            cases l <;> simp [resF, nmB, hb]
          | true =>
            rw [if_pos rfl, i1]
            cases l <;> simp [resF, resM, nmB, hb, small_alnum hb]
        · show (if c = 58 then _ else if alnum c = true then arL n false r else (0, false)) = _
          rw [if_neg hc]
          cases ha : alnum c with
          | false =>
            rw [ifF]
            cases l <;> simp [resM, ha]
          | true =>
            rw [if_pos rfl, i1]
            cases l <;> simp [resM, ha]
theorem resF_snoc : ∀ (L : List Str) (n : Nat), resF n (L ++ [[]]) = if L.all nmB = true then fin (n + L.length) true else (0, false)
  | [], n => rfl
  | p :: L, n => by
    cases L with
    | nil =>
      show (if nmB p = true then resF (n+1) [[]] else (0, false)) = _
      cases h : nmB p <;> simp [h, resF]
    | cons q L =>
      show (if nmB p = true then resF (n+1) (q :: L ++ [[]]) else (0, false)) = _
      rw [resF_snoc (q :: L) (n+1)]
      cases h : nmB p
      · simp [h]
      · simp [h, Nat.add_assoc, Nat.add_comm 1]
theorem resF_late : ∀ (L : List Str) (n : Nat) (p : Str), p ≠ [] → 0 < n → resF n (L ++ [p]) = (0, false)
  | [], n, p, hp, hn => by
    show (if p = [] then fin n true else if nmB p = true then fin n false else (0, false)) = _
    rw [if_neg hp]
    have : fin n false = (0, false) := by unfold fin; rw [if_neg (by omega)]; rfl
    rw [this]; split <;> rfl
  | q :: L, n, p, hp, hn => by
    cases L with
    | nil =>
      show (if nmB q = true then resF (n+1) [p] else (0, false)) = _
      have := resF_late [] (n+1) p hp (by omega)
      rw [List.nil_append] at this
      rw [this]; split <;> rfl
    | cons x L =>
      show (if nmB q = true then resF (n+1) (x :: L ++ [p]) else (0, false)) = _
      rw [resF_late (x :: L) (n+1) p hp (by omega)]; split <;> rfl
theorem nmB_no58 {s : Str} (h : nmB s = true) : ∀ x, x ∈ s → x ≠ 58 := by
 cases s with
 | nil => simp
 | cons c r =>
  simp only [nmB, Bool.and_eq_true, List.all_eq_true] at h
  have e : alnum 58 = false := by decide
  intro x hx he
  subst he
  rcases List.mem_cons.1 hx with hx | hx
  ·rw [← hx, e] at h; exact absurd h.2.1 (by simp)
  ·have := h.2.2 _ hx; rw [e] at this; cases this
theorem arL_word (s : Str) (hs : s ≠ []) : arL 0 true s = if nmB s = true then (0, true) else if s.getLast? = some 58 then (if ((splitC 58 s.dropLast).all nmB && decide ((splitC 58 s.dropLast).length ≤ 8)) = true then (((splitC 58 s.dropLast).length : Int), true) else (0, false)) else (0, false) := by
  rw [(arL_res s 0).1]
  cases hn : nmB s with
  | true =>
    rw [splitC_none 58 s (nmB_no58 hn), if_pos rfl]
    show (if s = [] then _ else if nmB s = true then fin 0 false else _) = _
    rw [if_neg hs, hn, if_pos rfl]; rfl
  | false =>
    rw [ifF]
    by_cases hl : s.getLast? = some 58
    · rw [if_pos hl]
      have e : s = s.dropLast ++ [58] := by
        obtain ⟨ys, rfl⟩ := List.getLast?_eq_some_iff.1 hl
        simp
      conv => lhs; rw [e]
      rw [splitC_snoc, resF_snoc]
      have hpos : 0 < (splitC 58 s.dropLast).length := List.length_pos_iff.2 (splitC_ne _ _)
      cases (splitC 58 s.dropLast).all nmB with
      | false => rfl
      | true =>
        rw [if_pos rfl, Bool.true_and]
        unfold fin
        rw [if_neg (by omega), Nat.zero_add]
        by_cases h8 : (splitC 58 s.dropLast).length ≤ 8
        · rw [if_neg (by simp; omega), if_pos (by simpa using h8)]
        · rw [if_pos (by simp; omega), if_neg (by simpa using h8)]
    · rw [if_neg hl]
      obtain ⟨l, p, e, hp⟩ := splitC_last 58 s hs hl
      rw [e]
      cases l with
      | nil =>
        have : p = s := splitC_single 58 s p (by rw [e]; rfl)
        subst this
        show (if p = [] then _ else if nmB p = true then _ else _) = _
        rw [if_neg hp, hn, ifF]
      | cons q l =>
        cases l with
        | nil =>
          show (if nmB q = true then resF 1 ([] ++ [p]) else (0, false)) = _
          rw [resF_late [] 1 p hp (by omega)]; split <;> rfl
        | cons x l =>
          show (if nmB q = true then resF 1 (x :: l ++ [p]) else (0, false)) = _
          rw [resF_late (x :: l) 1 p hp (by omega)]; split <;> rfl
end Go.Cq

