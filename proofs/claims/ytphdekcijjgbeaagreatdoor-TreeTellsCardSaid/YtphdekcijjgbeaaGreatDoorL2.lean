import Derived.Test.YtphdekcijjgbeaaGreatDoorL1
import Derived.Lib.SplitLaws
set_option linter.unusedSectionVars false
set_option linter.unusedVariables false
set_option linter.unusedSimpArgs false
set_option linter.unnecessarySimpa false
set_option maxRecDepth 100000
namespace Go.Cq
open Go Go.Av
theorem index_one_hit (c : UInt8) (r : Str) : Lib.index (c :: r) [c] = 0 := by
  have := Lib.index_first (s := c :: r) (sub := [c]) (i := 0) (Nat.zero_le _) (by simp [Lib.occAt]) (fun _ h => absurd h (Nat.not_lt_zero _))
  exact this
theorem index_one_step {c x : UInt8} (h : x ≠ c) (r : Str) : Lib.index (x :: r) [c] = if Lib.index r [c] = -1 then -1 else Lib.index r [c] + 1 := by
 have h0 : Lib.NoOcc (x :: r) [c] 1 := fun j hj => by
  have : j = 0 := by omega
  subst this
  simp [Lib.occAt]
  show (c == x && true) = false
  rw [Bool.and_true]; simpa using fun e : c = x => h e.symm
 have := Lib.index_drop (s := x :: r) (sub := [c]) (i := 1) h0 (by simp)
 rw [this]
 simp
def splitC (c : UInt8) : Str → List Str
 | [] => [[]]
 | x :: r => if x = c then [] :: splitC c r else match splitC c r with
  | [] => [[x]]
  | p :: l => (x :: p) :: l
theorem splitK_one (c : UInt8) : ∀ s : Str, Lib.splitK [c] 0 (s.count c) s = splitC c s
 | [] => rfl
 | x :: r => by
  unfold splitC
  by_cases h : x = c
  ·subst h
   rw [if_pos rfl, List.count_cons_self, Lib.splitK, index_one_hit]
   simp
   exact splitK_one x r
  ·rw [if_neg h, List.count_cons_of_ne h, ← splitK_one c r]
   have hge := Lib.index_ge r [c]
   cases hc : r.count c with
   | zero =>
    rfl
   | succ k =>
    rw [Lib.splitK, Lib.splitK, index_one_step h]
    by_cases hm : Lib.index r [c] = -1
    ·rw [hm]; rfl
    ·rw [if_neg hm]
     obtain ⟨i, hi⟩ : ∃ i : Nat, Lib.index r [c] = i := ⟨(Lib.index r [c]).toNat, by omega⟩
     rw [hi]
     have e1 : ((i : Int) + 1).toNat = i + 1 := by omega
     have e2 : (i : Int).toNat = i := by omega
     rw [if_neg (by simp; try omega), if_neg (by simp; try omega), e1, e2]
     simp
theorem split_one {s : Str} (c : UInt8) (h : s.length < 4294967281) : strings_Split s [c] = some (splitC c s) := by
 unfold strings_Split splitS
 rw [if_pos ⟨h, Nat.le_refl _⟩]
 have : Lib.countB ⟨s.toArray⟩ ⟨[c].toArray⟩ = s.count c := Lib.count_one c s
 rw [this, splitK_one]
theorem splitC_ne (c : UInt8) : ∀ s : Str, splitC c s ≠ []
  | [] => by simp [splitC]
  | x :: r => by
    unfold splitC
    split
    · simp
    · split <;> simp
theorem splitC_snoc (c : UInt8) : ∀ t : Str, splitC c (t ++ [c]) = splitC c t ++ [[]]
 | [] => by simp [splitC]
 | x :: r => by
  rw [List.cons_append]
  unfold splitC
  rw [splitC_snoc c r]
  split
  ·simp
  ·cases h : splitC c r with
   | nil => exact absurd h (splitC_ne c r)
   | cons p l => simp
theorem splitC_none (c : UInt8) : ∀ s : Str, (∀ x, x ∈ s → x ≠ c) → splitC c s = [s]
 | [], _ => rfl
 | x :: r, h => by
  unfold splitC
  rw [if_neg (h x (by simp)), splitC_none c r fun y hy => h y (by simp [hy])]
theorem splitC_single (c : UInt8) : ∀ (s p : Str), splitC c s = [p] → p = s
 | [], p, h => by simp [splitC] at h; exact h
 | x :: r, p, h => by
  unfold splitC at h
  split at h
  ·simp at h; exact absurd h.2 (splitC_ne c r)
  ·cases e : splitC c r with
   | nil => exact absurd e (splitC_ne c r)
   | cons q l =>
    rw [e] at h
    simp only [List.cons.injEq] at h
    obtain ⟨rfl, rfl⟩ := h
    rw [splitC_single c r q e]
theorem splitC_last (c : UInt8) : ∀ (s : Str), s ≠ [] → s.getLast? ≠ some c → ∃ l p, splitC c s = l ++ [p] ∧ p ≠ []
 | [], h, _ => absurd rfl h
 | [x], _, h => by
  have : x ≠ c := by simpa using h
  refine ⟨[], [x], ?_, by simp⟩
  simp [splitC, this]
 | x :: y :: r, _, h => by
  obtain ⟨l, p, e, hp⟩ := splitC_last c (y :: r) (by simp) (by simpa using h)
  by_cases hx : x = c
  ·refine ⟨[] :: l, p, ?_, hp⟩
   rw [splitC, if_pos hx, e]; rfl
  ·rw [splitC, if_neg hx, e]
   cases l with
   | nil => exact ⟨[], x :: p, rfl, by simp⟩
   | cons q l => exact ⟨(x :: q) :: l, p, rfl, hp⟩
def nmB (s : Str) : Bool := match s with | c :: r => between 97 122 c && (alnum c && r.all alnum) | [] => false
def fin (n : Nat) (fresh : Bool) : Int × Bool := if n = 0 then (0, true) else if (!fresh || decide (8 < n)) = true then (0, false) else ((n : Int), true)
def arL : Nat → Bool → Str → Int × Bool
 | n, fresh, [] => fin n fresh
 | n, true, c :: r => if between 97 122 c = true then arL n false r else (0, false)
 | n, false, c :: r => if c = 58 then arL (n+1) true r else if alnum c = true then arL n false r else (0, false)
def resF : Nat → List Str → Int × Bool
 | _, [] => (0, false)
 | n, [p] => if p = [] then fin n true else if nmB p = true then fin n false else (0, false)
 | n, p :: q :: l => if nmB p = true then resF (n+1) (q :: l) else (0, false)
def resM : Nat → List Str → Int × Bool
 | _, [] => (0, false)
 | n, [p] => if p.all alnum = true then fin n false else (0, false)
 | n, p :: q :: l => if p.all alnum = true then resF (n+1) (q :: l) else (0, false)
theorem small_alnum {c : UInt8} (h : between 97 122 c = true) : alnum c = true := by unfold alnum; rw [h]; rfl
theorem arL_res : ∀ (s : Str) (n : Nat), arL n true s = resF n (splitC 58 s) ∧ arL n false s = resM n (splitC 58 s)
  | [], n => ⟨rfl, rfl⟩
  | c :: r, n => by
    have ih := fun m => arL_res r m
    by_cases hc : c = 58
    · subst hc
      have e : splitC 58 (58 :: r) = [] :: splitC 58 r := by rw [splitC, if_pos rfl]
      rw [e]
      cases h : splitC 58 r with
      | nil => exact absurd h (splitC_ne _ r)
      | cons q l =>
        refine ⟨rfl, ?_⟩
        have := (ih (n+1)).1
        rw [h] at this
        exact this
    · cases h : splitC 58 r with
      | nil => exact absurd h (splitC_ne _ r)
      | cons p l =>
        have e : splitC 58 (c :: r) = (c :: p) :: l := by rw [splitC, if_neg hc, h]
        rw [e]
        have i1 := (ih n).2
        rw [h] at i1
        constructor
        · show (if between 97 122 c = true then arL n false r else (0, false)) = _
          cases hb : between 97 122 c with
          | false =>
            rw [ifF]
            cases l <;> simp [resF, nmB, hb]
          | true =>
            rw [if_pos rfl, i1]
            cases l <;> simp [resF, resM, nmB, hb, small_alnum hb]
        · show (if c = 58 then _ else if alnum c = true then arL n false r else (0, false)) = _
          rw [if_neg hc]
          cases ha : alnum c with
          | false =>
            rw [ifF]
            cases l <;> simp [resM, ha]
          | true =>
            rw [if_pos rfl, i1]
            cases l <;> simp [resM, ha]
theorem resF_snoc : ∀ (L : List Str) (n : Nat), resF n (L ++ [[]]) = if L.all nmB = true then fin (n + L.length) true else (0, false)
  | [], n => rfl
  | p :: L, n => by
    cases L with
    | nil =>
      show (if nmB p = true then resF (n+1) [[]] else (0, false)) = _
      cases h : nmB p <;> simp [h, resF]
    | cons q L =>
      show (if nmB p = true then resF (n+1) (q :: L ++ [[]]) else (0, false)) = _
      rw [resF_snoc (q :: L) (n+1)]
      cases h : nmB p
      · simp [h]
      · simp [h, Nat.add_assoc, Nat.add_comm 1]
theorem resF_late : ∀ (L : List Str) (n : Nat) (p : Str), p ≠ [] → 0 < n → resF n (L ++ [p]) = (0, false)
  | [], n, p, hp, hn => by
    show (if p = [] then fin n true else if nmB p = true then fin n false else (0, false)) = _
    rw [if_neg hp]
    have : fin n false = (0, false) := by unfold fin; rw [if_neg (by omega)]; rfl
    rw [this]; split <;> rfl
  | q :: L, n, p, hp, hn => by
    cases L with
    | nil =>
      show (if nmB q = true then resF (n+1) [p] else (0, false)) = _
      have := resF_late [] (n+1) p hp (by omega)
      rw [List.nil_append] at this
      rw [this]; split <;> rfl
    | cons x L =>
      show (if nmB q = true then resF (n+1) (x :: L ++ [p]) else (0, false)) = _
      rw [resF_late (x :: L) (n+1) p hp (by omega)]; split <;> rfl
theorem nmB_no58 {s : Str} (h : nmB s = true) : ∀ x, x ∈ s → x ≠ 58 := by
 cases s with
 | nil => simp
 | cons c r =>
  simp only [nmB, Bool.and_eq_true, List.all_eq_true] at h
  have e : alnum 58 = false := by decide
  intro x hx he
  subst he
  rcases List.mem_cons.1 hx with hx | hx
  ·rw [← hx, e] at h; exact absurd h.2.1 (by simp)
  ·have := h.2.2 _ hx; rw [e] at this; cases this
theorem arL_word (s : Str) (hs : s ≠ []) : arL 0 true s = if nmB s = true then (0, true) else if s.getLast? = some 58 then (if ((splitC 58 s.dropLast).all nmB && decide ((splitC 58 s.dropLast).length ≤ 8)) = true then (((splitC 58 s.dropLast).length : Int), true) else (0, false)) else (0, false) := by
  rw [(arL_res s 0).1]
  cases hn : nmB s with
  | true =>
    rw [splitC_none 58 s (nmB_no58 hn), if_pos rfl]
    show (if s = [] then _ else if nmB s = true then fin 0 false else _) = _
    rw [if_neg hs, hn, if_pos rfl]; rfl
  | false =>
    rw [ifF]
    by_cases hl : s.getLast? = some 58
    · rw [if_pos hl]
      have e : s = s.dropLast ++ [58] := by
        obtain ⟨ys, rfl⟩ := List.getLast?_eq_some_iff.1 hl
        simp
      conv => lhs; rw [e]
      rw [splitC_snoc, resF_snoc]
      have hpos : 0 < (splitC 58 s.dropLast).length := List.length_pos_iff.2 (splitC_ne _ _)
      cases (splitC 58 s.dropLast).all nmB with
      | false => rfl
      | true =>
        rw [if_pos rfl, Bool.true_and]
        unfold fin
        rw [if_neg (by omega), Nat.zero_add]
        by_cases h8 : (splitC 58 s.dropLast).length ≤ 8
        · rw [if_neg (by simp; omega), if_pos (by simpa using h8)]
        · rw [if_pos (by simp; omega), if_neg (by simpa using h8)]
    · rw [if_neg hl]
      obtain ⟨l, p, e, hp⟩ := splitC_last 58 s hs hl
      rw [e]
      cases l with
      | nil =>
        have : p = s := splitC_single 58 s p (by rw [e]; rfl)
        subst this
        show (if p = [] then _ else if nmB p = true then _ else _) = _
        rw [if_neg hp, hn, ifF]
      | cons q l =>
        cases l with
        | nil =>
          show (if nmB q = true then resF 1 ([] ++ [p]) else (0, false)) = _
          rw [resF_late [] 1 p hp (by omega)]; split <;> rfl
        | cons x l =>
          show (if nmB q = true then resF 1 (x :: l ++ [p]) else (0, false)) = _
          rw [resF_late (x :: l) 1 p hp (by omega)]; split <;> rfl
end Go.Cq

set_option maxRecDepth 100000
namespace Go.Cq
open Go Go.Av
theorem containsFuncB_eq (s : List Int) (f : Int → Option Bool) (p : Int → Bool) (hf : ∀ x, x ∈ s → f x = some (p x)) (hs : s.length ≤ bigN) : slices_ContainsFunc_Lbyte_byte s f = some (s.any p) := by
 unfold slices_ContainsFunc_Lbyte_byte slices_IndexFunc_Lbyte_byte
 rw [letK_e]
 have h := loopI_run (F := fun q (_ : Unit) i => slices_IndexFunc_Lbyte_byte_l1 s f (fun _ => some (-1)) q i) (g := fun j x _ k => if p x then some (j : Int) else k ()) (K := fun _ => some (-1)) (l := s)
  (fun q st j x hx hj => by
   simp only [slices_IndexFunc_Lbyte_byte_l1]
   rw [lt_len hj, if_pos rfl, lAt_nat hx, bindS, hf x (List.mem_of_getElem? hx), bindS, ckj hj hs, bindS]) (fun q st => by
   simp only [slices_IndexFunc_Lbyte_byte_l1]
   rw [ge_len, ifF]) () (lt_fuel hs)
 simp only at h
 rw [h]
 have : ∀ (r : List Int) (j : Nat), (loopI (fun j x _ k => if p x then some (j : Int) else k ()) (fun _ => some (-1)) j r ()).bind (fun v1 => some (decide ((0 : Int) ≤ v1))) = some (r.any p) := by
  intro r
  induction r with
  | nil => intro j; rfl
  | cons x r ih =>
   intro j
   rw [List.any_cons]
   show Option.bind (if p x then some (j : Int) else _) _ = _
   cases p x with
   | true => rw [if_pos rfl, bindS, Bool.true_or]; simp
   | false => rw [ifF, Bool.false_or]; exact ih (j+1)
 exact this s 0
theorem containsFuncS_eq (s : List Str) (f : Str → Option Bool) (p : Str → Bool) (hf : ∀ x, x ∈ s → f x = some (p x)) (hs : s.length ≤ bigN) : slices_ContainsFunc_Lstring_string s f = some (s.any p) := by
 unfold slices_ContainsFunc_Lstring_string slices_IndexFunc_Lstring_string
 rw [letK_e]
 have h := loopI_run (F := fun q (_ : Unit) i => slices_IndexFunc_Lstring_string_l1 s f (fun _ => some (-1)) q i) (g := fun j x _ k => if p x then some (j : Int) else k ()) (K := fun _ => some (-1)) (l := s)
  (fun q st j x hx hj => by
   simp only [slices_IndexFunc_Lstring_string_l1]
   rw [lt_len hj, if_pos rfl, lAt_nat hx, bindS, hf x (List.mem_of_getElem? hx), bindS, ckj hj hs, bindS]) (fun q st => by
   simp only [slices_IndexFunc_Lstring_string_l1]
   rw [ge_len, ifF]) () (lt_fuel hs)
 simp only at h
 rw [h]
 have : ∀ (r : List Str) (j : Nat), (loopI (fun j x _ k => if p x then some (j : Int) else k ()) (fun _ => some (-1)) j r ()).bind (fun v1 => some (decide ((0 : Int) ≤ v1))) = some (r.any p) := by
  intro r
  induction r with
  | nil => intro j; rfl
  | cons x r ih =>
   intro j
   rw [List.any_cons]
   show Option.bind (if p x then some (j : Int) else _) _ = _
   cases p x with
   | true => rw [if_pos rfl, bindS, Bool.true_or]; simp
   | false => rw [ifF, Bool.false_or]; exact ih (j+1)
 exact this s 0
theorem letter_eq (c : UInt8) : method_letter (c.toNat : Int) = some (alnum c) := by
 have := u8_all (fun c => decide (method_letter (c.toNat : Int) = some (alnum c))) (by decide +kernel) c
 exact of_decide_eq_true this
theorem mname_eq (s : Str) (hs : s.length ≤ bigN) : method_name s = some (nmB s) := by
 unfold method_name
 cases s with
 | nil => rfl
 | cons c r =>
  have e0 : ((c :: r : Str) == []) = false := rfl
  rw [e0, ifF, show (0 : Int) = ((0 : Nat) : Int) from rfl, sIdx_nat (s := c :: r) (j := 0) (c := c) rfl, bindS]
  have hb : (if (decide ((c.toNat : Int) < 97)) then some true else some (decide ((122 : Int) < (c.toNat : Int)))) = some (!between 97 122 c) := by
   have := u8_all (fun c => decide ((if (decide ((c.toNat : Int) < 97)) then some true else some (decide ((122 : Int) < (c.toNat : Int)))) = some (!between 97 122 c))) (by decide +kernel) c
   exact of_decide_eq_true this
  rw [hb, bindS]
  have hc := containsFuncB_eq (toInts (c :: r)) method_name_1 (fun n => !(alnum (UInt8.ofNat n.toNat))) (fun x hx => by
   unfold toInts at hx
   obtain ⟨y, _, rfl⟩ := List.mem_map.1 hx
   unfold method_name_1
   rw [letter_eq, bindS]
   simp) (by unfold toInts; rw [List.length_map]; exact hs)
  have ha : (toInts (c :: r)).any (fun n => !(alnum (UInt8.ofNat n.toNat))) = !(alnum c && r.all alnum) := by
   unfold toInts
   rw [List.any_map]
   have : ((fun n : Int => !(alnum (UInt8.ofNat n.toNat))) ∘ fun c : UInt8 => (c.toNat : Int)) = fun c => !alnum c := by funext x; simp
   rw [this, ← List.all_cons, List.not_all_eq_any_not]
  rw [hc, ha]
  show _ = some (between 97 122 c && (alnum c && r.all alnum))
  cases between 97 122 c with
  | false => rfl
  | true => rw [Bool.not_true, ifF, bindS, Bool.not_not, Bool.true_and]
def signB (c : UInt8) : Bool := signC.contains c
def arity (s : Str) : Int × Bool := match s with
 | [] => (0, false)
 | c :: r => if decide (64 < (c :: r).length) = true then (0, false) else if signB c = true then (match r with | [] => (1, true) | [d] => if signB d = true then (1, true) else (0, false) | _ => (0, false)) else arL 0 true (c :: r)
theorem sign_eq (c : UInt8) : ref09_sign (c.toNat : Int) = some (signB c) := by
 have := u8_all (fun c => decide (ref09_sign (c.toNat : Int) = some (signB c))) (by decide +kernel) c
 exact of_decide_eq_true this
theorem small_eq (c : UInt8) : ref09_small (c.toNat : Int) = some (between 97 122 c) := by
 have := u8_all (fun c => decide (ref09_small (c.toNat : Int) = some (between 97 122 c))) (by decide +kernel) c
 exact of_decide_eq_true this
theorem colon_eq (c : UInt8) : decide ((c.toNat : Int) = 58) = decide (c = 58) := by
 have := u8_all (fun c => decide ((c.toNat : Int) = 58) == decide (c = 58)) (by decide +kernel) c
 simpa using this
theorem word_int (c : UInt8) : ((ref09_small (c.toNat : Int)).bind fun v29 => if (!v29) then if (decide ((c.toNat : Int) < 65)) then if (decide ((c.toNat : Int) < 48)) then some true else some (decide ((57 : Int) < (c.toNat : Int))) else if (decide ((90 : Int) < (c.toNat : Int))) then if (decide ((c.toNat : Int) < 48)) then some true else some (decide ((57 : Int) < (c.toNat : Int))) else some false else some false) = some (!alnum c) := by
 have := u8_all (fun c => decide (((ref09_small (c.toNat : Int)).bind fun v29 => if (!v29) then if (decide ((c.toNat : Int) < 65)) then if (decide ((c.toNat : Int) < 48)) then some true else some (decide ((57 : Int) < (c.toNat : Int))) else if (decide ((90 : Int) < (c.toNat : Int))) then if (decide ((c.toNat : Int) < 48)) then some true else some (decide ((57 : Int) < (c.toNat : Int))) else some false else some false) = some (!alnum c))) (by decide +kernel) c
 exact of_decide_eq_true this
def finK (v39 : Int) (v40 : Bool) : Option (Int × Bool) := if (decide (v39 = 0)) then some (0, true) else if ((!v40) || (decide ((8 : Int) < v39))) then some (0, false) else some (v39, true)
theorem finK_eq (n : Nat) (b : Bool) : finK (n : Int) b = some (fin n b) := by
  unfold finK fin
  by_cases h : n = 0
  · subst h; rfl
  · rw [decide_eq_false (by omega), ifF, if_neg h]
    have : decide ((8 : Int) < (n : Int)) = decide (8 < n) := by
      by_cases h8 : 8 < n
      · rw [decide_eq_true h8, decide_eq_true (by omega)]
      · rw [decide_eq_false h8, decide_eq_false (by omega)]
    rw [this]
    cases (!b || decide (8 < n)) <;> rfl
theorem arity09_l1 (s : Str) (hs : s.length ≤ 1000) : ref09_Arity_l1 s finK fuel 0 true 0 = some (arL 0 true s) := by
  have hl : ∀ (r : Str) (j q : Nat) (n : Nat) (b : Bool), s.drop j = r → j ≤ s.length → r.length < q → n ≤ j → ref09_Arity_l1 s finK q (n : Int) b (j : Int) = some (arL n b r) := by
    intro r
    induction r with
    | nil =>
      intro j q n b h hj hq hn
      have : j = s.length := by have : s.length ≤ j := by simpa using h
                                omega
      subst this
      obtain ⟨q, rfl⟩ : ∃ q', q = q' + 1 := ⟨q - 1, by simp at hq; omega⟩
      simp only [ref09_Arity_l1]
      rw [ge_len, ifF, finK_eq]
      cases b <;> rfl
    | cons c r ih =>
      intro j q n b h hj hq hn
      obtain ⟨e1, e2, e3⟩ := getDrop h
      obtain ⟨q, rfl⟩ : ∃ q', q = q' + 1 := ⟨q - 1, by simp at hq; omega⟩
      have hq' : r.length < q := by simp at hq; omega
      have hck : ck ((j : Int) + 1) = some ((j + 1 : Nat) : Int) := cks (by omega)
      simp only [ref09_Arity_l1]
      rw [lt_len e3, if_pos rfl, letK_e, sIdx_nat e1, bindS]
      cases b with
      | true =>
        rw [if_pos rfl, small_eq, bindS]
        show _ = some (if between 97 122 c = true then arL n false r else (0, false))
        cases between 97 122 c with
        | false => rfl
        | true => rw [Bool.not_true, ifF, if_pos rfl, hck]; exact ih (j+1) q n false e2 (by omega) hq' (by omega)
      | false =>
        rw [ifF, colon_eq]
        show _ = some (if c = 58 then arL (n+1) true r else if alnum c = true then arL n false r else (0, false))
        by_cases hc : c = 58
        · rw [decide_eq_true hc, if_pos rfl, if_pos hc, cks (by omega), bindS, hck]
          exact ih (j+1) q (n+1) true e2 (by omega) hq' (by omega)
        · rw [decide_eq_false hc, ifF, if_neg hc, word_int, bindS]
          cases alnum c with
          | false => rfl
          | true => rw [Bool.not_true, ifF, if_pos rfl, hck]; exact ih (j+1) q n false e2 (by omega) hq' (by omega)
  exact hl s 0 fuel 0 true rfl (by omega) (by unfold fuel; omega) (Nat.le_refl _)
theorem arity09_eq (s : Str) : ref09_Arity s = some (arity s) := by
  unfold ref09_Arity
  cases s with
  | nil => rfl
  | cons c r =>
    unfold arity
    simp only
    by_cases h : 64 < (c :: r).length
    · have e : ((decide (((c :: r : Str).length : Int) < 1)) || (decide ((64 : Int) < ((c :: r : Str).length : Int)))) = true := by simp only [Bool.or_eq_true, decide_eq_true_eq]; omega
      rw [e, if_pos rfl, decide_eq_true h, if_pos rfl]
    · have e : ((decide (((c :: r : Str).length : Int) < 1)) || (decide ((64 : Int) < ((c :: r : Str).length : Int)))) = false := by simp only [Bool.or_eq_false_iff, decide_eq_false_iff_not, List.length_cons] at h ⊢; omega
      rw [e, ifF, decide_eq_false h, ifF, show (0 : Int) = ((0 : Nat) : Int) from rfl, sIdx_nat (s := c :: r) (j := 0) (c := c) rfl, bindS, sign_eq, bindS]
      cases signB c with
      | false =>
        rw [ifF, letK_e, ifF]
        exact arity09_l1 (c :: r) (by omega)
      | true =>
        rw [if_pos rfl, if_pos rfl]
        cases r with
        | nil => rfl
        | cons d r =>
          cases r with
          | nil =>
            rw [show decide (((c :: [d] : Str).length : Int) = 1) = false from rfl, ifF, show decide (((c :: [d] : Str).length : Int) = 2) = true from rfl, if_pos rfl, show (1 : Int) = ((1 : Nat) : Int) from rfl, sIdx_nat (s := c :: [d]) (j := 1) (c := d) rfl, bindS, sign_eq, bindS, bindS]
            show _ = some (if signB d = true then ((1 : Int), true) else (0, false))
            cases signB d <;> rfl
          | cons f r =>
            rw [decide_eq_false (by simp; omega), ifF, decide_eq_false (by simp; omega), ifF, bindS, ifF]
theorem sign_small {c : UInt8} (h : signB c = true) : between 97 122 c = false := by
 have := u8_all (fun c => !signB c || !between 97 122 c) (by decide +kernel) c
 rw [h] at this; simpa using this
theorem hasSuffix_eq (s : Str) (hs : s.length ≤ 1000) : strings_HasSuffix s [58] = some (decide (s.getLast? = some 58)) := by
 unfold strings_HasSuffix internal_stringslite_HasSuffix
 cases s with
 | nil => rfl
 | cons c r =>
  have h1 : decide ((([58] : Str).length : Int) ≤ ((c :: r : Str).length : Int)) = true := by simp; omega
  have hk : (((c :: r : Str).length : Int) - (([58] : Str).length : Int)) = ((r.length : Nat) : Int) := by simp
  rw [h1, if_pos rfl, hk, ckn (by simp at hs; omega), bindS]
  have hsub : sub (c :: r) ((r.length : Nat) : Int) ((c :: r : Str).length : Int) = some ((c :: r).drop r.length) := by
   unfold sub
   rw [if_pos ⟨by omega, by simp; omega, by simp⟩]
   simp
  rw [hsub, bindS, bindS, bindS]
  have : (((c :: r).drop r.length) == ([58] : Str)) = decide ((c :: r).getLast? = some 58) := by
   have e : (c :: r).drop r.length = [(c :: r).getLast (by simp)] := by
    have h := List.dropLast_concat_getLast (l := c :: r) (by simp)
    generalize (c :: r).getLast _ = z at h ⊢
    rw [← h]
    exact List.drop_left' (by simp)
   rw [e, List.getLast?_eq_some_getLast (by simp)]
   generalize (c :: r).getLast _ = z
   by_cases hz : z = 58
   ·subst hz; rfl
   ·have h1 : (([z] : Str) == [58]) = false := by simp [hz]
    rw [h1, decide_eq_false (by simpa using hz)]
  rw [this]
theorem trimSuffix_eq (s : Str) (hs : s.length ≤ 1000) (hl : s.getLast? = some 58) : strings_TrimSuffix s [58] = some s.dropLast := by
 unfold strings_TrimSuffix internal_stringslite_TrimSuffix
 have h1 := hasSuffix_eq s hs
 unfold strings_HasSuffix at h1
 cases h2 : internal_stringslite_HasSuffix s [58] with
 | none => rw [h2] at h1; cases h1
 | some b =>
  rw [h2, bindS] at h1
  have hb : b = true := by
   have := Option.some.inj h1
   rw [this]; exact decide_eq_true hl
  subst hb
  rw [bindS, if_pos rfl]
  cases s with
  | nil => cases hl
  | cons c r =>
   have hk : (((c :: r : Str).length : Int) - (([58] : Str).length : Int)) = ((r.length : Nat) : Int) := by simp
   rw [hk, ckn (by simp at hs; omega), bindS, sub0 (by simp), bindS, bindS]
   rw [List.dropLast_eq_take]; simp
theorem splitC_part (c : UInt8) : ∀ (s : Str) (p : Str), p ∈ splitC c s → p.length ≤ s.length
 | [], p, h => by simp [splitC] at h; simp [h]
 | x :: r, p, h => by
  unfold splitC at h
  split at h
  ·rcases List.mem_cons.1 h with rfl | h
   ·simp
   ·have := splitC_part c r p h; simp; omega
  ·cases e : splitC c r with
   | nil => exact absurd e (splitC_ne c r)
   | cons q l =>
    rw [e] at h
    simp only at h
    rcases List.mem_cons.1 h with rfl | h
    ·have := splitC_part c r q (by rw [e]; simp); simp; omega
    ·have := splitC_part c r p (by rw [e]; simp [h]); simp; omega
theorem splitC_len (c : UInt8) : ∀ (s : Str), (splitC c s).length ≤ s.length + 1
 | [] => by simp [splitC]
 | x :: r => by
  have := splitC_len c r
  unfold splitC
  split
  ·simp; omega
  ·cases e : splitC c r with
   | nil => exact absurd e (splitC_ne c r)
   | cons q l => rw [e] at this; simp at this ⊢; omega
theorem arity_eq (s : Str) (hs : s.length ≤ bigN) : method_Arity s = some (arity s) := by
  unfold method_Arity
  cases s with
  | nil => rfl
  | cons c r =>
    unfold arity
    simp only
    by_cases h : 64 < (c :: r).length
    · have e : (((c :: r : Str) == []) || (decide ((64 : Int) < ((c :: r : Str).length : Int)))) = true := by
        rw [show ((c :: r : Str) == []) = false from rfl, Bool.false_or]; exact decide_eq_true (by omega)
      rw [e, if_pos rfl, decide_eq_true h, if_pos rfl]
    · have e : (((c :: r : Str) == []) || (decide ((64 : Int) < ((c :: r : Str).length : Int)))) = false := by
        rw [show ((c :: r : Str) == []) = false from rfl, Bool.false_or]; exact decide_eq_false (by omega)
      rw [e, ifF, decide_eq_false h, ifF, mname_eq _ hs, bindS]
      have hs' : (c :: r).length ≤ 1000 := by omega
      have ht : strings_Trim (c :: r) signC = some (Lib.trimS (c :: r) signC) := trim_eq _ _ (by decide) (by decide)
      unfold signC at ht
      have htb := trimB (c :: r) signC
      have hal : (c :: r).all (List.contains signC ·) = (c :: r).all signB := rfl
      rw [hal] at htb
      unfold signC at htb
      have hrest : signB c = true ∨ signB c = false := by cases signB c <;> simp
      have htail : ∀ v : Int × Bool, ((strings_HasSuffix (c :: r) [58]).bind fun v7 => if (!v7) then some (0, false) else (strings_TrimSuffix (c :: r) [58]).bind fun v8 => (strings_Split v8 [58]).bind fun v9 => (if (decide ((8 : Int) < (v9.length : Int))) then some true else (slices_ContainsFunc_Lstring_string v9 method_Arity_1).bind fun v13 => some v13).bind fun y10 => if y10 then some (0, false) else some ((v9.length : Int), true)) =
          some (if (c :: r).getLast? = some 58 then (if ((splitC 58 (c :: r).dropLast).all nmB && decide ((splitC 58 (c :: r).dropLast).length ≤ 8)) = true then (((splitC 58 (c :: r).dropLast).length : Int), true) else (0, false)) else (0, false)) := fun v => by
        rw [hasSuffix_eq _ hs', bindS]
        by_cases hl : (c :: r).getLast? = some 58
        · rw [decide_eq_true hl, if_pos hl, Bool.not_true, ifF, trimSuffix_eq _ hs' hl, bindS, split_one 58 (by simp at hs' ⊢; omega), bindS]
          have hlen : (splitC 58 (c :: r).dropLast).length ≤ bigN := by
            have := splitC_len 58 (c :: r).dropLast
            simp at this
            simp at hs'
            unfold bigN; omega
          have hc := containsFuncS_eq (splitC 58 (c :: r).dropLast) method_Arity_1 (fun x => !nmB x) (fun x hx => by
            unfold method_Arity_1
            rw [mname_eq x (by have := splitC_part 58 _ x hx; simp at this; simp at hs'; unfold bigN; omega), bindS]) hlen
          rw [hc, bindS]
          generalize splitC 58 (c :: r).dropLast = L
          have : (L.any fun x => !nmB x) = !L.all nmB := by rw [List.not_all_eq_any_not]
          rw [this]
          by_cases h8 : L.length ≤ 8
          · rw [decide_eq_false (by omega), ifF, bindS, decide_eq_true h8, Bool.and_true]
            cases L.all nmB <;> rfl
          · rw [decide_eq_true (by omega), if_pos rfl, bindS, if_pos rfl, decide_eq_false h8, Bool.and_false, ifF]
        · rw [decide_eq_false hl, if_neg hl]; rfl
      rw [ht, bindS, htb, htail (0, false)]
      rcases hrest with hsg | hsg
      · have hn : nmB (c :: r) = false := by show (between 97 122 c && _) = false; rw [sign_small hsg]; rfl
        rw [hn, ifF, hsg, if_pos rfl]
        have hw := arL_word (c :: r) (by simp)
        rw [hn, ifF] at hw
        have h0 : arL 0 true (c :: r) = (0, false) := by
          show (if between 97 122 c = true then _ else _) = _
          rw [sign_small hsg, ifF]
        rw [h0] at hw
        rw [← hw]
        cases r with
        | nil => simp [hsg]
        | cons d r =>
          cases r with
          | nil =>
            simp only [List.all_cons, hsg, List.all_nil, Bool.and_true, Bool.true_and]
            cases signB d <;> rfl
          | cons f r =>
            have : decide (((c :: d :: f :: r : Str).length : Int) ≤ 2) = false := decide_eq_false (by simp; omega)
            rw [this]
            cases (c :: d :: f :: r).all signB <;> rfl
      · rw [hsg, ifF]
        have : (c :: r).all signB = false := by rw [List.all_cons, hsg]; rfl
        rw [this, ifF, bindS, ifF, arL_word (c :: r) (by simp)]
        cases nmB (c :: r) <;> rfl
end Go.Cq

