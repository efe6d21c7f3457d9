import Derived.Test.YtmedpledgchipaaGreatDoorL2
set_option linter.unusedSectionVars false
set_option linter.unusedVariables false
set_option linter.unusedSimpArgs false
set_option linter.unnecessarySimpa false
set_option maxRecDepth 100000
namespace Go.Cq
open Go Go.Av
theorem containsFuncB_eq (s : List Int) (f : Int → Option Bool) (p : Int → Bool) (hf : ∀ x, x ∈ s → f x = some (p x)) (hs : s.length ≤ bigN) : slices_ContainsFunc_Lbyte_byte s f = some (s.any p) := by
 unfold slices_ContainsFunc_Lbyte_byte slices_IndexFunc_Lbyte_byte
 rw [letK_e]
 have h := loopI_run (F := fun q (_ : Unit) i => slices_IndexFunc_Lbyte_byte_l1 s f (fun _ => some (-1)) q i) (g := fun j x _ k => if p x then some (j : Int) else k ()) (K := fun _ => some (-1)) (l := s)
  (fun q st j x hx hj => by
   simp only [slices_IndexFunc_Lbyte_byte_l1]
   rw [lt_len hj, if_pos rfl, lAt_nat hx, bindS, hf x (List.mem_of_getElem? hx), bindS, ckj hj hs, bindS]) (fun q st => by
   simp only [slices_IndexFunc_Lbyte_byte_l1]
   rw [ge_len, ifF]) () (lt_fuel hs)
 simp only at h
 rw [h]
 have : ∀ (r : List Int) (j : Nat), (loopI (fun j x _ k => if p x then some (j : Int) else k ()) (fun _ => some (-1)) j r ()).bind (fun v1 => some (decide ((0 : Int) ≤ v1))) = some (r.any p) := by
  intro r
  induction r with
  | nil => intro j; rfl
  | cons x r ih =>
   intro j
   rw [List.any_cons]
   show Option.bind (if p x then some (j : Int) else _) _ = _
   cases p x with
   | true => rw [if_pos rfl, bindS, Bool.true_or]; simp
   | false => rw [ifF, Bool.false_or]; exact ih (j+1)
 exact this s 0
theorem containsFuncS_eq (s : List Str) (f : Str → Option Bool) (p : Str → Bool) (hf : ∀ x, x ∈ s → f x = some (p x)) (hs : s.length ≤ bigN) : slices_ContainsFunc_Lstring_string s f = some (s.any p) := by
 unfold slices_ContainsFunc_Lstring_string slices_IndexFunc_Lstring_string
 rw [letK_e]
 have h := loopI_run (F := fun q (_ : Unit) i => slices_IndexFunc_Lstring_string_l1 s f (fun _ => some (-1)) q i) (g := fun j x _ k => if p x then some (j : Int) else k ()) (K := fun _ => some (-1)) (l := s)
  (fun q st j x hx hj => by
   simp only [slices_IndexFunc_Lstring_string_l1]
   rw [lt_len hj, if_pos rfl, lAt_nat hx, bindS, hf x (List.mem_of_getElem? hx), bindS, ckj hj hs, bindS]) (fun q st => by
   simp only [slices_IndexFunc_Lstring_string_l1]
   rw [ge_len, ifF]) () (lt_fuel hs)
 simp only at h
 rw [h]
 have : ∀ (r : List Str) (j : Nat), (loopI (fun j x _ k => if p x then some (j : Int) else k ()) (fun _ => some (-1)) j r ()).bind (fun v1 => some (decide ((0 : Int) ≤ v1))) = some (r.any p) := by
  intro r
  induction r with
  | nil => intro j; rfl
  | cons x r ih =>
   intro j
   rw [List.any_cons]
   show Option.bind (if p x then some (j : Int) else _) _ = _
   cases p x with
   | true => rw [if_pos rfl, bindS, Bool.true_or]; simp
   | false => rw [ifF, Bool.false_or]; exact ih (j+1)
 exact this s 0
theorem letter_eq (c : UInt8) : method_letter (c.toNat : Int) = some (alnum c) := by
 have := u8_all (fun c => decide (method_letter (c.toNat : Int) = some (alnum c))) (by decide +kernel) c
 exact of_decide_eq_true this
theorem mname_eq (s : Str) (hs : s.length ≤ bigN) : method_name s = some (nmB s) := by
 unfold method_name
 cases s with
 | nil => rfl
 | cons c r =>
  have e0 : ((c :: r : Str) == []) = false := rfl
  rw [e0, ifF, show (0 : Int) = ((0 : Nat) : Int) from rfl, sIdx_nat (s := c :: r) (j := 0) (c := c) rfl, bindS]
  have hb : (if (decide ((c.toNat : Int) < 97)) then some true else some (decide ((122 : Int) < (c.toNat : Int)))) = some (!between 97 122 c) := by
   have := u8_all (fun c => decide ((if (decide ((c.toNat : Int) < 97)) then some true else some (decide ((122 : Int) < (c.toNat : Int)))) = some (!between 97 122 c))) (by decide +kernel) c
   exact of_decide_eq_true this
  rw [hb, bindS]
  have hc := containsFuncB_eq (toInts (c :: r)) method_name_1 (fun n => !(alnum (UInt8.ofNat n.toNat))) (fun x hx => by
   unfold toInts at hx
   obtain ⟨y, _, rfl⟩ := List.mem_map.1 hx
   unfold method_name_1
   rw [letter_eq, bindS]
   simp) (by unfold toInts; rw [List.length_map]; exact hs)
  have ha : (toInts (c :: r)).any (fun n => !(alnum (UInt8.ofNat n.toNat))) = !(alnum c && r.all alnum) := by
   unfold toInts
   rw [List.any_map]
   have : ((fun n : Int => !(alnum (UInt8.ofNat n.toNat))) ∘ fun c : UInt8 => (c.toNat : Int)) = fun c => !alnum c := by funext x; simp
   rw [this, ← List.all_cons, List.not_all_eq_any_not]
  rw [hc, ha]
  show _ = some (between 97 122 c && (alnum c && r.all alnum))
  cases between 97 122 c with
  | false => rfl
  | true => rw [Bool.not_true, ifF, bindS, Bool.not_not, Bool.true_and]
def signB (c : UInt8) : Bool := signC.contains c
def arity (s : Str) : Int × Bool := match s with
 | [] => (0, false)
 | c :: r => if decide (64 < (c :: r).length) = true then (0, false) else if signB c = true then (match r with | [] => (1, true) | [d] => if signB d = true then (1, true) else (0, false) | _ => (0, false)) else arL 0 true (c :: r)
theorem sign_small {c : UInt8} (h : signB c = true) : between 97 122 c = false := by
 have := u8_all (fun c => !signB c || !between 97 122 c) (by decide +kernel) c
 rw [h] at this; simpa using this
theorem hasSuffix_eq (s : Str) (hs : s.length ≤ 1000) : strings_HasSuffix s [58] = some (decide (s.getLast? = some 58)) := by
 unfold strings_HasSuffix internal_stringslite_HasSuffix
 cases s with
 | nil => rfl
 | cons c r =>
  have h1 : decide ((([58] : Str).length : Int) ≤ ((c :: r : Str).length : Int)) = true := by simp; omega
  have hk : (((c :: r : Str).length : Int) - (([58] : Str).length : Int)) = ((r.length : Nat) : Int) := by simp
  rw [h1, if_pos rfl, hk, ckn (by simp at hs; omega), bindS]
  have hsub : sub (c :: r) ((r.length : Nat) : Int) ((c :: r : Str).length : Int) = some ((c :: r).drop r.length) := by
   unfold sub
   rw [if_pos ⟨by omega, by simp; omega, by simp⟩]
   simp
  rw [hsub, bindS, bindS, bindS]
  have : (((c :: r).drop r.length) == ([58] : Str)) = decide ((c :: r).getLast? = some 58) := by
   have e : (c :: r).drop r.length = [(c :: r).getLast (by simp)] := by
    have h := List.dropLast_concat_getLast (l := c :: r) (by simp)
    generalize (c :: r).getLast _ = z at h ⊢
    rw [← h]
    exact List.drop_left' (by simp)
   rw [e, List.getLast?_eq_some_getLast (by simp)]
   generalize (c :: r).getLast _ = z
   by_cases hz : z = 58
   ·subst hz; rfl
   ·have h1 : (([z] : Str) == [58]) = false := by simp [hz]
    rw [h1, decide_eq_false (by simpa using hz)]
  rw [this]
theorem trimSuffix_eq (s : Str) (hs : s.length ≤ 1000) (hl : s.getLast? = some 58) : strings_TrimSuffix s [58] = some s.dropLast := by
 unfold strings_TrimSuffix internal_stringslite_TrimSuffix
 have h1 := hasSuffix_eq s hs
 unfold strings_HasSuffix at h1
 cases h2 : internal_stringslite_HasSuffix s [58] with
 | none => rw [h2] at h1; cases h1
 | some b =>
  rw [h2, bindS] at h1
  have hb : b = true := by
   have := Option.some.inj h1
   rw [this]; exact decide_eq_true hl
  subst hb
  rw [bindS, if_pos rfl]
  cases s with
  | nil => cases hl
  | cons c r =>
   have hk : (((c :: r : Str).length : Int) - (([58] : Str).length : Int)) = ((r.length : Nat) : Int) := by simp
   rw [hk, ckn (by simp at hs; omega), bindS, sub0 (by simp), bindS, bindS]
   rw [List.dropLast_eq_take]; simp
theorem splitC_part (c : UInt8) : ∀ (s : Str) (p : Str), p ∈ splitC c s → p.length ≤ s.length
 | [], p, h => by simp [splitC] at h; simp [h]
 | x :: r, p, h => by
  unfold splitC at h
  split at h
  ·rcases List.mem_cons.1 h with rfl | h
   ·simp
   ·have := splitC_part c r p h; simp; omega
  ·cases e : splitC c r with
   | nil => exact absurd e (splitC_ne c r)
   | cons q l =>
    rw [e] at h
    simp only at h
    rcases List.mem_cons.1 h with rfl | h
    ·have := splitC_part c r q (by rw [e]; simp); simp; omega
    ·have := splitC_part c r p (by rw [e]; simp [h]); simp; omega
theorem splitC_len (c : UInt8) : ∀ (s : Str), (splitC c s).length ≤ s.length + 1
 | [] => by simp [splitC]
 | x :: r => by
  have := splitC_len c r
  unfold splitC
  split
  ·simp; omega
  ·cases e : splitC c r with
   | nil => exact absurd e (splitC_ne c r)
   | cons q l => rw [e] at this; simp at this ⊢; omega
theorem arity_eq (s : Str) (hs : s.length ≤ bigN) : method_Arity s = some (arity s) := by
  unfold method_Arity
  cases s with
  | nil => rfl
  | cons c r =>
    unfold arity
    simp only
    by_cases h : 64 < (c :: r).length
    · have e : (((c :: r : Str) == []) || (decide ((64 : Int) < ((c :: r : Str).length : Int)))) = true := by
        rw [show ((c :: r : Str) == []) = false from rfl, Bool.false_or]; exact decide_eq_true (by omega)
      rw [e, if_pos rfl, decide_eq_true h, if_pos rfl]
    · have e : (((c :: r : Str) == []) || (decide ((64 : Int) < ((c :: r : Str).length : Int)))) = false := by
        rw [show ((c :: r : Str) == []) = false from rfl, Bool.false_or]; exact decide_eq_false (by omega)
      rw [e, ifF, decide_eq_false h, ifF, mname_eq _ hs, bindS]
      have hs' : (c :: r).length ≤ 1000 := by omega
      have ht : strings_Trim (c :: r) signC = some (Lib.trimS (c :: r) signC) := trim_eq _ _ (by decide) (by decide)
      unfold signC at ht
      have htb := trimB (c :: r) signC
      have hal : (c :: r).all (List.contains signC ·) = (c :: r).all signB := rfl
      rw [hal] at htb
      unfold signC at htb
      have hrest : signB c = true ∨ signB c = false := by cases signB c <;> simp
      have htail : ∀ v : Int × Bool, ((strings_HasSuffix (c :: r) [58]).bind fun v7 => if (!v7) then some (0, false) else (strings_TrimSuffix (c :: r) [58]).bind fun v8 => (strings_Split v8 [58]).bind fun v9 => (if (decide ((8 : Int) < (v9.length : Int))) then some true else (slices_ContainsFunc_Lstring_string v9 method_Arity_1).bind fun v13 => some v13).bind fun y10 => if y10 then some (0, false) else some ((v9.length : Int), true)) =
          some (if (c :: r).getLast? = some 58 then (if ((splitC 58 (c :: r).dropLast).all nmB && decide ((splitC 58 (c :: r).dropLast).length ≤ 8)) = true then (((splitC 58 (c :: r).dropLast).length : Int), true) else (0, false)) else (0, false)) := fun v => by
        rw [hasSuffix_eq _ hs', bindS]
        by_cases hl : (c :: r).getLast? = some 58
        · rw [decide_eq_true hl, if_pos hl, Bool.not_true, ifF, trimSuffix_eq _ hs' hl, bindS, split_one 58 (by simp at hs' ⊢; omega), bindS]
          have hlen : (splitC 58 (c :: r).dropLast).length ≤ bigN := by
            have := splitC_len 58 (c :: r).dropLast
            simp at this
            simp at hs'
            unfold bigN; omega
          have hc := containsFuncS_eq (splitC 58 (c :: r).dropLast) method_Arity_1 (fun x => !nmB x) (fun x hx => by
            unfold method_Arity_1
            rw [mname_eq x (by have := splitC_part 58 _ x hx; simp at this; simp at hs'; unfold bigN; omega), bindS]) hlen
          rw [hc, bindS]
          generalize splitC 58 (c :: r).dropLast = L
          have : (L.any fun x => !nmB x) = !L.all nmB := by rw [List.not_all_eq_any_not]
          rw [this]
          by_cases h8 : L.length ≤ 8
          · rw [decide_eq_false (by omega), ifF, bindS, decide_eq_true h8, Bool.and_true]
            cases L.all nmB <;> rfl
          · rw [decide_eq_true (by omega), if_pos rfl, bindS, if_pos rfl, decide_eq_false h8, Bool.and_false, ifF]
        · rw [decide_eq_false hl, if_neg hl]; rfl
      rw [ht, bindS, htb, htail (0, false)]
      rcases hrest with hsg | hsg
      · have hn : nmB (c :: r) = false := by show (between 97 122 c && _) = false; rw [sign_small hsg]; rfl
        rw [hn, ifF, hsg, if_pos rfl]
        have hw := arL_word (c :: r) (by simp)
        rw [hn, ifF] at hw
        have h0 : arL 0 true (c :: r) = (0, false) := by
          show (if between 97 122 c = true then _ else _) = _
          rw [sign_small hsg, ifF]
        rw [h0] at hw
        rw [← hw]
        cases r with
        | nil => simp [hsg]
        | cons d r =>
          cases r with
          | nil =>
            simp only [List.all_cons, hsg, List.all_nil, Bool.and_true, Bool.true_and]
            cases signB d <;> rfl
          | cons f r =>
            have : decide (((c :: d :: f :: r : Str).length : Int) ≤ 2) = false := decide_eq_false (by simp; omega)
            rw [this]
            cases (c :: d :: f :: r).all signB <;> rfl
      · rw [hsg, ifF]
        have : (c :: r).all signB = false := by rw [List.all_cons, hsg]; rfl
        rw [this, ifF, bindS, ifF, arL_word (c :: r) (by simp)]
        cases nmB (c :: r) <;> rfl
end Go.Cq

