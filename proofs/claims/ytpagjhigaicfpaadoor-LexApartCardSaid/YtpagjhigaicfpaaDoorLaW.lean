import Derived.Test.YtpagjhigaicfpaaDoorLaM
set_option linter.unusedSectionVars false
set_option linter.unusedVariables false
set_option linter.unusedSimpArgs false
set_option maxRecDepth 100000
set_option linter.unusedVariables false
set_option linter.unusedSimpArgs false
namespace Go.Cq
open Go Go.Av

def mkc (K : Int) : UInt8 := mks.getD (K - 7).toNat 0
def wrtB (K : Int) (S : Str) : Str :=
  if K = 1 then S ++ [58] else if K = 5 then 58 :: S else if K = 4 then 39 :: (dbl S ++ [39]) else if K = 6 then [58, 61] else if K = 0 ∨ K = 2 ∨ K = 3 then S else [mkc K]
theorem kinds {K : Int} (h0 : 0 ≤ K) (h1 : K ≤ 16) : K = 0 ∨ K = 1 ∨ K = 2 ∨ K = 3 ∨ K = 4 ∨ K = 5 ∨ K = 6 ∨ K = 7 ∨ K = 8 ∨ K = 9 ∨ K = 10 ∨ K = 11 ∨ K = 12 ∨ K = 13 ∨ K = 14 ∨ K = 15 ∨ K = 16 := by omega
theorem write_eq {w : lex_Word} (hs : w.S.length ≤ 100000) (h0 : 0 ≤ w.K) (h1 : w.K ≤ 16) : lex_write w = some (wrtB w.K w.S) := by
  obtain ⟨K, S, At⟩ := w
  simp only at hs h0 h1
  have hd := dbl_len S
  have hw : wrtB 0 S = S ∧ wrtB 2 S = S ∧ wrtB 3 S = S ∧ wrtB 1 S = S ++ [58] ∧ wrtB 5 S = 58 :: S ∧ wrtB 4 S = 39 :: (dbl S ++ [39]) := by simp [wrtB]
  obtain ⟨e0, e2, e3, e1, e5, e4⟩ := hw
  rcases kinds h0 h1 with rfl | rfl | rfl | rfl | rfl | rfl | rfl | rfl | rfl | rfl | rfl | rfl | rfl | rfl | rfl | rfl | rfl
  · simp only [e0]; rfl
  · simp only [e1]; show (cat S [58]).bind _ = _; rw [cat_of (by simp; omega)]; rfl
  · simp only [e2]; rfl
  · simp only [e3]; rfl
  · simp only [e4]
    show (strings_ReplaceAll S [39] [39, 39]).bind _ = _
    rw [ra_eq (by omega), Option.bind_some, cat_of (by simp; omega), Option.bind_some, cat_of (by simp; omega), Option.bind_some]; simp
  · simp only [e5]; show (cat [58] S).bind _ = _; rw [cat_of (by simp; omega)]; rfl
  all_goals rfl

def quoL : Str → List Int
  | [] => []
  | b :: r => if b = 39 then 39 :: 39 :: quoL r else (b.toNat : Int) :: quoL r
theorem quoL_eq : ∀ s : Str, quoL s = toInts (dbl s)
  | [] => rfl
  | b :: r => by
    unfold quoL dbl
    by_cases hb : b = 39
    · rw [if_pos hb, if_pos hb, quoL_eq r]; rfl
    · rw [if_neg hb, if_neg hb, quoL_eq r]; rfl
theorem one_l1 {K : Int} {S : Str} {At : Int} (hs : S.length ≤ 100000) : ∀ (r : Str) (j q : Nat) (acc : List Int), S.drop j = r → j ≤ S.length → r.length < q → acc.length + 2 * r.length ≤ 400000 →
    ref13_One_l1 ⟨K, S, At⟩ q acc (j : Int) = some (acc ++ quoL r)
  | [], j, q+1, acc, h, hj, _, _ => by
    rw [ref13_One_l1, ge_drop h]; simp [quoL]
  | b :: r, j, q+1, acc, h, hj, hq, ha => by
    obtain ⟨h1, h2, h3⟩ := drop_cons h
    rw [List.length_cons] at hq ha
    rw [ref13_One_l1, lt_drop h, if_pos rfl, sIdx_drop h, Option.bind_some, app_of (by simp; omega) (by simp; omega), Option.bind_some, dec39]
    unfold quoL
    by_cases hb : b = 39
    · subst hb
      simp only [decide_true, if_true]
      rw [app_of (by simp; omega) (by simp; omega), Option.bind_some, Option.bind_some, ck_succ (by omega), Option.bind_some, one_l1 hs r (j+1) q _ h2 h3 (by omega) (by simp; omega)]
      simp
    · simp only [hb, decide_false, if_false, Bool.false_eq_true]
      rw [Option.bind_some, ck_succ (by omega), Option.bind_some, one_l1 hs r (j+1) q _ h2 h3 (by omega) (by simp; omega)]
      simp
  | _, _, 0, _, _, _, hq, _ => by omega
theorem nm_ne {s : Str} (h : nmB s = true) : s ≠ [] := by rintro rfl; cases h
theorem rone_eq {w : ref13_Word} (hs : w.S.length ≤ 100000) (h0 : 0 ≤ w.K) (hm : mayB w.K w.S w.At = true) : ref13_One w = some (toInts (wrtB w.K w.S)) := by
  obtain ⟨K, S, At⟩ := w
  simp only at hs h0 hm
  have h1 : K ≤ 16 := by
    unfold mayB at hm
    split at hm
    · cases hm
    · split at hm
      · omega
      · split at hm
        · omega
        · split at hm
          · omega
          · split at hm
            · omega
            · simp at hm; exact hm.1
  have hd := dbl_len S
  have hl : (toInts S).length = S.length := by simp [toInts]
  have hw : wrtB 0 S = S ∧ wrtB 2 S = S ∧ wrtB 3 S = S ∧ wrtB 1 S = S ++ [58] ∧ wrtB 5 S = 58 :: S ∧ wrtB 4 S = 39 :: (dbl S ++ [39]) := by simp [wrtB]
  obtain ⟨e0, e2, e3, e1, e5, e4⟩ := hw
  rcases kinds h0 h1 with rfl | rfl | rfl | rfl | rfl | rfl | rfl | rfl | rfl | rfl | rfl | rfl | rfl | rfl | rfl | rfl | rfl
  · simp only [e0]; rfl
  · simp only [e1]
    have hne : S ≠ [] := by
      unfold mayB at hm
      split at hm
      · cases hm
      · rw [if_pos (by omega)] at hm; exact nm_ne hm
    show (bytesO S).bind _ = _
    unfold bytesO
    rw [if_neg hne, Option.bind_some, app_of (by simp [hl]; omega) (by simp [hl]; omega), Option.bind_some]
    simp [toInts]
  · simp only [e2]; rfl
  · simp only [e3]; rfl
  · simp only [e4]
    show ((ref13_One_l1 ⟨4, S, At⟩ fuel [39] ((0 : Nat) : Int)).bind fun y13 => (app 1 y13 [39]).bind fun v34 => some v34) = _
    have hq : (quoL S).length ≤ 2 * S.length := by rw [quoL_eq]; simpa [toInts] using hd
    rw [one_l1 hs S 0 fuel [39] rfl (Nat.zero_le _) (by unfold fuel; omega) (by simp; omega), Option.bind_some, app_of (by simp; omega) (by simp; omega), Option.bind_some, quoL_eq]
    simp [toInts]
  · simp only [e5]; show (app 1 [58] (toInts S)).bind _ = _; rw [app_of (by simp [hl]; omega) (by simp [hl]; omega)]; simp [toInts]
  all_goals rfl

/-! ### The texts -/
def okW (w : ref13_Word) : Bool := mayB w.K w.S w.At
def ucv (w : ref13_Word) : lex_Word := ⟨w.K, w.S, w.At⟩
def pc (w : ref13_Word) : Str := wrtB w.K w.S
def fits : Nat → List Str → Bool
  | _, [] => true
  | n, p :: r => if 65537 < n + (p.length + 1) then false else fits (n + (p.length + 1)) r
def textB (l : List ref13_Word) : Str × Option Int :=
  if l.all okW then (if fits 0 (l.map pc) then (Lib.join (l.map pc) [32], none) else ([], some 4)) else ([], some 1)
structure Sm (l : List ref13_Word) : Prop where
  len : l.length ≤ 100000
  word : ∀ w, w ∈ l → w.S.length ≤ 1000000 ∧ 0 ≤ w.K
theorem may_len {K At : Int} {S : Str} (hm : mayB K S At = true) : K ≤ 16 ∧ S.length ≤ 1024 := by
  unfold mayB at hm
  split at hm
  · cases hm
  · split at hm
    · cases S with
      | nil => simp; omega
      | cons b r => rw [nmB_cons] at hm; simp only [Bool.and_eq_true, decide_eq_true_eq] at hm; omega
    · split at hm
      · cases S with
        | nil => simp; omega
        | cons b r => rw [biB_cons] at hm; simp only [Bool.and_eq_true, decide_eq_true_eq] at hm; omega
      · split at hm
        · cases S with
          | nil => simp; omega
          | cons b r => rw [nuB_cons] at hm; simp only [Bool.and_eq_true, decide_eq_true_eq] at hm; omega
        · split at hm
          · have := of_decide_eq_true hm; omega
          · simp only [Bool.and_eq_true, decide_eq_true_eq, beq_iff_eq] at hm; rw [hm.2]; simp; exact hm.1
theorem pc_len {w : ref13_Word} (hm : okW w = true) : (pc w).length ≤ 2050 := by
  have := may_len hm
  have hd := dbl_len w.S
  unfold pc wrtB
  split
  · simp; omega
  · split
    · simp; omega
    · split
      · simp; omega
      · split
        · simp
        · split
          · omega
          · simp
theorem all_false {α : Type} {p : α → Bool} {l : List α} {x : α} (h : x ∈ l) (hx : p x = false) : l.all p = false := by
  rw [List.all_eq_false]; exact ⟨x, h, by simp [hx]⟩
theorem textl_1 {l : List ref13_Word} (hl : Sm l) (K2 : Unit → Option (Str × Option Int)) : lex_Text_l1 (l.map ucv) K2 fuel 0 = if l.all okW then K2 () else some ([], some 1) := by
  have hlen := hl.len
  rw [loopI_run (F := fun q (_ : Unit) j => lex_Text_l1 (l.map ucv) K2 q j) (l := l.map ucv) (g := fun j x _ k => if mayB x.K x.S x.At then k () else some ([], some 1)) (K := fun _ => K2 ()) (s := ())]
  · clear hlen
    have : ∀ (r : List ref13_Word) (j : Nat), loopI (fun j (x : lex_Word) (_ : Unit) k => if mayB x.K x.S x.At then k () else some (([], some 1) : Str × Option Int)) (fun _ => K2 ()) j (r.map ucv) () = if r.all okW then K2 () else some ([], some 1) := by
      intro r
      induction r with
      | nil => intro j; rfl
      | cons w r ih =>
        intro j
        simp only [List.map_cons, loopI, List.all_cons]
        rw [ih (j+1)]
        show (if okW w = true then _ else _) = _
        by_cases hw : okW w = true <;> simp [hw]
    exact this l 0
  · intro q s j x hx hj
    have hj2 : j < l.length := by simpa using hj
    obtain ⟨w, hw, rfl⟩ : ∃ w, w ∈ l ∧ ucv w = x := by
      have := List.mem_of_getElem? hx
      simpa using this
    show lex_Text_l1 (l.map ucv) K2 (q+1) (j : Int) = _
    rw [lex_Text_l1, lt_len hj, if_pos rfl, lAt_nat hx, Option.bind_some, may_eq (by have := (hl.word w hw).1; show w.S.length ≤ _; omega), Option.bind_some]
    cases mayB (ucv w).K (ucv w).S (ucv w).At
    · simp
    · simp only [Bool.not_true, Bool.false_eq_true, if_false, if_true]
      rw [cks (by omega), Option.bind_some]
  · intro q s
    show lex_Text_l1 (l.map ucv) K2 (q+1) _ = _
    rw [lex_Text_l1, ge_len]; rfl
  · rw [List.length_map]; unfold fuel; omega
theorem textr_1 {l : List ref13_Word} (hl : Sm l) (K2 : Unit → Option (Str × Int)) : ref13_Text_l1 l K2 fuel 0 = if l.all okW then K2 () else some ([], 1) := by
  have hlen := hl.len
  rw [loopI_run (F := fun q (_ : Unit) j => ref13_Text_l1 l K2 q j) (l := l) (g := fun j x _ k => if okW x then k () else some ([], 1)) (K := fun _ => K2 ()) (s := ())]
  · clear hlen
    have : ∀ (r : List ref13_Word) (j : Nat), loopI (fun j (x : ref13_Word) (_ : Unit) k => if okW x then k () else some (([], 1) : Str × Int)) (fun _ => K2 ()) j r () = if r.all okW then K2 () else some ([], 1) := by
      intro r
      induction r with
      | nil => intro j; rfl
      | cons w r ih =>
        intro j
        simp only [loopI, List.all_cons]
        rw [ih (j+1)]
        by_cases hw : okW w = true <;> simp [hw]
    exact this l 0
  · intro q s j x hx hj
    have hw : x ∈ l := List.mem_of_getElem? hx
    show ref13_Text_l1 l K2 (q+1) (j : Int) = _
    rw [ref13_Text_l1, lt_len hj, if_pos rfl, lAt_nat hx, Option.bind_some, rmay_eq (by have := (hl.word x hw).1; omega), Option.bind_some]
    show (if (!okW x) = true then _ else _) = _
    cases okW x
    · simp
    · simp only [Bool.not_true, Bool.false_eq_true, if_false, if_true]
      rw [cks (by omega), Option.bind_some]
  · intro q s
    show ref13_Text_l1 l K2 (q+1) _ = _
    rw [ref13_Text_l1, ge_len]; rfl
  · unfold fuel; omega

theorem textl_2 {l : List ref13_Word} (hl : Sm l) (hall : ∀ w, w ∈ l → okW w = true) (K11 : List Str → Option (Str × Option Int)) : ∀ (r : List ref13_Word) (j q n : Nat) (acc : List Str), l.drop j = r → j ≤ l.length → r.length < q → n ≤ 100000 → acc.length ≤ j →
    lex_Text_l2 (l.map ucv) K11 q (n : Int) acc (j : Int) = if fits n (r.map pc) then K11 (acc ++ r.map pc) else some ([], some 4)
  | [], j, q+1, n, acc, h, hj, _, _, _ => by
    have : j = l.length := by have : l.length ≤ j := by simpa using h
                              omega
    subst this
    rw [lex_Text_l2, show (l.length : Int) = ((l.map ucv).length : Int) by simp, ge_len]
    simp [fits]
  | w :: r, j, q+1, n, acc, h, hj, hq, hn, ha => by
    obtain ⟨h1, h2, h3⟩ := getDrop h
    have hlen := hl.len
    have hw : w ∈ l := List.mem_of_getElem? h1
    have hok := hall w hw
    have hm := may_len hok
    have hp := pc_len hok
    rw [List.length_cons] at hq
    have e1 : lex_write (ucv w) = some (pc w) := write_eq (w := ucv w) (by show w.S.length ≤ _; omega) (hl.word w hw).2 hm.1
    have e2 : ((n : Int) + ((pc w).length + 1 : Nat)) = ((n + ((pc w).length + 1) : Nat) : Int) := by omega
    rw [lex_Text_l2, lt_len (by simpa using h3), if_pos rfl, lAt_nat (x := ucv w) (by simp [h1]), Option.bind_some, e1, Option.bind_some, cks (by omega), Option.bind_some, e2, ckn (by omega), Option.bind_some]
    rw [List.map_cons, fits]
    by_cases hc : 65537 < n + ((pc w).length + 1)
    · rw [if_pos hc, if_pos (by simp only [decide_eq_true_eq]; omega)]; simp
    · rw [if_neg hc, if_neg (by simp only [decide_eq_true_eq]; omega), app_of (by simp; omega) (by simp; omega), Option.bind_some, cks (by omega), Option.bind_some,
        textl_2 hl hall K11 r (j+1) q _ _ h2 h3 (by omega) (by omega) (by simp; omega), List.append_assoc]
      rfl
  | _, _, 0, _, _, _, _, hq, _, _ => by omega
theorem toInts_app (s t : Str) : toInts (s ++ t) = toInts s ++ toInts t := by simp [toInts]
theorem toInts_len (s : Str) : (toInts s).length = s.length := by simp [toInts]
theorem textr_end {l : List ref13_Word} {q j : Nat} {acc : List Int} (h : 65536 < acc.length) : ref13_Text_l2 l (q+1) acc (j : Int) = some acc := by
  rw [ref13_Text_l2]
  have : decide ((acc.length : Int) ≤ 65536) = false := by simp; omega
  rw [this, Bool.and_false]; rfl
theorem textr_2 {l : List ref13_Word} (hl : Sm l) (hall : ∀ w, w ∈ l → okW w = true) : ∀ (r : List ref13_Word) (j q : Nat) (acc : Str), l.drop j = r → 0 < j → j ≤ l.length → r.length < q → acc.length ≤ 65536 →
    ∃ R, ref13_Text_l2 l q (toInts acc) (j : Int) = some (toInts R) ∧ (fits (acc.length + 1) (r.map pc) = true → R = acc ++ Lib.joinTail [32] (r.map pc) ∧ R.length ≤ 65536) ∧ (fits (acc.length + 1) (r.map pc) = false → 65536 < R.length)
  | [], j, q+1, acc, h, h0, hj, _, ha => by
    have : j = l.length := by have : l.length ≤ j := by simpa using h
                              omega
    subst this
    refine ⟨acc, by rw [ref13_Text_l2, ge_len, Bool.false_and]; rfl, fun _ => ⟨by simp [Lib.joinTail], ha⟩, fun hf => by simp [fits] at hf⟩
  | w :: r, j, q+1, acc, h, h0, hj, hq, ha => by
    obtain ⟨h1, h2, h3⟩ := getDrop h
    have hlen := hl.len
    have hw : w ∈ l := List.mem_of_getElem? h1
    have hok := hall w hw
    have hm := may_len hok
    have hp := pc_len hok
    rw [List.length_cons] at hq
    have e1 : ref13_One w = some (toInts (pc w)) := rone_eq (by omega) (hl.word w hw).2 hok
    have e3 : ∀ n : Nat, n ≤ 65536 → decide ((n : Int) ≤ 65536) = true := fun n hn => by simp; omega
    have e4 : (1 : Nat) ≤ j := h0
    have e5 : decide ((0 : Int) < (j : Int)) = true := by simp; omega
    have estep : ref13_Text_l2 l (q+1) (toInts acc) (j : Int) = ref13_Text_l2 l q (toInts (acc ++ 32 :: pc w)) ((j + 1 : Nat) : Int) := by
      rw [ref13_Text_l2, lt_len h3, e3 _ (by rw [toInts_len]; exact ha), Bool.and_true, if_pos rfl, e5, if_pos rfl, app_of (by simp [toInts_len]; omega) (by simp [toInts_len]; omega), Option.bind_some, Option.bind_some,
        lAt_nat h1, Option.bind_some, e1, Option.bind_some, app_of (by simp [toInts_len]; omega) (by simp [toInts_len]; omega), Option.bind_some, cks (by omega), Option.bind_some]
      congr 1
      simp [toInts]
    rw [estep, List.map_cons, fits]
    by_cases hc : 65537 < acc.length + 1 + ((pc w).length + 1)
    · rw [if_pos hc]
      refine ⟨acc ++ 32 :: pc w, ?_, fun hf => by simp at hf, fun _ => by simp; omega⟩
      obtain ⟨q, rfl⟩ : ∃ q', q = q' + 1 := ⟨q - 1, by omega⟩
      exact textr_end (by simp [toInts_len]; omega)
    · rw [if_neg hc]
      obtain ⟨R, r1, r2, r3⟩ := textr_2 hl hall r (j+1) q (acc ++ 32 :: pc w) h2 (by omega) h3 (by omega) (by simp; omega)
      have e6 : (acc ++ 32 :: pc w).length + 1 = acc.length + 1 + ((pc w).length + 1) := by simp; omega
      rw [e6] at r2 r3
      refine ⟨R, r1, fun hf => ?_, r3⟩
      obtain ⟨p1, p2⟩ := r2 hf
      exact ⟨by rw [p1]; simp [Lib.joinTail], p2⟩
  | _, _, 0, _, _, _, _, hq, _ => by omega
theorem textr_3 {l : List ref13_Word} (hl : Sm l) (hall : ∀ w, w ∈ l → okW w = true) :
    ∃ R, ref13_Text_l2 l fuel [] 0 = some (toInts R) ∧ (fits 0 (l.map pc) = true → R = Lib.join (l.map pc) [32] ∧ R.length ≤ 65536) ∧ (fits 0 (l.map pc) = false → 65536 < R.length) := by
  cases l with
  | nil => exact ⟨[], rfl, fun _ => ⟨rfl, by simp⟩, fun h => by cases h⟩
  | cons w r =>
    have hlen := hl.len
    rw [List.length_cons] at hlen
    have hw : w ∈ w :: r := by simp
    have hok := hall w hw
    have hm := may_len hok
    have hp := pc_len hok
    have e1 : ref13_One w = some (toInts (pc w)) := rone_eq (by omega) (hl.word w hw).2 hok
    obtain ⟨q, hq⟩ : ∃ q, fuel = q + 1 := ⟨fuel - 1, rfl⟩
    have hq2 : r.length < q := by have : fuel = 18446744073709551616 := rfl
                                  omega
    have estep : ref13_Text_l2 (w :: r) (q+1) [] ((0 : Nat) : Int) = ref13_Text_l2 (w :: r) q (toInts (pc w)) ((0 + 1 : Nat) : Int) := by
      rw [ref13_Text_l2, lt_len (by simp), show decide ((([] : List Int).length : Int) ≤ 65536) = true from rfl, Bool.and_true, if_pos rfl, show decide ((0 : Int) < ((0 : Nat) : Int)) = false from rfl, if_neg (by simp), Option.bind_some,
        lAt_nat (x := w) rfl, Option.bind_some, e1, Option.bind_some, app_of (by simp [toInts_len]; omega) (by simp [toInts_len]; omega), Option.bind_some, cks (by omega), Option.bind_some, List.nil_append]
    obtain ⟨R, r1, r2, r3⟩ := textr_2 hl hall r (0+1) q (pc w) rfl (by omega) (by simp) hq2 (by omega)
    have hf : fits 0 ((w :: r).map pc) = fits ((pc w).length + 1) (r.map pc) := by
      rw [List.map_cons, fits, if_neg (by omega), Nat.zero_add]
    refine ⟨R, by rw [hq, show (0 : Int) = ((0 : Nat) : Int) from rfl, estep]; exact r1, fun h => ?_, fun h => r3 (hf ▸ h)⟩
    obtain ⟨p1, p2⟩ := r2 (hf ▸ h)
    exact ⟨by rw [p1, List.map_cons, Lib.join_cons], p2⟩
theorem join_fits {l : List ref13_Word} (hl : Sm l) (hall : ∀ w, w ∈ l → okW w = true) (hf : fits 0 (l.map pc) = true) : (Lib.join (l.map pc) [32]).length ≤ 65536 := by
  obtain ⟨R, _, r2, _⟩ := textr_3 hl hall
  obtain ⟨h1, h2⟩ := r2 hf
  rw [← h1]; exact h2
theorem textl_eq {l : List ref13_Word} (hl : Sm l) : lex_Text (l.map ucv) = some (textB l) := by
  unfold lex_Text textB
  simp only [letK_e]
  rw [textl_1 hl]
  by_cases ha : l.all okW = true
  · have hall : ∀ w, w ∈ l → okW w = true := List.all_eq_true.1 ha
    rw [if_pos ha, if_pos ha]
    have hlen := hl.len
    have := textl_2 hl hall (fun v28 => (strings_Join v28 [32]).bind fun v29 => some (v29, none)) l 0 fuel 0 [] rfl (Nat.zero_le _) (by unfold fuel; omega) (Nat.zero_le _) (Nat.zero_le _)
    rw [show ((0 : Nat) : Int) = 0 from rfl] at this
    rw [this]
    by_cases hf : fits 0 (l.map pc) = true
    · rw [if_pos hf, if_pos hf, List.nil_append]
      have := join_fits hl hall hf
      unfold strings_Join joinS
      rw [if_pos ⟨by rw [List.length_map]; omega, by omega⟩]; rfl
    · rw [if_neg hf, if_neg hf]
  · rw [if_neg ha, if_neg ha]
theorem textr_eq {l : List ref13_Word} (hl : Sm l) : ref13_Text l = some ((textB l).1, code (textB l).2) := by
  unfold ref13_Text textB
  simp only [letK_e]
  rw [textr_1 hl]
  by_cases ha : l.all okW = true
  · have hall : ∀ w, w ∈ l → okW w = true := List.all_eq_true.1 ha
    rw [if_pos ha, if_pos ha]
    obtain ⟨R, r1, r2, r3⟩ := textr_3 hl hall
    rw [r1, Option.bind_some]
    by_cases hf : fits 0 (l.map pc) = true
    · obtain ⟨p1, p2⟩ := r2 hf
      rw [if_pos hf, if_neg (by simp [toInts_len]; omega), ofInts_toInts, p1]; rfl
    · have := r3 (by simpa using hf)
      rw [if_neg hf, if_pos (by simp [toInts_len]; omega)]; rfl
  · rw [if_neg ha, if_neg ha]; rfl

/-! ### The law -/
def Rg (l : List ref13_Word) : Prop := l.length ≤ 140737488355328 ∧ ∀ w, w ∈ l → w.S.length ≤ 140737488355328 ∧ 0 ≤ w.K
theorem give_l1 {l : List ref13_Word} (hl : l.length ≤ 100000) : ∀ (r : List ref13_Word) (j q : Nat) (acc : List lex_Word), l.drop j = r → j ≤ l.length → r.length < q → acc.length ≤ j → law13_giveWords_l1 l q acc (j : Int) = some (acc ++ r.map ucv)
  | [], j, q+1, acc, h, hj, _, _ => by
    have : j = l.length := by have : l.length ≤ j := by simpa using h
                              omega
    subst this
    rw [law13_giveWords_l1, ge_len]; simp
  | w :: r, j, q+1, acc, h, hj, hq, ha => by
    obtain ⟨h1, h2, h3⟩ := getDrop h
    rw [List.length_cons] at hq
    rw [law13_giveWords_l1, lt_len h3, if_pos rfl, lAt_nat h1, Option.bind_some, app_of (by simp; omega) (by simp; omega), Option.bind_some, cks (by omega), Option.bind_some, give_l1 hl r (j+1) q _ h2 h3 (by omega) (by simp; omega)]
    simp [ucv]
  | _, _, 0, _, _, _, hq, _ => by omega
theorem give_eq {l : List ref13_Word} (hl : l.length ≤ 100000) : law13_giveWords l = some (l.map ucv) := by
  unfold law13_giveWords
  have := give_l1 hl l 0 fuel [] rfl (Nat.zero_le _) (by unfold fuel; omega) (Nat.zero_le _)
  rw [show ((0 : Nat) : Int) = 0 from rfl] at this
  rw [this, List.nil_append, Option.bind_some]
theorem num_code (e : Option Int) : law_num e = some (code e) := by cases e <;> rfl
theorem lw_l1 {l : List ref13_Word} (hr : Rg l) {K2 : Unit → Option Bool} (hK : Sm l → K2 () = some true) : ∀ (r : List ref13_Word) (j q n : Nat), l.drop j = r → j ≤ l.length → r.length < q → n ≤ 262144 → j ≤ 65537 → (∀ w, w ∈ l.take j → w.S.length ≤ 1000000) →
    law13_LexWrites_l1 l K2 q (n : Int) (j : Int) = some true
  | [], j, q+1, n, h, hj, _, _, hj2, hp => by
    have : j = l.length := by have : l.length ≤ j := by simpa using h
                              omega
    subst this
    rw [law13_LexWrites_l1, ge_len, if_neg (by simp)]
    rw [List.take_length] at hp
    exact hK ⟨by omega, fun w hw => ⟨hp w hw, (hr.2 w hw).2⟩⟩
  | w :: r, j, q+1, n, h, hj, hq, hn, hj2, hp => by
    obtain ⟨h1, h2, h3⟩ := getDrop h
    have hw : w ∈ l := List.mem_of_getElem? h1
    have hwr := hr.2 w hw
    have hlr := hr.1
    rw [List.length_cons] at hq
    have e1 : (n : Int) + min (w.S.length : Int) 1048576 = ((n + min w.S.length 1048576 : Nat) : Int) := by omega
    rw [law13_LexWrites_l1, lt_len h3, if_pos rfl, lAt_nat h1, Option.bind_some, e1, ckn (by omega), Option.bind_some]
    by_cases hc : 262144 < n + min w.S.length 1048576 ∨ 65536 < j
    · rw [if_pos (by simp only [Bool.or_eq_true, decide_eq_true_eq]; omega), sure_ok, Option.bind_some]
    · rw [if_neg (by simp only [Bool.or_eq_true, decide_eq_true_eq]; omega), may_eq (by show w.S.length ≤ _; omega), Option.bind_some, rmay_eq (by omega), Option.bind_some]
      simp only [beq_self_eq_true, Bool.not_true, Bool.false_eq_true, if_false]
      rw [cks (by omega), Option.bind_some]
      refine lw_l1 hr hK r (j+1) q _ h2 h3 (by omega) (by omega) (by omega) fun w' hw' => ?_
      rw [List.take_add_one, h1] at hw'
      rcases List.mem_append.1 hw' with hw' | hw'
      · exact hp w' hw'
      · simp at hw'; subst hw'; omega
  | _, _, 0, _, _, _, hq, _, _, _ => by omega
theorem law_writes {l : List ref13_Word} (hr : Rg l) : law13_LexWrites l = some true := by
  unfold law13_LexWrites
  simp only [letK_e]
  have hlr := hr.1
  have := fun K2 hK => lw_l1 (K2 := K2) hr hK l 0 fuel 0 rfl (Nat.zero_le _) (by unfold fuel; omega) (by omega) (by omega) (by simp)
  rw [show ((0 : Nat) : Int) = 0 from rfl] at this
  refine this _ fun hs => ?_
  rw [give_eq hs.len, Option.bind_some, textl_eq hs, Option.bind_some, textr_eq hs, Option.bind_some, num_code, Option.bind_some, sure_ok]
  simp
end Go.Cq

