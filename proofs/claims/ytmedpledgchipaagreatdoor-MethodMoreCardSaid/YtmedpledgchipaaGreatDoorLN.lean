import Derived.Test.YtmedpledgchipaaGreatDoorL3
set_option linter.unusedSectionVars false
set_option linter.unusedVariables false
set_option linter.unusedSimpArgs false
set_option linter.unnecessarySimpa false
set_option maxRecDepth 100000
namespace Go.Cq
open Go Go.Av
def digitC : Str := [48, 49, 50, 51, 52, 53, 54, 55, 56, 57]
theorem digit_contains (c : UInt8) : digitC.contains c = between 48 57 c := u8_eq _ _ (by decide +kernel) c
def wv (B : Nat) : List Int → Nat
 | [] => 0
 | x :: r => x.toNat + B * wv B r
def inR (B : Nat) (l : List Int) : Prop := ∀ x, x ∈ l → 0 ≤ x ∧ x < B
theorem wv_app (B : Nat) : ∀ (l : List Int) (x : Int), wv B (l ++ [x]) = wv B l + B ^ l.length * x.toNat
 | [], x => by simp [wv]
 | y :: l, x => by
  rw [List.cons_append, wv, wv, wv_app B l x, List.length_cons, Nat.pow_succ, Nat.mul_add]
  rw [show B ^ l.length * B * x.toNat = B * (B ^ l.length * x.toNat) by rw [Nat.mul_comm (B ^ l.length) B, Nat.mul_assoc]]
  omega
theorem wv_lt {B : Nat} : ∀ {l : List Int}, inR B l → wv B l < B ^ l.length
 | [], _ => by simp [wv]
 | x :: l, h => by
  have h1 := h x (by simp)
  have h2 := wv_lt (l := l) fun y hy => h y (by simp [hy])
  rw [wv, List.length_cons, Nat.pow_succ, Nat.mul_comm (B ^ l.length) B]
  have : B * (wv B l + 1) ≤ B * B ^ l.length := Nat.mul_le_mul_left _ h2
  rw [Nat.mul_add] at this
  have h3 : x.toNat < B := by omega
  omega
def cutR (r : List Int) : List Int := r.dropWhile (fun x => decide (x = 0))
theorem cutR_len {B : Nat} (hB : 2 ≤ B) (K : Nat) : ∀ (r : List Int), inR B r.reverse → ((cutR r).length ≤ K ↔ wv B r.reverse < B ^ K)
 | [], _ => by
  simp only [cutR, List.dropWhile_nil, List.length_nil, List.reverse_nil, wv]
  exact ⟨fun _ => Nat.pow_pos (by omega), fun _ => Nat.zero_le _⟩
 | x :: r, h => by
  rw [List.reverse_cons] at h ⊢
  rw [wv_app]
  have hr : inR B r.reverse := fun y hy => h y (by simp [List.mem_reverse.1 hy])
  by_cases hx : x = 0
  ·subst hx
   have : cutR (0 :: r) = cutR r := by unfold cutR; rw [List.dropWhile_cons]; simp
   rw [this, cutR_len hB K r hr]
   simp
  ·have : cutR (x :: r) = x :: r := by unfold cutR; rw [List.dropWhile_cons]; simp [hx]
   rw [this, List.length_cons]
   have h1 := h x (by simp)
   have hlt := wv_lt hr
   rw [List.length_reverse] at hlt ⊢
   have hx1 : 1 ≤ x.toNat := by omega
   have hx2 : x.toNat + 1 ≤ B := by omega
   constructor
   ·intro hK
    have e1 : B ^ (r.length + 1) ≤ B ^ K := Nat.pow_le_pow_right (by omega) hK
    have e2 : B ^ r.length * (x.toNat + 1) ≤ B ^ r.length * B := Nat.mul_le_mul_left _ hx2
    rw [← Nat.pow_succ, Nat.mul_add, Nat.succ_eq_add_one] at e2
    omega
   ·intro hlt2
    rcases Nat.lt_or_ge K (r.length + 1) with hc | hc
    ·exfalso
     have e1 : B ^ K ≤ B ^ r.length := Nat.pow_le_pow_right (by omega) (by omega)
     have e2 : B ^ r.length * 1 ≤ B ^ r.length * x.toNat := Nat.mul_le_mul_left _ hx1
     omega
    ·exact hc
theorem lcut_eq : ∀ (r : List Int) (q : Nat), r.length < q → r.length ≤ 1000000 → large_cut_l1 q r.reverse = some (cutR r).reverse
 | [], q, hq, _ => by
  obtain ⟨q, rfl⟩ : ∃ q', q = q' + 1 := ⟨q - 1, by simp at hq; omega⟩
  rfl
 | x :: r, q, hq, hs => by
  obtain ⟨q, rfl⟩ : ∃ q', q = q' + 1 := ⟨q - 1, by simp at hq; omega⟩
  have hq' : r.length < q := by simp at hq; omega
  simp at hs
  have hl : (x :: r).reverse.length = r.length + 1 := by simp
  simp only [large_cut_l1]
  have h0 : decide ((0 : Int) < ((x :: r).reverse.length : Int)) = true := decide_eq_true (by rw [hl]; omega)
  have h1 : ck (((x :: r).reverse.length : Int) - 1) = some ((r.length : Nat) : Int) := by
   rw [hl, show (((r.length + 1 : Nat) : Int) - 1) = ((r.length : Nat) : Int) by omega]; exact ckn (by omega)
  have h2 : lAt (x :: r).reverse ((r.length : Nat) : Int) = some x := lAt_nat (by rw [List.reverse_cons, List.getElem?_append_right (by simp)]; simp)
  rw [h0, if_pos rfl, h1, bindS, h2, bindS, bindS]
  by_cases hx : x = 0
  ·rw [decide_eq_true hx, if_pos rfl, bindS, sub0 (by rw [hl]; omega), bindS]
   have : (x :: r).reverse.take r.length = r.reverse := by rw [List.reverse_cons, List.take_left' (by simp)]
   rw [this, lcut_eq r q hq' (by omega)]
   unfold cutR
   rw [List.dropWhile_cons, if_pos (by simpa using hx)]
  ·rw [decide_eq_false hx, ifF]
   unfold cutR
   rw [List.dropWhile_cons, if_neg (by simpa using hx)]
theorem app16 {α : Type} {b : Nat} {l m : List α} (hb : b ≤ 1000) (h : l.length + m.length ≤ 100000000000) : app b l m = some (l ++ m) :=
 app_of (by omega) (by
  have := Nat.mul_le_mul h hb
  omega)
end Go.Cq

set_option maxRecDepth 100000
namespace Go.Cq
open Go Go.Av
abbrev W32 : Nat := 4294967296
theorem u64j {n : Int} (h0 : 0 ≤ n) (h1 : n < 18446744073709551616) : IntKind.wrap .u64 n = n := by rw [IntKind.wrap_u64]; omega
theorem u8j {n : Int} (h0 : 0 ≤ n) (h1 : n < 256) : IntKind.wrap .u8 n = n := by rw [IntKind.wrap_u8]; omega
theorem shr32 {n : Int} : shr .u64 n 32 = some (n / 4294967296) := by
 unfold shr
 rw [if_pos (by decide), show ((2 : Int) ^ min ((32 : Int).toNat) (IntKind.bits .u64)) = 4294967296 from by decide, Int.fdiv_eq_ediv_of_nonneg _ (by decide)]
theorem l3_eq (v54 : List Int) : ∀ (B A : List Int) (q c : Nat), inR W32 B → c ≤ 9 → B.length < q → A.length + B.length = v54.length → v54.length ≤ 1000000 →
  ∃ (B' : List Int) (c' : Nat), large_Parse_l3 v54 q (c : Int) (A.length : Int) (A ++ B) = some ((c' : Int), A ++ B') ∧ inR W32 B' ∧ B'.length = B.length ∧ c' ≤ 9 ∧ wv W32 B' + W32 ^ B.length * c' = c + 10 * wv W32 B
 | [], A, q, c, _, hc, hq, hl, hs => by
  obtain ⟨q, rfl⟩ : ∃ q', q = q' + 1 := ⟨q - 1, by simp at hq; omega⟩
  simp only [List.length_nil, Nat.add_zero] at hl
  refine ⟨[], c, ?_, fun x hx => by simp at hx, rfl, hc, by simp [wv]⟩
  simp only [large_Parse_l3]
  rw [hl, ge_len, ifF]
 | b :: B, A, q, c, hB, hc, hq, hl, hs => by
  obtain ⟨q, rfl⟩ : ∃ q', q = q' + 1 := ⟨q - 1, by simp at hq; omega⟩
  have hb := hB b (by simp)
  have hb2 : b < 4294967296 := hb.2
  have hq' : B.length < q := by simp at hq; omega
  simp at hl
  have et : IntKind.wrap .u64 ((c : Int) + IntKind.wrap .u64 (IntKind.wrap .u64 b * 10)) = (c : Int) + b * 10 := by
   rw [u64j hb.1 (by omega), u64j (n := b * 10) (by omega) (by omega), u64j (by omega) (by omega)]
  have elo : IntKind.wrap .u32 ((c : Int) + b * 10) = ((c : Int) + b * 10) % 4294967296 := by rw [IntKind.wrap_u32]
  have hat : lAt (A ++ b :: B) (A.length : Int) = some b := lAt_nat (by rw [List.getElem?_append_right (Nat.le_refl _)]; simp)
  have hst : stAt (A ++ b :: B) (A.length : Int) (((c : Int) + b * 10) % 4294967296) = some ((A ++ [((c : Int) + b * 10) % 4294967296]) ++ B) := by
   unfold stAt
   rw [Int.toNat_natCast, List.set_append_right _ _ (Nat.le_refl _)]
   simp
  obtain ⟨c1, hc1⟩ : ∃ c1 : Nat, ((c : Int) + b * 10) / 4294967296 = (c1 : Int) := ⟨(((c : Int) + b * 10) / 4294967296).toNat, by omega⟩
  have hc9 : c1 ≤ 9 := by omega
  obtain ⟨B', c', e1, e2, e3, e4, e5⟩ := l3_eq v54 B (A ++ [((c : Int) + b * 10) % 4294967296]) q c1 (fun x hx => hB x (by simp [hx])) hc9 hq' (by simp; omega) hs
  refine ⟨(((c : Int) + b * 10) % 4294967296) :: B', c', ?_, ?_, by simp [e3], e4, ?_⟩
  ·simp only [large_Parse_l3]
   rw [decide_eq_true (by omega), if_pos rfl, hat, bindS, et, elo, hst, bindS, shr32, hc1, bindS, cks (by omega), bindS]
   rw [List.length_append, List.length_singleton] at e1
   rw [e1]; simp
  ·intro x hx
   rcases List.mem_cons.1 hx with rfl | hx
   ·show _ ∧ _ < (4294967296 : Int)
    omega
   ·exact e2 x hx
  ·rw [wv, wv, List.length_cons, Nat.pow_succ, Nat.mul_comm (W32 ^ B.length) W32, Nat.mul_assoc]
   have : (((c : Int) + b * 10) % 4294967296).toNat + W32 * (wv W32 B' + W32 ^ B.length * c') = c + 10 * (b.toNat + W32 * wv W32 B) := by
    rw [e5]
    show _ + 4294967296 * (c1 + 10 * wv W32 B) = c + 10 * (b.toNat + 4294967296 * wv W32 B)
    omega
   rw [Nat.mul_add] at this
   omega
def dv : Nat → List Int → Nat
 | a, [] => a
 | a, x :: r => dv (a * 10 + x.toNat) r
def digs (s : Str) : List Int := s.map fun c => (c.toNat : Int) - 48
theorem l1_eq (v1 : Str × Bool × Bool) (hd : v1.1.all (between 48 57) = true) (hs : v1.1.length ≤ 1000) : ∀ (r : Str) (j q : Nat) (m : List Int), v1.1.drop j = r → j ≤ v1.1.length → r.length < q → inR W32 m → m.length ≤ j →
    ∃ m' : List Int, large_Parse_l1 v1 q (j : Int) m = some m' ∧ inR W32 m' ∧ m'.length ≤ 1000 ∧ wv W32 m' = dv (wv W32 m) (digs r) := by
  intro r
  induction r with
  | nil =>
    intro j q m h hj hq hm hl
    obtain ⟨q, rfl⟩ : ∃ q', q = q' + 1 := ⟨q - 1, by simp at hq; omega⟩
    have : j = v1.1.length := by have : v1.1.length ≤ j := by simpa using h
                                 omega
    subst this
    refine ⟨m, ?_, hm, by omega, rfl⟩
    simp only [large_Parse_l1]
    rw [show (toInts v1.1).length = v1.1.length by simp [toInts], ge_len, ifF]
  | cons c r ih =>
    intro j q m h hj hq hm hl
    obtain ⟨e1, e2, e3⟩ := getDrop h
    obtain ⟨q, rfl⟩ : ∃ q', q = q' + 1 := ⟨q - 1, by simp at hq; omega⟩
    have hq' : r.length < q := by simp at hq; omega
    have hc : between 48 57 c = true := List.all_eq_true.1 hd c (List.mem_of_getElem? e1)
    simp only [between, Bool.and_eq_true, decide_eq_true_eq] at hc
    have ed : IntKind.wrap .u64 (IntKind.wrap .u8 ((c.toNat : Int) - 48)) = ((c.toNat - 48 : Nat) : Int) := by
      rw [u8j (by omega) (by omega), u64j (by omega) (by omega)]; omega
    obtain ⟨B', c', f1, f2, f3, f4, f5⟩ := l3_eq m m [] fuel (c.toNat - 48) hm (by omega) (by unfold fuel; omega) (by simp) (by omega)
    simp only [List.length_nil, List.nil_append] at f1
    have hat : lAt (toInts v1.1) (j : Int) = some (c.toNat : Int) := lAt_nat (by unfold toInts; rw [List.getElem?_map, e1]; rfl)
    have hlt : decide ((j : Int) < ((toInts v1.1).length : Int)) = true := by
      rw [show (toInts v1.1).length = v1.1.length by simp [toInts]]; exact lt_len e3
    have hval : ∀ m2 : List Int, wv W32 m2 = wv W32 B' + W32 ^ m.length * c' → dv (wv W32 m2) (digs r) = dv (wv W32 m) (digs (c :: r)) := fun m2 hm2 => by
      show _ = dv (wv W32 m * 10 + ((c.toNat : Int) - 48).toNat) (digs r)
      congr 1
      rw [hm2, f5]
      omega
    by_cases hz : c' = 0
    · subst hz
      obtain ⟨m', g1, g2, g3, g4⟩ := ih (j+1) q B' e2 (by omega) hq' f2 (by omega)
      refine ⟨m', ?_, g2, g3, by rw [g4]; exact hval B' (by simp)⟩
      simp only [large_Parse_l1]
      rw [hlt, if_pos rfl, hat, bindS, ed, show (0 : Int) = ((0 : Nat) : Int) from rfl, f1, bindS, decide_eq_false (by simp), ifF, bindS, cks (by omega), bindS]
      exact g1
    · have hw : IntKind.wrap .u32 (c' : Int) = (c' : Int) := by rw [IntKind.wrap_u32]; omega
      obtain ⟨m', g1, g2, g3, g4⟩ := ih (j+1) q (B' ++ [(c' : Int)]) e2 (by omega) hq' (fun x hx => by
        rcases List.mem_append.1 hx with hx | hx
        · exact f2 x hx
        · simp at hx; subst hx; exact ⟨by omega, by show (c' : Int) < 4294967296; omega⟩) (by simp; omega)
      refine ⟨m', ?_, g2, g3, by rw [g4]; exact hval _ (by rw [wv_app, f3]; simp)⟩
      simp only [large_Parse_l1]
      rw [hlt, if_pos rfl, hat, bindS, ed, show (0 : Int) = ((0 : Nat) : Int) from rfl, f1, bindS, decide_eq_true (by simp; omega), if_pos rfl]
      simp only [hw]
      rw [app16 (by omega) (by simp; omega), bindS, bindS, cks (by omega), bindS]
      exact g1
end Go.Cq

set_option maxRecDepth 100000
namespace Go.Cq
open Go Go.Av
def cutMinus : Str → Str × Bool
 | [] => ([], false)
 | c :: r => if c = 45 then (r, true) else (c :: r, false)
def digOk (d : Str) (neg : Bool) : Bool := match d with
 | [] => false
 | c :: r => decide ((c :: r).length ≤ 700) && (!(decide (1 < (c :: r).length) && decide (c = 48)) && (!(neg && ((c :: r) == [48])) && (c :: r).all (between 48 57)))
def numOk (s : Str) : Bool := digOk (cutMinus s).1 (cutMinus s).2 && decide (dv 0 (digs (cutMinus s).1) < 2 ^ 2048)
theorem cutPrefix_eq (s : Str) (hs : s.length ≤ 1000000) : strings_CutPrefix s [45] = some (cutMinus s) := by
 unfold strings_CutPrefix internal_stringslite_CutPrefix internal_stringslite_HasPrefix
 cases s with
 | nil => rfl
 | cons c r =>
  have h1 : decide ((([45] : Str).length : Int) ≤ ((c :: r : Str).length : Int)) = true := by simp; omega
  have h2 : sub (c :: r) 0 (([45] : Str).length : Int) = some [c] := by
   rw [show (([45] : Str).length : Int) = ((1 : Nat) : Int) from rfl, sub0 (by simp)]; rfl
  have h3 : sub (c :: r) (([45] : Str).length : Int) ((c :: r : Str).length : Int) = some r := by
   unfold sub
   rw [if_pos ⟨by simp, by simp; omega, by simp⟩]
   simp
  rw [h1, if_pos rfl, h2, bindS, bindS, bindS]
  show _ = some (if c = 45 then (r, true) else (c :: r, false))
  by_cases hc : c = 45
  ·subst hc
   rw [if_pos rfl, show (([45] : Str) == [45]) = true from rfl, Bool.not_true, ifF, h3]
   rfl
  ·rw [if_neg hc, show (([c] : Str) == [45]) = false by simp [hc], Bool.not_false, if_pos rfl]
   rfl
theorem trimD (d : Str) : strings_Trim d [48, 49, 50, 51, 52, 53, 54, 55, 56, 57] = some (Lib.trimS d digitC) := trim_eq d digitC (by decide) (by decide)
theorem trimDB (d : Str) : (Lib.trimS d digitC == []) = d.all (between 48 57) := by
 rw [trimB]; congr 1; funext x; exact digit_contains x
theorem byte48 (c : UInt8) : decide ((c.toNat : Int) = 48) = decide (c = 48) := by
 have := u8_all (fun c => decide ((c.toNat : Int) = 48) == decide (c = 48)) (by decide +kernel) c
 simpa using this
theorem digits_eq (s : Str) (hs : s.length ≤ 1000000) : large_digits s = some (if digOk (cutMinus s).1 (cutMinus s).2 = true then ((cutMinus s).1, (cutMinus s).2, true) else ([], false, false)) := by
  unfold large_digits
  rw [cutPrefix_eq s hs, bindS]
  generalize (cutMinus s).1 = d
  generalize (cutMinus s).2 = neg
  cases d with
  | nil => rfl
  | cons c r =>
    rw [show ((c :: r : Str) == []) = false from rfl, ifF]
    rw [show digOk (c :: r) neg = (decide ((c :: r).length ≤ 700) && (!(decide (1 < (c :: r).length) && decide (c = 48)) && (!(neg && ((c :: r) == [48])) && (c :: r).all (between 48 57)))) from rfl]
    rcases Nat.lt_or_ge 700 (c :: r).length with h7 | h7
    · rw [decide_eq_true (by omega), if_pos rfl, bindS, if_pos rfl, decide_eq_false (by omega), Bool.false_and, ifF]
    rw [decide_eq_false (by omega), ifF, decide_eq_true h7, Bool.true_and, show (0 : Int) = ((0 : Nat) : Int) from rfl, sIdx_nat (s := c :: r) (j := 0) (c := c) rfl]
    simp only [bindS, byte48, trimD, trimDB]
    by_cases h1 : 1 < (c :: r).length
    · rw [decide_eq_true (by omega), if_pos rfl, decide_eq_true h1, Bool.true_and]
      cases decide (c = 48) with
      | true => rfl
      | false =>
        rw [ifF]
        cases neg with
        | false => rw [ifF]; cases (c :: r).all (between 48 57) <;> rfl
        | true =>
          rw [if_pos rfl]
          cases ((c :: r) == ([48] : Str)) with
          | true => rfl
          | false => rw [ifF]; cases (c :: r).all (between 48 57) <;> rfl
    · rw [decide_eq_false (by omega), ifF, decide_eq_false h1, Bool.false_and]
      cases neg with
      | false => rw [ifF]; cases (c :: r).all (between 48 57) <;> rfl
      | true =>
        rw [if_pos rfl]
        cases ((c :: r) == ([48] : Str)) with
        | true => rfl
        | false => rw [ifF]; cases (c :: r).all (between 48 57) <;> rfl
theorem digOk_all {d : Str} {neg : Bool} (h : digOk d neg = true) : d.all (between 48 57) = true ∧ d.length ≤ 700 := by
 cases d with
 | nil => cases h
 | cons c r =>
  simp only [digOk, Bool.and_eq_true, decide_eq_true_eq] at h
  exact ⟨h.2.2.2, h.1⟩
theorem number_eq (s : Str) (hs : s.length ≤ 1000000) : ((large_Parse s).bind fun v1 => some v1.2.isNone) = some (numOk s) := by
  unfold large_Parse numOk
  rw [digits_eq s hs, bindS]
  generalize (cutMinus s).1 = d
  generalize (cutMinus s).2 = neg
  cases hk : digOk d neg with
  | false => rfl
  | true =>
    rw [if_pos rfl, Bool.true_and]
    obtain ⟨ha, hl⟩ := digOk_all hk
    obtain ⟨m', g1, g2, g3, g4⟩ := l1_eq (d, neg, true) ha (by show d.length ≤ 1000; omega) d 0 fuel [] rfl (Nat.zero_le _) (by unfold fuel; omega) (fun x hx => by simp at hx) (Nat.le_refl _)
    rw [show (!((d, neg, true) : Str × Bool × Bool).2.2) = false from rfl, ifF]
    rw [show ((0 : Nat) : Int) = 0 from rfl] at g1
    rw [g1, bindS]
    unfold large_made large_cut
    have hc := lcut_eq m'.reverse fuel (by simp; unfold fuel; omega) (by simp; omega)
    rw [List.reverse_reverse] at hc
    rw [hc, bindS, bindS]
    have hlen := cutR_len (B := W32) (by decide) 64 m'.reverse (by rw [List.reverse_reverse]; exact g2)
    rw [List.reverse_reverse, g4] at hlen
    have hp : W32 ^ 64 = 2 ^ 2048 := by decide +kernel
    rw [hp, show wv W32 [] = 0 from rfl] at hlen
    rw [show ((cutR m'.reverse).reverse.length) = (cutR m'.reverse).length by simp]
    by_cases h64 : (cutR m'.reverse).length ≤ 64
    · rw [decide_eq_false (by omega), ifF, decide_eq_true (hlen.1 h64)]
      cases neg <;> rfl
    · rw [decide_eq_true (by omega), if_pos rfl, decide_eq_false (fun h => h64 (hlen.2 h))]
      rfl
end Go.Cq

