import Derived.Test.YtiboeelbmgnbgaaGreatDoorSpe
import Derived.KernelRfl
import Derived.Test.YtiboeelbmgnbgaaGreatDoorL1
set_option linter.unusedSectionVars false
set_option linter.unusedVariables false
set_option linter.unusedSimpArgs false
set_option linter.unnecessarySimpa false
set_option maxRecDepth 100000
namespace Go.Cq.X13
open Go.Cq
open Go Go.Av
theorem ck_succ {n : Nat} (h : n ≤ 8000000000000000000) : ck ((n : Int) + 1) = some ((n + 1 : Nat) : Int) := by
 unfold ck; rw [if_pos (by omega)]; rfl
theorem drop_cons {s : Str} {j : Nat} {b : UInt8} {r : Str} (h : s.drop j = b :: r) : s[j]? = some b ∧ s.drop (j + 1) = r ∧ j < s.length := by
 have h1 : s[j]? = some b := by
  have := congrArg (·[0]?) h
  simpa using this
 refine ⟨h1, ?_, ?_⟩
 ·have := congrArg (List.drop 1) h
  simpa [List.drop_drop, Nat.add_comm] using this
 ·exact (List.getElem?_eq_some_iff.1 h1).1
theorem drop_nil {s : Str} {j : Nat} (h : s.drop j = []) : s.length ≤ j := by simpa using h
theorem sIdx_drop {s : Str} {j : Nat} {b : UInt8} {r : Str} (h : s.drop j = b :: r) : sIdx s (j : Int) = some (b.toNat : Int) := by
 obtain ⟨h1, _, h3⟩ := drop_cons h
 unfold sIdx
 rw [if_pos (by omega)]
 simp [List.getD_eq_getElem?_getD, h1]
theorem lt_drop {s : Str} {j : Nat} {b : UInt8} {r : Str} (h : s.drop j = b :: r) : decide ((j : Int) < (s.length : Int)) = true := by
 have := (drop_cons h).2.2
 simp; omega
theorem ge_drop {s : Str} {j : Nat} (h : s.drop j = []) : decide ((j : Int) < (s.length : Int)) = false := by
 have := drop_nil h
 simp; omega
def sc (p : UInt8 → Bool) : Str → Nat
 | [] => 0
 | b :: r => bif p b then sc p r + 1 else 0
theorem sc_all {p : UInt8 → Bool} : ∀ {r : Str}, sc p r = r.length ↔ ∀ b, b ∈ r → p b = true
 | [] => by simp [sc]
 | b :: r => by
  unfold sc
  cases h : p b with
  | false => simp [h]
  | true => simp [h, sc_all (r := r)]
theorem many_l1 {s : Str} {f : Int → Option Bool} {p : UInt8 → Bool} (hf : ∀ b : UInt8, f (b.toNat : Int) = some (p b)) (hs : s.length ≤ 8000000000000000000) : ∀ (r : Str) (j q : Nat), s.drop j = r → r.length < q → j ≤ s.length → lex_many_l1 s f q (j : Int) = some ((j + sc p r : Nat) : Int)
 | [], j, q+1, h, hq, hj => by
  unfold lex_many_l1
  rw [ge_drop h]
  simp [sc]
 | b :: r, j, q+1, h, hq, hj => by
  obtain ⟨h1, h2, h3⟩ := drop_cons h
  unfold lex_many_l1
  rw [lt_drop h]
  simp only [if_true, sIdx_drop h, Option.bind_some, hf]
  unfold sc
  cases p b with
  | false => simp
  | true =>
   simp only [if_true, cond_true]
   rw [ck_succ (by omega), Option.bind_some, many_l1 hf hs r (j + 1) q h2 (by simp at hq; omega) h3]
   congr 2; omega
 | _, _, 0, _, hq, _ => by omega
theorem many_eq {s : Str} {f : Int → Option Bool} {p : UInt8 → Bool} (hf : ∀ b : UInt8, f (b.toNat : Int) = some (p b)) (hs : s.length ≤ 8000000000000000000) : lex_many s f = some ((sc p s : Nat) : Int) := by
 unfold lex_many
 have := many_l1 hf hs s 0 fuel rfl (by unfold fuel; omega) (Nat.zero_le _)
 rw [Nat.zero_add] at this
 show (lex_many_l1 s f fuel ((0 : Nat) : Int)).bind _ = _
 rw [this]; rfl
def cl (b : UInt8) : Int := (ref13_class (b.toNat : Int)).getD 0
def pL (b : UInt8) : Bool := cl b == 97
def pD (b : UInt8) : Bool := cl b == 48
def pB (b : UInt8) : Bool := cl b == 43
def pE (b : UInt8) : Bool := cl b == 97 || cl b == 48
theorem allB {p : UInt8 → Bool} (h : (List.range 256).all (fun n => p (UInt8.ofNat n)) = true) (b : UInt8) : p b = true := by
 have := List.all_eq_true.1 h b.toNat (by simpa using UInt8.toNat_lt b)
 simpa using this
theorem class_eq (b : UInt8) : ref13_class (b.toNat : Int) = some (cl b) := by
 have := allB (p := fun b => ref13_class (b.toNat : Int) == some (cl b)) (by kernel_rfl) b
 simpa using this
theorem letter_eq (b : UInt8) : lex_letter (b.toNat : Int) = some (pL b) := by
 have := allB (p := fun b => lex_letter (b.toNat : Int) == some (pL b)) (by kernel_rfl) b
 simpa using this
theorem digit_eq (b : UInt8) : lex_digit (b.toNat : Int) = some (pD b) := by
 have := allB (p := fun b => lex_digit (b.toNat : Int) == some (pD b)) (by kernel_rfl) b
 simpa using this
theorem idxB_pos {s : List UInt8} {c : UInt8} : 0 ≤ idxB s c ↔ c ∈ s := by
 letI : Lay := ⟨fun _ _ _ => False, fun _ _ => False, fun _ _ => False⟩
 rw [idxB_spec]
 cases h : s.findIdx? (· == c) with
 | none =>
  have : ∀ x, x ∈ s → ¬ (x == c) = true := by simpa using List.findIdx?_eq_none_iff.1 h
  constructor
  ·intro h; exact absurd h (by decide)
  ·intro hm; exact absurd (by simp) (this c hm)
 | some i =>
  have := List.findIdx?_eq_some_iff_getElem.1 h
  obtain ⟨hi, h2, _⟩ := this
  constructor
  ·intro _; have : s[i] = c := by simpa using h2
   rw [← this]; exact List.getElem_mem hi
  ·intro _; exact Int.natCast_nonneg i
theorem ofNat_toNat (b : UInt8) : UInt8.ofNat ((b.toNat : Int)).toNat = b := by simp
theorem idxByte_eq (s : Str) (b : UInt8) : strings_IndexByte s (b.toNat : Int) = some (idxB s b) := by
 unfold strings_IndexByte internal_stringslite_IndexByte bytealg_idx
 simp only [Option.bind_some, ofNat_toNat]
def pBn (n : Nat) : Bool := n == 43 || n == 45 || n == 42 || n == 47 || n == 92 || n == 60 || n == 62 || n == 61 || n == 126 || n == 44
theorem pBn_eq (b : UInt8) : pB b = pBn b.toNat := by
 have := allB (p := fun b => pB b == pBn b.toNat) (by kernel_rfl) b
 simpa using this
theorem pB_eq (b : UInt8) : pB b = decide (b ∈ [43, 45, 42, 47, 92, 60, 62, 61, 126, (44 : UInt8)]) := by
 rw [pBn_eq, Bool.eq_iff_iff]
 simp [pBn, ← UInt8.toNat_inj, or_assoc]
theorem bin_eq (b : UInt8) : lex_bin (b.toNat : Int) = some (pB b) := by
 unfold lex_bin
 rw [idxByte_eq, Option.bind_some, pB_eq]
 congr 1
 rw [decide_eq_decide]
 exact idxB_pos
theorem either_eq (b : UInt8) : lex_either (b.toNat : Int) = some (pE b) := by
  unfold lex_either
  rw [digit_eq, Option.bind_some, letter_eq]
  unfold pE pD pL
  cases cl b == 48 <;> cases cl b == 97 <;> rfl
theorem all_step {s r : Str} {x y : Int} {K : Unit → Option Bool} {b : UInt8} {j q : Nat} (h : s.drop j = b :: r) (hj : j ≤ 8000000000000000000) :
  ref13_all_l1 s x y K (q + 1) (j : Int) = bif cl b == x || cl b == y then ref13_all_l1 s x y K q ((j + 1 : Nat) : Int) else some false := by
 rw [ref13_all_l1]
 rw [lt_drop h, if_pos rfl, sIdx_drop h, Option.bind_some, class_eq, Option.bind_some, ck_succ hj]
 generalize cl b = z
 by_cases e1 : z = x
 ·rw [decide_eq_true e1, beq_iff_eq.2 e1]; rfl
 ·by_cases e2 : z = y
  ·rw [decide_eq_false e1, decide_eq_true e2, beq_iff_eq.2 e2, Bool.or_true]; rfl
  ·rw [decide_eq_false e1, decide_eq_false e2, beq_eq_false_iff_ne.2 e1, beq_eq_false_iff_ne.2 e2]; rfl
theorem all_end {s : Str} {x y : Int} {K : Unit → Option Bool} {j q : Nat} (h : s.drop j = []) : ref13_all_l1 s x y K (q + 1) (j : Int) = K () := by
 rw [ref13_all_l1]
 rw [ge_drop h]; rfl
theorem all_l1 {s : Str} {x y : Int} {K : Unit → Option Bool} (hs : s.length ≤ 8000000000000000000) : ∀ (r : Str) (j q : Nat), s.drop j = r → r.length < q → j ≤ s.length → ref13_all_l1 s x y K q (j : Int) = if (r.all fun b => cl b == x || cl b == y) then K () else some false
  | [], j, q+1, h, hq, hj => all_end h
  | b :: r, j, q+1, h, hq, hj => by
    obtain ⟨h1, h2, h3⟩ := drop_cons h
    rw [all_step h (Nat.le_trans hj hs), all_l1 hs r (j + 1) q h2 (by simp at hq; omega) h3, List.all_cons]
    cases cl b == x || cl b == y <;> rfl
  | _, _, 0, _, hq, _ => absurd hq (Nat.not_lt_zero _)
theorem all_eq {s : Str} {x y : Int} (hs : s.length ≤ 8000000000000000000) : ref13_all s x y = some (s.all fun b => cl b == x || cl b == y) := by
  have := all_l1 (x := x) (y := y) (K := fun _ => some true) hs s 0 fuel rfl (by unfold fuel; omega) (Nat.zero_le _)
  show ref13_all_l1 s x y (fun _ => some true) fuel ((0 : Nat) : Int) = _
  rw [this]
  cases s.all fun b => cl b == x || cl b == y <;> rfl
theorem sc_dec {p : UInt8 → Bool} {s : Str} : decide (((sc p s : Nat) : Int) = (s.length : Int)) = s.all p := by
 have : (((sc p s : Nat) : Int) = (s.length : Int)) ↔ sc p s = s.length := by omega
 rw [Bool.eq_iff_iff]
 simp [this, sc_all]
end Go.Cq.X13

set_option maxRecDepth 100000
namespace Go.Cq.X13
open Go.Cq
open Go Go.Av
theorem sIdx_zero {b : UInt8} {r : Str} : sIdx (b :: r) 0 = some (b.toNat : Int) := sIdx_drop (s := b :: r) (j := 0) rfl
def nmB : Str → Bool
 | [] => false
 | b :: r => decide (((b :: r).length : Int) ≤ 64) && (pL b && (b :: r).all pE)
theorem nmB_cons {b : UInt8} {r : Str} : nmB (b :: r) = (decide (((b :: r).length : Int) ≤ 64) && (pL b && (b :: r).all pE)) := rfl
theorem named_eq {s : Str} (hs : s.length ≤ 8000000000000000000) : lex_named s = some (nmB s) := by
  cases s with
  | nil => rfl
  | cons b r =>
    unfold lex_named
    rw [nmB_cons, sIdx_zero, Option.bind_some, letter_eq, Option.bind_some, many_eq (p := pE) either_eq hs, Option.bind_some, sc_dec]
    have e : (!(b :: r == [])) = true := rfl
    rw [e, if_pos rfl]
    cases decide (((b :: r).length : Int) ≤ 64) <;> cases pL b <;> rfl
def nuB : Str → Bool
 | [] => false
 | b :: r => decide (((b :: r).length : Int) ≤ 700) && ((b :: r).all pD && (decide (((b :: r).length : Int) = 1) || !decide ((b.toNat : Int) = 48)))
theorem nuB_cons {b : UInt8} {r : Str} : nuB (b :: r) = (decide (((b :: r).length : Int) ≤ 700) && ((b :: r).all pD && (decide (((b :: r).length : Int) = 1) || !decide ((b.toNat : Int) = 48)))) := rfl
theorem number_eq {s : Str} (hs : s.length ≤ 8000000000000000000) : lex_number s = some (nuB s) := by
  cases s with
  | nil => rfl
  | cons b r =>
    unfold lex_number
    rw [nuB_cons, many_eq (p := pD) digit_eq hs, Option.bind_some, sc_dec, sIdx_zero, Option.bind_some]
    have e : (!(b :: r == [])) = true := rfl
    rw [e, if_pos rfl]
    cases decide (((b :: r).length : Int) ≤ 700) <;> cases (b :: r).all pD <;> cases decide ((b.toNat : Int) = 48) <;> cases decide (((b :: r).length : Int) = 1) <;> rfl
def biB : Str → Bool
 | [] => false
 | b :: r => decide (((b :: r).length : Int) ≤ 2) && (b :: r).all pB
theorem biB_cons {b : UInt8} {r : Str} : biB (b :: r) = (decide (((b :: r).length : Int) ≤ 2) && (b :: r).all pB) := rfl
def mayB (K : Int) (S : Str) (At : Int) : Bool :=
 if At < 0 then false else if K = 0 ∨ K = 1 ∨ K = 5 then nmB S else if K = 2 then biB S else if K = 3 then nuB S else if K = 4 then decide ((S.length : Int) ≤ 1024) else decide (K ≤ 16) && (S == [])
theorem may_eq {w : lWd} (hs : w.S.length ≤ 8000000000000000000) : lex_May w = some (mayB w.K w.S w.At) := by
  obtain ⟨K, S, At⟩ := w
  simp only at hs
  unfold lex_May mayB
  simp only
  by_cases h0 : At < 0
  · simp only [h0, decide_true, if_true]
  simp only [h0, decide_false, if_false, Bool.false_eq_true]
  by_cases k0 : K = 0
  · subst k0; simp only [decide_true, if_true, Option.bind_some, named_eq hs, true_or]
  by_cases k1 : K = 1
  · subst k1; simp [named_eq hs]
  by_cases k5 : K = 5
  · subst k5; simp [named_eq hs]
  simp only [k0, k1, k5, decide_false, decide_true, Bool.false_eq_true, if_false, Option.bind_some, or_self]
  by_cases k2 : K = 2
  · simp only [k2, decide_true, if_true]
    cases S with
    | nil => rfl
    | cons b r =>
      rw [many_eq (p := pB) bin_eq hs, Option.bind_some, sc_dec]
      have e : (!(b :: r == [])) = true := rfl
      rw [e, if_pos rfl]
      rw [biB_cons]
      cases decide (((b :: r).length : Int) ≤ 2) <;> cases (b :: r).all pB <;> rfl
  simp only [k2, decide_false, Bool.false_eq_true, if_false]
  by_cases k3 : K = 3
  · simp only [k3, decide_true, if_true, number_eq hs, Option.bind_some]
  simp only [k3, decide_false, Bool.false_eq_true, if_false]
  by_cases k4 : K = 4
  · simp only [k4, decide_true, if_true]
  simp only [k4, decide_false, Bool.false_eq_true, if_false]
theorem all_E (s : Str) : (s.all fun b => cl b == 97 || cl b == 48) = s.all pE := rfl
theorem all_B (s : Str) : (s.all fun b => cl b == 43 || cl b == 43) = s.all pB := by congr 1; funext b; exact Bool.or_self _
theorem all_D (s : Str) : (s.all fun b => cl b == 48 || cl b == 48) = s.all pD := by congr 1; funext b; exact Bool.or_self _
theorem pL_dec (b : UInt8) : decide (cl b = 97) = pL b := by unfold pL; rw [Bool.eq_iff_iff]; simp
theorem rmay_eq {w : rWd} (hs : w.S.length ≤ 8000000000000000000) : ref13_May w = some (mayB w.K w.S w.At) := by
  obtain ⟨K, S, At⟩ := w
  simp only at hs
  unfold ref13_May mayB
  simp only
  by_cases h0 : At < 0
  · simp only [h0, decide_true, if_true, Bool.true_or]
  by_cases h16 : 16 < K
  · have e1 : ¬ (K = 0 ∨ K = 1 ∨ K = 5) := by omega
    have e2 : K ≠ 2 := by omega
    have e3 : K ≠ 3 := by omega
    have e4 : K ≠ 4 := by omega
    have e5 : ¬ K ≤ 16 := by omega
    simp [h0, h16, e1, e2, e3, e4, e5]
  simp only [h0, h16, decide_false, if_false, Bool.false_eq_true, Bool.or_self]
  have l1 : ∀ (b : UInt8) (r : Str), decide ((1 : Int) ≤ ((b :: r).length : Int)) = true := fun b r => by simp; omega
  by_cases hk : K = 0 ∨ K = 1 ∨ K = 5
  · have : ((decide (K = 0) || decide (K = 1)) || decide (K = 5)) = true := by rcases hk with rfl | rfl | rfl <;> rfl
    rw [this, if_pos rfl, if_pos hk]
    cases S with
    | nil => rfl
    | cons b r =>
      rw [l1, if_pos rfl, all_eq hs, Option.bind_some, sIdx_zero, Option.bind_some, class_eq, Option.bind_some, all_E, pL_dec]
      rw [nmB_cons]
      cases decide (((b :: r).length : Int) ≤ 64) <;> cases pL b <;> cases (b :: r).all pE <;> rfl
  have : ((decide (K = 0) || decide (K = 1)) || decide (K = 5)) = false := by
    have a : K ≠ 0 := fun e => hk (.inl e)
    have b : K ≠ 1 := fun e => hk (.inr (.inl e))
    have c : K ≠ 5 := fun e => hk (.inr (.inr e))
    simp [a, b, c]
  rw [this, if_neg (by simp), if_neg hk]
  by_cases k2 : K = 2
  · simp only [k2, decide_true, if_true]
    cases S with
    | nil => rfl
    | cons b r =>
      rw [l1, if_pos rfl, all_eq hs, Option.bind_some, all_B]
      rw [biB_cons]
      cases decide (((b :: r).length : Int) ≤ 2) <;> cases (b :: r).all pB <;> rfl
  simp only [k2, decide_false, Bool.false_eq_true, if_false]
  by_cases k3 : K = 3
  · simp only [k3, decide_true, if_true]
    cases S with
    | nil => rfl
    | cons b r =>
      rw [l1, if_pos rfl, all_eq hs, Option.bind_some, all_D, sIdx_zero, Option.bind_some]
      rw [nuB_cons]
      cases decide (((b :: r).length : Int) ≤ 700) <;> cases (b :: r).all pD <;> cases decide ((b.toNat : Int) = 48) <;> cases decide (((b :: r).length : Int) = 1) <;> rfl
  simp only [k3, decide_false, Bool.false_eq_true, if_false]
  by_cases k4 : K = 4
  · simp only [k4, decide_true, if_true]
  simp only [k4, decide_false, Bool.false_eq_true, if_false]
  have : decide (K ≤ 16) = true := by simp; omega
  rw [this, Bool.true_and]
end Go.Cq.X13

set_option maxRecDepth 100000
namespace Go.Cq.X13
open Go.Cq
open Go Go.Av
theorem byte_dec {b : UInt8} (n : Nat) (hn : n < 256) : decide ((b.toNat : Int) = (n : Int)) = decide (b = UInt8.ofNat n) := by
 rw [decide_eq_decide]
 constructor
 ·intro h; have : b.toNat = n := by omega
  rw [← this]; simp
 ·rintro rfl; simp [UInt8.toNat_ofNat', Nat.mod_eq_of_lt hn]
theorem dec39 (b : UInt8) : decide ((b.toNat : Int) = 39) = decide (b = 39) := byte_dec 39 (by omega)
section
variable {s r : Str} {K : List Int → Option (Str × Int × Bool)} {b c : UInt8} {j q : Nat} {acc : List Int}
end
end Go.Cq.X13

set_option maxRecDepth 100000
namespace Go.Cq.X13
open Go.Cq
open Go Go.Av
section
variable {s : Str} (hs : s.length ≤ 90000)
include hs
end
end Go.Cq.X13

set_option maxRecDepth 100000
namespace Go.Cq.X13
open Go.Cq
open Go Go.Av
def mks : Str := [94, 59, 46, 40, 41, 91, 93, 124, 123, 125]
end Go.Cq.X13

set_option maxRecDepth 100000
namespace Go.Cq.X13
open Go.Cq
open Go Go.Av
end Go.Cq.X13

set_option maxRecDepth 100000
namespace Go.Cq.X13
open Go.Cq
open Go Go.Av
end Go.Cq.X13

set_option maxRecDepth 100000
namespace Go.Cq.X13
open Go.Cq
open Go Go.Av
theorem ofInts_toInts (s : Str) : ofInts (toInts s) = s := by
 unfold ofInts toInts
 rw [List.map_map]
 have : (fun n : Int => UInt8.ofNat n.toNat) ∘ (fun c : UInt8 => (c.toNat : Int)) = id := by funext c; simp
 rw [this, List.map_id]
end Go.Cq.X13

set_option maxRecDepth 100000
namespace Go.Cq.X13
open Go.Cq
open Go Go.Av
end Go.Cq.X13

set_option maxRecDepth 100000
namespace Go.Cq.X13
open Go.Cq
open Go Go.Av
def code : Option Int → Int
 | none => 0
 | some n => n
end Go.Cq.X13

set_option maxRecDepth 100000
namespace Go.Cq.X13
open Go.Cq
open Go Go.Av
def dbl : Str → Str
 | [] => []
 | b :: r => if b = 39 then 39 :: 39 :: dbl r else b :: dbl r
theorem dbl_len : ∀ s : Str, (dbl s).length ≤ 2 * s.length
  | [] => by simp [dbl]
  | b :: r => by
    have := dbl_len r
    unfold dbl; split <;> simp <;> omega
theorem replaceK_dbl : ∀ s : Str, Lib.replaceK [39] [39, 39] (Lib.count s [39]) s = dbl s
 | [] => rfl
 | b :: r => by
  have ih := replaceK_dbl r
  by_cases hb : b = 39
  ·subst hb
   rw [Lib.count_cons_eq, Nat.add_comm, Lib.replaceK_hit (i := 0) _ _ _ _ (by simp [Lib.index_one, Lib.indexByte])]
   simp [dbl, ih]
  ·rw [Lib.count_cons_ne _ _ _ hb]
   unfold dbl; rw [if_neg hb]
   cases hk : Lib.count r [39] with
   | zero => rw [hk] at ih; simp only [Lib.replaceK] at ih ⊢; rw [← ih]
   | succ k =>
    rw [hk] at ih
    obtain ⟨i, hi⟩ := Lib.index_of_count (s := r) (old := [39]) (by omega)
    rw [Lib.replaceK_hit _ _ _ _ i hi] at ih
    have h2 : Lib.index (b :: r) [39] = ((i + 1 : Nat) : Int) := by
     rw [Lib.index_one] at hi ⊢
     unfold Lib.indexByte
     have hb2 : (b == 39) = false := by simpa using hb
     simp only [hb2]
     simp [hi]
    rw [Lib.replaceK_hit _ _ _ _ (i + 1) h2, ← ih]
    simp [Nat.add_right_comm]
theorem replaceAll_dbl (s : Str) : Lib.replaceAll s [39] [39, 39] = dbl s := by
 unfold Lib.replaceAll Lib.replace Lib.replaceNum
 rw [if_neg (by decide), if_pos (by left; decide)]
 exact replaceK_dbl s
theorem ra_eq {s : Str} (hs : s.length ≤ 100000) : strings_ReplaceAll s [39] [39, 39] = some (dbl s) := by
 unfold strings_ReplaceAll replaceAllS
 have := dbl_len s
 rw [replaceAll_dbl, if_pos]
 refine ⟨by omega, by simp, ?_, by unfold maxB; omega⟩
 have h2 : Lib.countB ⟨s.toArray⟩ ⟨[39].toArray⟩ ≤ s.length + 1 := by
  unfold Lib.countB; exact Lib.count_le _ _
 simp; omega
end Go.Cq.X13

set_option maxRecDepth 100000
namespace Go.Cq.X13
open Go.Cq
open Go Go.Av
def mkc (K : Int) : UInt8 := mks.getD (K - 7).toNat 0
def wrtB (K : Int) (S : Str) : Str :=
 if K = 1 then S ++ [58] else if K = 5 then 58 :: S else if K = 4 then 39 :: (dbl S ++ [39]) else if K = 6 then [58, 61] else if K = 0 ∨ K = 2 ∨ K = 3 then S else [mkc K]
theorem kinds {K : Int} (h0 : 0 ≤ K) (h1 : K ≤ 16) : K = 0 ∨ K = 1 ∨ K = 2 ∨ K = 3 ∨ K = 4 ∨ K = 5 ∨ K = 6 ∨ K = 7 ∨ K = 8 ∨ K = 9 ∨ K = 10 ∨ K = 11 ∨ K = 12 ∨ K = 13 ∨ K = 14 ∨ K = 15 ∨ K = 16 := by omega
theorem write_eq {w : lWd} (hs : w.S.length ≤ 100000) (h0 : 0 ≤ w.K) (h1 : w.K ≤ 16) : lex_write w = some (wrtB w.K w.S) := by
 obtain ⟨K, S, At⟩ := w
 simp only at hs h0 h1
 have hd := dbl_len S
 have hw : wrtB 0 S = S ∧ wrtB 2 S = S ∧ wrtB 3 S = S ∧ wrtB 1 S = S ++ [58] ∧ wrtB 5 S = 58 :: S ∧ wrtB 4 S = 39 :: (dbl S ++ [39]) := by simp [wrtB]
 obtain ⟨e0, e2, e3, e1, e5, e4⟩ := hw
 rcases kinds h0 h1 with rfl | rfl | rfl | rfl | rfl | rfl | rfl | rfl | rfl | rfl | rfl | rfl | rfl | rfl | rfl | rfl | rfl
 ·simp only [e0]; rfl
 ·simp only [e1]; show (cat S [58]).bind _ = _; rw [cat_of (by simp; omega)]; rfl
 ·simp only [e2]; rfl
 ·simp only [e3]; rfl
 ·simp only [e4]
  show (strings_ReplaceAll S [39] [39, 39]).bind _ = _
  rw [ra_eq (by omega), Option.bind_some, cat_of (by simp; omega), Option.bind_some, cat_of (by simp; omega), Option.bind_some]; simp
 ·simp only [e5]; show (cat [58] S).bind _ = _; rw [cat_of (by simp; omega)]; rfl
 all_goals rfl
def quoL : Str → List Int
 | [] => []
 | b :: r => if b = 39 then 39 :: 39 :: quoL r else (b.toNat : Int) :: quoL r
theorem quoL_eq : ∀ s : Str, quoL s = toInts (dbl s)
 | [] => rfl
 | b :: r => by
  unfold quoL dbl
  by_cases hb : b = 39
  ·rw [if_pos hb, if_pos hb, quoL_eq r]; rfl
  ·rw [if_neg hb, if_neg hb, quoL_eq r]; rfl
theorem one_l1 {K : Int} {S : Str} {At : Int} (hs : S.length ≤ 100000) : ∀ (r : Str) (j q : Nat) (acc : List Int), S.drop j = r → j ≤ S.length → r.length < q → acc.length + 2 * r.length ≤ 400000 →
  ref13_One_l1 ⟨K, S, At⟩ q acc (j : Int) = some (acc ++ quoL r)
 | [], j, q+1, acc, h, hj, _, _ => by
  rw [ref13_One_l1, ge_drop h]; simp [quoL]
 | b :: r, j, q+1, acc, h, hj, hq, ha => by
  obtain ⟨h1, h2, h3⟩ := drop_cons h
  rw [List.length_cons] at hq ha
  rw [ref13_One_l1, lt_drop h, if_pos rfl, sIdx_drop h, Option.bind_some, app_of (by simp; omega) (by simp; omega), Option.bind_some, dec39]
  unfold quoL
  by_cases hb : b = 39
  ·subst hb
   simp only [decide_true, if_true]
   rw [app_of (by simp; omega) (by simp; omega), Option.bind_some, Option.bind_some, ck_succ (by omega), Option.bind_some, one_l1 hs r (j+1) q _ h2 h3 (by omega) (by simp; omega)]
   simp
  ·simp only [hb, decide_false, if_false, Bool.false_eq_true]
   rw [Option.bind_some, ck_succ (by omega), Option.bind_some, one_l1 hs r (j+1) q _ h2 h3 (by omega) (by simp; omega)]
   simp
 | _, _, 0, _, _, _, hq, _ => by omega
theorem nm_ne {s : Str} (h : nmB s = true) : s ≠ [] := by rintro rfl; cases h
theorem rone_eq {w : rWd} (hs : w.S.length ≤ 100000) (h0 : 0 ≤ w.K) (hm : mayB w.K w.S w.At = true) : ref13_One w = some (toInts (wrtB w.K w.S)) := by
 obtain ⟨K, S, At⟩ := w
 simp only at hs h0 hm
 have h1 : K ≤ 16 := by
  unfold mayB at hm
  split at hm
  ·cases hm
  ·split at hm
   ·omega
   ·split at hm
    ·omega
    ·split at hm
     ·omega
     ·split at hm
      ·omega
      ·simp at hm; exact hm.1
 have hd := dbl_len S
 have hl : (toInts S).length = S.length := by simp [toInts]
 have hw : wrtB 0 S = S ∧ wrtB 2 S = S ∧ wrtB 3 S = S ∧ wrtB 1 S = S ++ [58] ∧ wrtB 5 S = 58 :: S ∧ wrtB 4 S = 39 :: (dbl S ++ [39]) := by simp [wrtB]
 obtain ⟨e0, e2, e3, e1, e5, e4⟩ := hw
 rcases kinds h0 h1 with rfl | rfl | rfl | rfl | rfl | rfl | rfl | rfl | rfl | rfl | rfl | rfl | rfl | rfl | rfl | rfl | rfl
 ·simp only [e0]; rfl
 ·simp only [e1]
  have hne : S ≠ [] := by
   unfold mayB at hm
   split at hm
   ·cases hm
   ·rw [if_pos (by omega)] at hm; exact nm_ne hm
  show (bytesO S).bind _ = _
  unfold bytesO
  rw [if_neg hne, Option.bind_some, app_of (by simp [hl]; omega) (by simp [hl]; omega), Option.bind_some]
  simp [toInts]
 ·simp only [e2]; rfl
 ·simp only [e3]; rfl
 ·simp only [e4]
  show ((ref13_One_l1 ⟨4, S, At⟩ fuel [39] ((0 : Nat) : Int)).bind fun y13 => (app 1 y13 [39]).bind fun v34 => some v34) = _
  have hq : (quoL S).length ≤ 2 * S.length := by rw [quoL_eq]; simpa [toInts] using hd
  rw [one_l1 hs S 0 fuel [39] rfl (Nat.zero_le _) (by unfold fuel; omega) (by simp; omega), Option.bind_some, app_of (by simp; omega) (by simp; omega), Option.bind_some, quoL_eq]
  simp [toInts]
 ·simp only [e5]; show (app 1 [58] (toInts S)).bind _ = _; rw [app_of (by simp [hl]; omega) (by simp [hl]; omega)]; simp [toInts]
 all_goals rfl
def okW (w : rWd) : Bool := mayB w.K w.S w.At
def ucv (w : rWd) : lWd := ⟨w.K, w.S, w.At⟩
def pc (w : rWd) : Str := wrtB w.K w.S
def fits : Nat → List Str → Bool
 | _, [] => true
 | n, p :: r => if 65537 < n + (p.length + 1) then false else fits (n + (p.length + 1)) r
def textB (l : List rWd) : Str × Option Int :=
 if l.all okW then (if fits 0 (l.map pc) then (Lib.join (l.map pc) [32], none) else ([], some 4)) else ([], some 1)
structure Sm (l : List rWd) : Prop where
 len : l.length ≤ 100000
 word : ∀ w, w ∈ l → w.S.length ≤ 1000000 ∧ 0 ≤ w.K
theorem may_len {K At : Int} {S : Str} (hm : mayB K S At = true) : K ≤ 16 ∧ S.length ≤ 1024 := by
 unfold mayB at hm
 split at hm
 ·cases hm
 ·split at hm
  ·cases S with
   | nil => simp; omega
   | cons b r => rw [nmB_cons] at hm; simp only [Bool.and_eq_true, decide_eq_true_eq] at hm; omega
  ·split at hm
   ·cases S with
    | nil => simp; omega
    | cons b r => rw [biB_cons] at hm; simp only [Bool.and_eq_true, decide_eq_true_eq] at hm; omega
   ·split at hm
    ·cases S with
     | nil => simp; omega
     | cons b r => rw [nuB_cons] at hm; simp only [Bool.and_eq_true, decide_eq_true_eq] at hm; omega
    ·split at hm
     ·have := of_decide_eq_true hm; omega
     ·simp only [Bool.and_eq_true, decide_eq_true_eq, beq_iff_eq] at hm; rw [hm.2]; simp; exact hm.1
theorem pc_len {w : rWd} (hm : okW w = true) : (pc w).length ≤ 2050 := by
 have := may_len hm
 have hd := dbl_len w.S
 unfold pc wrtB
 split
 ·simp; omega
 ·split
  ·simp; omega
  ·split
   ·simp; omega
   ·split
    ·simp
    ·split
     ·omega
     ·simp
theorem textl_1 {l : List rWd} (hl : Sm l) (K2 : Unit → Option (Str × Option Int)) : lex_Text_l1 (l.map ucv) K2 fuel 0 = if l.all okW then K2 () else some ([], some 1) := by
  have hlen := hl.len
  rw [loopI_run (F := fun q (_ : Unit) j => lex_Text_l1 (l.map ucv) K2 q j) (l := l.map ucv) (g := fun j x _ k => if mayB x.K x.S x.At then k () else some ([], some 1)) (K := fun _ => K2 ()) (s := ())]
  · clear hlen
    have : ∀ (r : List rWd) (j : Nat), loopI (fun j (x : lWd) (_ : Unit) k => if mayB x.K x.S x.At then k () else some (([], some 1) : Str × Option Int)) (fun _ => K2 ()) j (r.map ucv) () = if r.all okW then K2 () else some ([], some 1) := by
      intro r
      induction r with
      | nil => intro j; rfl
      | cons w r ih =>
        intro j
        simp only [List.map_cons, loopI, List.all_cons]
        rw [ih (j+1)]
        show (if okW w = true then _ else _) = _
        by_cases hw : okW w = true <;> simp [hw]
    exact this l 0
  · intro q s j x hx hj
    have hj2 : j < l.length := by simpa using hj
    obtain ⟨w, hw, rfl⟩ : ∃ w, w ∈ l ∧ ucv w = x := by
      have := List.mem_of_getElem? hx
      simpa using this
    show lex_Text_l1 (l.map ucv) K2 (q+1) (j : Int) = _
    rw [lex_Text_l1, lt_len hj, if_pos rfl, lAt_nat hx, Option.bind_some, may_eq (by have := (hl.word w hw).1; show w.S.length ≤ _; omega), Option.bind_some]
    cases mayB (ucv w).K (ucv w).S (ucv w).At
    · simp
    · simp only [Bool.not_true, Bool.false_eq_true, if_false, if_true]
      rw [cks (by omega), Option.bind_some]
  · intro q s
    show lex_Text_l1 (l.map ucv) K2 (q+1) _ = _
    rw [lex_Text_l1, ge_len]; rfl
  · rw [List.length_map]; unfold fuel; omega
theorem textr_1 {l : List rWd} (hl : Sm l) (K2 : Unit → Option (Str × Int)) : ref13_Text_l1 l K2 fuel 0 = if l.all okW then K2 () else some ([], 1) := by
  have hlen := hl.len
  rw [loopI_run (F := fun q (_ : Unit) j => ref13_Text_l1 l K2 q j) (l := l) (g := fun j x _ k => if okW x then k () else some ([], 1)) (K := fun _ => K2 ()) (s := ())]
  · clear hlen
    have : ∀ (r : List rWd) (j : Nat), loopI (fun j (x : rWd) (_ : Unit) k => if okW x then k () else some (([], 1) : Str × Int)) (fun _ => K2 ()) j r () = if r.all okW then K2 () else some ([], 1) := by
      intro r
      induction r with
      | nil => intro j; rfl
      | cons w r ih =>
        intro j
        simp only [loopI, List.all_cons]
        rw [ih (j+1)]
        by_cases hw : okW w = true <;> simp [hw]
    exact this l 0
  · intro q s j x hx hj
    have hw : x ∈ l := List.mem_of_getElem? hx
    show ref13_Text_l1 l K2 (q+1) (j : Int) = _
    rw [ref13_Text_l1, lt_len hj, if_pos rfl, lAt_nat hx, Option.bind_some, rmay_eq (by have := (hl.word x hw).1; omega), Option.bind_some]
    show (if (!okW x) = true then _ else _) = _
    cases okW x
    · simp
    · simp only [Bool.not_true, Bool.false_eq_true, if_false, if_true]
      rw [cks (by omega), Option.bind_some]
  · intro q s
    show ref13_Text_l1 l K2 (q+1) _ = _
    rw [ref13_Text_l1, ge_len]; rfl
  · unfold fuel; omega
theorem textl_2 {l : List rWd} (hl : Sm l) (hall : ∀ w, w ∈ l → okW w = true) (K11 : List Str → Option (Str × Option Int)) : ∀ (r : List rWd) (j q n : Nat) (acc : List Str), l.drop j = r → j ≤ l.length → r.length < q → n ≤ 100000 → acc.length ≤ j →
    lex_Text_l2 (l.map ucv) K11 q (n : Int) acc (j : Int) = if fits n (r.map pc) then K11 (acc ++ r.map pc) else some ([], some 4)
  | [], j, q+1, n, acc, h, hj, _, _, _ => by
    have : j = l.length := by have : l.length ≤ j := by simpa using h
                              omega
    subst this
    rw [lex_Text_l2, show (l.length : Int) = ((l.map ucv).length : Int) by simp, ge_len]
    simp [fits]
  | w :: r, j, q+1, n, acc, h, hj, hq, hn, ha => by
    obtain ⟨h1, h2, h3⟩ := getDrop h
    have hlen := hl.len
    have hw : w ∈ l := List.mem_of_getElem? h1
    have hok := hall w hw
    have hm := may_len hok
    have hp := pc_len hok
    rw [List.length_cons] at hq
    have e1 : lex_write (ucv w) = some (pc w) := write_eq (w := ucv w) (by show w.S.length ≤ _; omega) (hl.word w hw).2 hm.1
    have e2 : ((n : Int) + ((pc w).length + 1 : Nat)) = ((n + ((pc w).length + 1) : Nat) : Int) := by omega
    rw [lex_Text_l2, lt_len (by simpa using h3), if_pos rfl, lAt_nat (x := ucv w) (by simp [h1]), Option.bind_some, e1, Option.bind_some, cks (by omega), Option.bind_some, e2, ckn (by omega), Option.bind_some]
    rw [List.map_cons, fits]
    by_cases hc : 65537 < n + ((pc w).length + 1)
    · rw [if_pos hc, if_pos (by simp only [decide_eq_true_eq]; omega)]; simp
    · rw [if_neg hc, if_neg (by simp only [decide_eq_true_eq]; omega), app_of (by simp; omega) (by simp; omega), Option.bind_some, cks (by omega), Option.bind_some,
        textl_2 hl hall K11 r (j+1) q _ _ h2 h3 (by omega) (by omega) (by simp; omega), List.append_assoc]
      rfl
  | _, _, 0, _, _, _, _, hq, _, _ => by omega
theorem toInts_len (s : Str) : (toInts s).length = s.length := by simp [toInts]
theorem textr_end {l : List rWd} {q j : Nat} {acc : List Int} (h : 65536 < acc.length) : ref13_Text_l2 l (q+1) acc (j : Int) = some acc := by
 rw [ref13_Text_l2]
 have : decide ((acc.length : Int) ≤ 65536) = false := by simp; omega
 rw [this, Bool.and_false]; rfl
theorem textr_2 {l : List rWd} (hl : Sm l) (hall : ∀ w, w ∈ l → okW w = true) : ∀ (r : List rWd) (j q : Nat) (acc : Str), l.drop j = r → 0 < j → j ≤ l.length → r.length < q → acc.length ≤ 65536 →
    ∃ R, ref13_Text_l2 l q (toInts acc) (j : Int) = some (toInts R) ∧ (fits (acc.length + 1) (r.map pc) = true → R = acc ++ Lib.joinTail [32] (r.map pc) ∧ R.length ≤ 65536) ∧ (fits (acc.length + 1) (r.map pc) = false → 65536 < R.length)
  | [], j, q+1, acc, h, h0, hj, _, ha => by
    have : j = l.length := by have : l.length ≤ j := by simpa using h
                              omega
    subst this
    refine ⟨acc, by rw [ref13_Text_l2, ge_len, Bool.false_and]; rfl, fun _ => ⟨by simp [Lib.joinTail], ha⟩, fun hf => by simp [fits] at hf⟩
  | w :: r, j, q+1, acc, h, h0, hj, hq, ha => by
    obtain ⟨h1, h2, h3⟩ := getDrop h
    have hlen := hl.len
    have hw : w ∈ l := List.mem_of_getElem? h1
    have hok := hall w hw
    have hm := may_len hok
    have hp := pc_len hok
    rw [List.length_cons] at hq
    have e1 : ref13_One w = some (toInts (pc w)) := rone_eq (by omega) (hl.word w hw).2 hok
    have e3 : ∀ n : Nat, n ≤ 65536 → decide ((n : Int) ≤ 65536) = true := fun n hn => by simp; omega
    have e4 : (1 : Nat) ≤ j := h0
    have e5 : decide ((0 : Int) < (j : Int)) = true := by simp; omega
    have estep : ref13_Text_l2 l (q+1) (toInts acc) (j : Int) = ref13_Text_l2 l q (toInts (acc ++ 32 :: pc w)) ((j + 1 : Nat) : Int) := by
      rw [ref13_Text_l2, lt_len h3, e3 _ (by rw [toInts_len]; exact ha), Bool.and_true, if_pos rfl, e5, if_pos rfl, app_of (by simp [toInts_len]; omega) (by simp [toInts_len]; omega), Option.bind_some, Option.bind_some,
        lAt_nat h1, Option.bind_some, e1, Option.bind_some, app_of (by simp [toInts_len]; omega) (by simp [toInts_len]; omega), Option.bind_some, cks (by omega), Option.bind_some]
      congr 1
      simp [toInts]
    rw [estep, List.map_cons, fits]
    by_cases hc : 65537 < acc.length + 1 + ((pc w).length + 1)
    · rw [if_pos hc]
      refine ⟨acc ++ 32 :: pc w, ?_, fun hf => by simp at hf, fun _ => by simp; omega⟩
      obtain ⟨q, rfl⟩ : ∃ q', q = q' + 1 := ⟨q - 1, by omega⟩
      exact textr_end (by simp [toInts_len]; omega)
    · rw [if_neg hc]
      obtain ⟨R, r1, r2, r3⟩ := textr_2 hl hall r (j+1) q (acc ++ 32 :: pc w) h2 (by omega) h3 (by omega) (by simp; omega)
      have e6 : (acc ++ 32 :: pc w).length + 1 = acc.length + 1 + ((pc w).length + 1) := by simp; omega
      rw [e6] at r2 r3
      refine ⟨R, r1, fun hf => ?_, r3⟩
      obtain ⟨p1, p2⟩ := r2 hf
      exact ⟨by rw [p1]; simp [Lib.joinTail], p2⟩
  | _, _, 0, _, _, _, _, hq, _ => by omega
theorem textr_3 {l : List rWd} (hl : Sm l) (hall : ∀ w, w ∈ l → okW w = true) :
    ∃ R, ref13_Text_l2 l fuel [] 0 = some (toInts R) ∧ (fits 0 (l.map pc) = true → R = Lib.join (l.map pc) [32] ∧ R.length ≤ 65536) ∧ (fits 0 (l.map pc) = false → 65536 < R.length) := by
  cases l with
  | nil => exact ⟨[], rfl, fun _ => ⟨rfl, by simp⟩, fun h => by cases h⟩
  | cons w r =>
    have hlen := hl.len
    rw [List.length_cons] at hlen
    have hw : w ∈ w :: r := by simp
    have hok := hall w hw
    have hm := may_len hok
    have hp := pc_len hok
    have e1 : ref13_One w = some (toInts (pc w)) := rone_eq (by omega) (hl.word w hw).2 hok
    obtain ⟨q, hq⟩ : ∃ q, fuel = q + 1 := ⟨fuel - 1, rfl⟩
    have hq2 : r.length < q := by have : fuel = 18446744073709551616 := rfl
                                  omega
    have estep : ref13_Text_l2 (w :: r) (q+1) [] ((0 : Nat) : Int) = ref13_Text_l2 (w :: r) q (toInts (pc w)) ((0 + 1 : Nat) : Int) := by
      rw [ref13_Text_l2, lt_len (by simp), show decide ((([] : List Int).length : Int) ≤ 65536) = true from rfl, Bool.and_true, if_pos rfl, show decide ((0 : Int) < ((0 : Nat) : Int)) = false from rfl, if_neg (by simp), Option.bind_some,
        lAt_nat (x := w) rfl, Option.bind_some, e1, Option.bind_some, app_of (by simp [toInts_len]; omega) (by simp [toInts_len]; omega), Option.bind_some, cks (by omega), Option.bind_some, List.nil_append]
    obtain ⟨R, r1, r2, r3⟩ := textr_2 hl hall r (0+1) q (pc w) rfl (by omega) (by simp) hq2 (by omega)
    have hf : fits 0 ((w :: r).map pc) = fits ((pc w).length + 1) (r.map pc) := by
      rw [List.map_cons, fits, if_neg (by omega), Nat.zero_add]
    refine ⟨R, by rw [hq, show (0 : Int) = ((0 : Nat) : Int) from rfl, estep]; exact r1, fun h => ?_, fun h => r3 (hf ▸ h)⟩
    obtain ⟨p1, p2⟩ := r2 (hf ▸ h)
    exact ⟨by rw [p1, List.map_cons, Lib.join_cons], p2⟩
theorem join_fits {l : List rWd} (hl : Sm l) (hall : ∀ w, w ∈ l → okW w = true) (hf : fits 0 (l.map pc) = true) : (Lib.join (l.map pc) [32]).length ≤ 65536 := by
 obtain ⟨R, _, r2, _⟩ := textr_3 hl hall
 obtain ⟨h1, h2⟩ := r2 hf
 rw [← h1]; exact h2
theorem textl_eq {l : List rWd} (hl : Sm l) : lex_Text (l.map ucv) = some (textB l) := by
 unfold lex_Text textB
 simp only [letK_e]
 rw [textl_1 hl]
 by_cases ha : l.all okW = true
 ·have hall : ∀ w, w ∈ l → okW w = true := List.all_eq_true.1 ha
  rw [if_pos ha, if_pos ha]
  have hlen := hl.len
  have := textl_2 hl hall (fun v28 => (strings_Join v28 [32]).bind fun v29 => some (v29, none)) l 0 fuel 0 [] rfl (Nat.zero_le _) (by unfold fuel; omega) (Nat.zero_le _) (Nat.zero_le _)
  rw [show ((0 : Nat) : Int) = 0 from rfl] at this
  rw [this]
  by_cases hf : fits 0 (l.map pc) = true
  ·rw [if_pos hf, if_pos hf, List.nil_append]
   have := join_fits hl hall hf
   unfold strings_Join joinS
   rw [if_pos ⟨by rw [List.length_map]; omega, by omega⟩]; rfl
  ·rw [if_neg hf, if_neg hf]
 ·rw [if_neg ha, if_neg ha]
theorem textr_eq {l : List rWd} (hl : Sm l) : ref13_Text l = some ((textB l).1, code (textB l).2) := by
 unfold ref13_Text textB
 simp only [letK_e]
 rw [textr_1 hl]
 by_cases ha : l.all okW = true
 ·have hall : ∀ w, w ∈ l → okW w = true := List.all_eq_true.1 ha
  rw [if_pos ha, if_pos ha]
  obtain ⟨R, r1, r2, r3⟩ := textr_3 hl hall
  rw [r1, Option.bind_some]
  by_cases hf : fits 0 (l.map pc) = true
  ·obtain ⟨p1, p2⟩ := r2 hf
   rw [if_pos hf, if_neg (by simp [toInts_len]; omega), ofInts_toInts, p1]; rfl
  ·have := r3 (by simpa using hf)
   rw [if_neg hf, if_pos (by simp [toInts_len]; omega)]; rfl
 ·rw [if_neg ha, if_neg ha]; rfl
end Go.Cq.X13

