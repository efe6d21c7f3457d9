import Derived.Test.YtiboeelbmgnbgaaGreatDoorSpe
import Derived.KernelRfl
import Derived.Test.YtiboeelbmgnbgaaGreatDoorL1
set_option linter.unusedSectionVars false
set_option linter.unusedVariables false
set_option linter.unusedSimpArgs false
set_option linter.unnecessarySimpa false
set_option maxRecDepth 100000
namespace Go.Cq.X13
open Go.Cq
open Go Go.Av
theorem zKz {n : Nat} (h : n ≤ 8000000000000000000) : ck ((n : Int) + 1) = some ((n + 1 : Nat) : Int) := by
 unfold ck; rw [if_pos (by omega)]; rfl
theorem zGb {s : Str} {j : Nat} {b : UInt8} {r : Str} (h : s.drop j = b :: r) : s[j]? = some b ∧ s.drop (j + 1) = r ∧ j < s.length := by
 have h1 : s[j]? = some b := by
  have := congrArg (·[0]?) h
  simpa using this
 refine ⟨h1, ?_, ?_⟩
 ·have := congrArg (List.drop 1) h
  simpa [List.drop_drop, Nat.add_comm] using this
 exact (List.getElem?_eq_some_iff.1 h1).1
theorem drop_nil {s : Str} {j : Nat} (h : s.drop j = []) : s.length ≤ j := by simpa using h
theorem zHi {s : Str} {j : Nat} {b : UInt8} {r : Str} (h : s.drop j = b :: r) : sIdx s (j : Int) = some (b.toNat : Int) := by
 obtain ⟨h1, _, h3⟩ := zGb h
 unfold sIdx
 rw [if_pos (by omega)]
 simp [List.getD_eq_getElem?_getD, h1]
theorem zMQ {s : Str} {j : Nat} {b : UInt8} {r : Str} (h : s.drop j = b :: r) : decide ((j : Int) < (s.length : Int)) = true := by
 have := (zGb h).2.2
 simp; omega
theorem zMj {s : Str} {j : Nat} (h : s.drop j = []) : decide ((j : Int) < (s.length : Int)) = false := by
 have := drop_nil h
 simp; omega
def sc (p : UInt8 → Bool) : Str → Nat
 | [] => 0
 | b :: r => bif p b then sc p r + 1 else 0
theorem sc_all {p : UInt8 → Bool} : ∀ {r : Str}, sc p r = r.length ↔ ∀ b, b ∈ r → p b = true
 | [] => by simp [sc]
 | b :: r => by
  unfold sc
  cases h : p b with
  | false => simp [h]
  | true => simp [h, sc_all (r := r)]
theorem zPq {s : Str} {f : Int → Option Bool} {p : UInt8 → Bool} (hf : ∀ b : UInt8, f (b.toNat : Int) = some (p b)) (hs : s.length ≤ 8000000000000000000) : ∀ (r : Str) (j q : Nat), s.drop j = r → r.length < q → j ≤ s.length → zCP s f q (j : Int) = some ((j + sc p r : Nat) : Int)
 | [], j, q+1, h, hq, hj => by
  unfold zCP
  rw [zMj h]
  simp [sc]
 | b :: r, j, q+1, h, hq, hj => by
  obtain ⟨h1, h2, h3⟩ := zGb h
  unfold zCP
  rw [zMQ h]
  simp only [if_true, zHi h, Option.bind_some, hf]
  unfold sc
  cases p b with
  | false => simp
  | true =>
   simp only [if_true, cond_true]
   rw [zKz (by omega), Option.bind_some, zPq hf hs r (j + 1) q h2 (by simp at hq; omega) h3]
   congr 2; omega
 | _, _, 0, _, hq, _ => by omega
theorem zM3 {s : Str} {f : Int → Option Bool} {p : UInt8 → Bool} (hf : ∀ b : UInt8, f (b.toNat : Int) = some (p b)) (hs : s.length ≤ 8000000000000000000) : zFA s f = some ((sc p s : Nat) : Int) := by
 unfold zFA
 have := zPq hf hs s 0 fuel rfl (by unfold fuel; omega) (Nat.zero_le _)
 rw [Nat.zero_add] at this
 show (zCP s f fuel ((0 : Nat) : Int)).bind _ = _
 rw [this]; rfl
def cl (b : UInt8) : Int := (zDc (b.toNat : Int)).getD 0
def pL (b : UInt8) : Bool := cl b == 97
def pD (b : UInt8) : Bool := cl b == 48
def pB (b : UInt8) : Bool := cl b == 43
def pE (b : UInt8) : Bool := cl b == 97 || cl b == 48
theorem allB {p : UInt8 → Bool} (h : (List.range 256).all (fun n => p (UInt8.ofNat n)) = true) (b : UInt8) : p b = true := by
 have := List.all_eq_true.1 h b.toNat (by simpa using UInt8.toNat_lt b)
 simpa using this
theorem zNk (b : UInt8) : zDc (b.toNat : Int) = some (cl b) := by
 have := allB (p := fun b => zDc (b.toNat : Int) == some (cl b)) (by kernel_rfl) b
 simpa using this
theorem letter_eq (b : UInt8) : zEd (b.toNat : Int) = some (pL b) := by
 have := allB (p := fun b => zEd (b.toNat : Int) == some (pL b)) (by kernel_rfl) b
 simpa using this
theorem digit_eq (b : UInt8) : zFa (b.toNat : Int) = some (pD b) := by
 have := allB (p := fun b => zFa (b.toNat : Int) == some (pD b)) (by kernel_rfl) b
 simpa using this
theorem idxB_pos {s : List UInt8} {c : UInt8} : 0 ≤ idxB s c ↔ c ∈ s := by
 letI : Lay := ⟨fun _ _ _ => False, fun _ _ => False, fun _ _ => False⟩
 rw [zGZ]
 cases h : s.findIdx? (· == c) with
 | none =>
  have : ∀ x, x ∈ s → ¬ (x == c) = true := by simpa using List.findIdx?_eq_none_iff.1 h
  constructor
  ·intro h; exact absurd h (by decide)
  intro hm; exact absurd (by simp) (this c hm)
 | some i =>
  have := List.findIdx?_eq_some_iff_getElem.1 h
  obtain ⟨hi, h2, _⟩ := this
  constructor
  ·intro _; have : s[i] = c := by simpa using h2
   rw [← this]; exact List.getElem_mem hi
  intro _; exact Int.natCast_nonneg i
theorem zMY (b : UInt8) : UInt8.ofNat ((b.toNat : Int)).toNat = b := by simp
theorem zOi (s : Str) (b : UInt8) : strings_IndexByte s (b.toNat : Int) = some (idxB s b) := by
 unfold strings_IndexByte zAy zFF
 simp only [Option.bind_some, zMY]
def pBn (n : Nat) : Bool := n == 43 || n == 45 || n == 42 || n == 47 || n == 92 || n == 60 || n == 62 || n == 61 || n == 126 || n == 44
theorem pBn_eq (b : UInt8) : pB b = pBn b.toNat := by
 have := allB (p := fun b => pB b == pBn b.toNat) (by kernel_rfl) b
 simpa using this
theorem pB_eq (b : UInt8) : pB b = decide (b ∈ [43, 45, 42, 47, 92, 60, 62, 61, 126, (44 : UInt8)]) := by
 rw [pBn_eq, Bool.eq_iff_iff]
 simp [pBn, ← UInt8.toNat_inj, or_assoc]
theorem bin_eq (b : UInt8) : zI7 (b.toNat : Int) = some (pB b) := by
 unfold zI7
 rw [zOi, Option.bind_some, pB_eq]
 congr 1
 rw [decide_eq_decide]
 exact idxB_pos
theorem zP8 (b : UInt8) : zEX (b.toNat : Int) = some (pE b) := by
  unfold zEX
  rw [digit_eq, Option.bind_some, letter_eq]
  unfold pE pD pL
  cases cl b == 48 <;> cases cl b == 97 <;> rfl
theorem all_step {s r : Str} {x y : Int} {K : Unit → Option Bool} {b : UInt8} {j q : Nat} (h : s.drop j = b :: r) (hj : j ≤ 8000000000000000000) :
  zBb s x y K (q + 1) (j : Int) = bif cl b == x || cl b == y then zBb s x y K q ((j + 1 : Nat) : Int) else some false := by
 rw [zBb]
 rw [zMQ h, if_pos rfl, zHi h, Option.bind_some, zNk, Option.bind_some, zKz hj]
 generalize cl b = z
 by_cases e1 : z = x
 ·rw [decide_eq_true e1, beq_iff_eq.2 e1]; rfl
 by_cases e2 : z = y
 ·rw [decide_eq_false e1, decide_eq_true e2, beq_iff_eq.2 e2, Bool.or_true]; rfl
 rw [decide_eq_false e1, decide_eq_false e2, beq_eq_false_iff_ne.2 e1, beq_eq_false_iff_ne.2 e2]; rfl
theorem all_end {s : Str} {x y : Int} {K : Unit → Option Bool} {j q : Nat} (h : s.drop j = []) : zBb s x y K (q + 1) (j : Int) = K () := by
 rw [zBb]
 rw [zMj h]; rfl
theorem all_l1 {s : Str} {x y : Int} {K : Unit → Option Bool} (hs : s.length ≤ 8000000000000000000) : ∀ (r : Str) (j q : Nat), s.drop j = r → r.length < q → j ≤ s.length → zBb s x y K q (j : Int) = if (r.all fun b => cl b == x || cl b == y) then K () else some false
  | [], j, q+1, h, hq, hj => all_end h
  | b :: r, j, q+1, h, hq, hj => by
    obtain ⟨h1, h2, h3⟩ := zGb h
    rw [all_step h (Nat.le_trans hj hs), all_l1 hs r (j + 1) q h2 (by simp at hq; omega) h3, List.all_cons]
    cases cl b == x || cl b == y <;> rfl
  | _, _, 0, _, hq, _ => absurd hq (Nat.not_lt_zero _)
theorem zQ4 {s : Str} {x y : Int} (hs : s.length ≤ 8000000000000000000) : zFm s x y = some (s.all fun b => cl b == x || cl b == y) := by
  have := all_l1 (x := x) (y := y) (K := fun _ => some true) hs s 0 fuel rfl (by unfold fuel; omega) (Nat.zero_le _)
  show zBb s x y (fun _ => some true) fuel ((0 : Nat) : Int) = _
  rw [this]
  cases s.all fun b => cl b == x || cl b == y <;> rfl
theorem zRo {p : UInt8 → Bool} {s : Str} : decide (((sc p s : Nat) : Int) = (s.length : Int)) = s.all p := by
 have : (((sc p s : Nat) : Int) = (s.length : Int)) ↔ sc p s = s.length := by omega
 rw [Bool.eq_iff_iff]
 simp [this, sc_all]
end Go.Cq.X13

set_option maxRecDepth 100000
namespace Go.Cq.X13
open Go.Cq
open Go Go.Av
theorem zG5 {b : UInt8} {r : Str} : sIdx (b :: r) 0 = some (b.toNat : Int) := zHi (s := b :: r) (j := 0) rfl
def nmB : Str → Bool
 | [] => false
 | b :: r => decide (((b :: r).length : Int) ≤ 64) && (pL b && (b :: r).all pE)
theorem zJU {b : UInt8} {r : Str} : nmB (b :: r) = (decide (((b :: r).length : Int) ≤ 64) && (pL b && (b :: r).all pE)) := rfl
theorem named_eq {s : Str} (hs : s.length ≤ 8000000000000000000) : zGd s = some (nmB s) := by
  cases s with
  | nil => rfl
  | cons b r =>
    unfold zGd
    rw [zJU, zG5, Option.bind_some, letter_eq, Option.bind_some, zM3 (p := pE) zP8 hs, Option.bind_some, zRo]
    have e : (!(b :: r == [])) = true := rfl
    rw [e, if_pos rfl]
    cases decide (((b :: r).length : Int) ≤ 64) <;> cases pL b <;> rfl
def nuB : Str → Bool
 | [] => false
 | b :: r => decide (((b :: r).length : Int) ≤ 700) && ((b :: r).all pD && (decide (((b :: r).length : Int) = 1) || !decide ((b.toNat : Int) = 48)))
theorem zKU {b : UInt8} {r : Str} : nuB (b :: r) = (decide (((b :: r).length : Int) ≤ 700) && ((b :: r).all pD && (decide (((b :: r).length : Int) = 1) || !decide ((b.toNat : Int) = 48)))) := rfl
theorem number_eq {s : Str} (hs : s.length ≤ 8000000000000000000) : zFc s = some (nuB s) := by
  cases s with
  | nil => rfl
  | cons b r =>
    unfold zFc
    rw [zKU, zM3 (p := pD) digit_eq hs, Option.bind_some, zRo, zG5, Option.bind_some]
    have e : (!(b :: r == [])) = true := rfl
    rw [e, if_pos rfl]
    cases decide (((b :: r).length : Int) ≤ 700) <;> cases (b :: r).all pD <;> cases decide ((b.toNat : Int) = 48) <;> cases decide (((b :: r).length : Int) = 1) <;> rfl
def biB : Str → Bool
 | [] => false
 | b :: r => decide (((b :: r).length : Int) ≤ 2) && (b :: r).all pB
theorem zKm {b : UInt8} {r : Str} : biB (b :: r) = (decide (((b :: r).length : Int) ≤ 2) && (b :: r).all pB) := rfl
def mayB (K : Int) (S : Str) (At : Int) : Bool :=
 if At < 0 then false else if K = 0 ∨ K = 1 ∨ K = 5 then nmB S else if K = 2 then biB S else if K = 3 then nuB S else if K = 4 then decide ((S.length : Int) ≤ 1024) else decide (K ≤ 16) && (S == [])
theorem may_eq {w : lWd} (hs : w.S.length ≤ 8000000000000000000) : zIP w = some (mayB w.K w.S w.At) := by
  obtain ⟨K, S, At⟩ := w
  simp only at hs
  unfold zIP mayB
  simp only
  by_cases h0 : At < 0
  · simp only [h0, decide_true, if_true]
  simp only [h0, decide_false, if_false, Bool.false_eq_true]
  by_cases k0 : K = 0
  · subst k0; simp only [decide_true, if_true, Option.bind_some, named_eq hs, true_or]
  by_cases k1 : K = 1
  · subst k1; simp [named_eq hs]
  by_cases k5 : K = 5
  · subst k5; simp [named_eq hs]
  simp only [k0, k1, k5, decide_false, decide_true, Bool.false_eq_true, if_false, Option.bind_some, or_self]
  by_cases k2 : K = 2
  · simp only [k2, decide_true, if_true]
    cases S with
    | nil => rfl
    | cons b r =>
      rw [zM3 (p := pB) bin_eq hs, Option.bind_some, zRo]
      have e : (!(b :: r == [])) = true := rfl
      rw [e, if_pos rfl]
      rw [zKm]
      cases decide (((b :: r).length : Int) ≤ 2) <;> cases (b :: r).all pB <;> rfl
  simp only [k2, decide_false, Bool.false_eq_true, if_false]
  by_cases k3 : K = 3
  · simp only [k3, decide_true, if_true, number_eq hs, Option.bind_some]
  simp only [k3, decide_false, Bool.false_eq_true, if_false]
  by_cases k4 : K = 4
  · simp only [k4, decide_true, if_true]
  simp only [k4, decide_false, Bool.false_eq_true, if_false]
theorem all_E (s : Str) : (s.all fun b => cl b == 97 || cl b == 48) = s.all pE := rfl
theorem all_B (s : Str) : (s.all fun b => cl b == 43 || cl b == 43) = s.all pB := by congr 1; funext b; exact Bool.or_self _
theorem all_D (s : Str) : (s.all fun b => cl b == 48 || cl b == 48) = s.all pD := by congr 1; funext b; exact Bool.or_self _
theorem pL_dec (b : UInt8) : decide (cl b = 97) = pL b := by unfold pL; rw [Bool.eq_iff_iff]; simp
theorem rmay_eq {w : rWd} (hs : w.S.length ≤ 8000000000000000000) : zF0 w = some (mayB w.K w.S w.At) := by
  obtain ⟨K, S, At⟩ := w
  simp only at hs
  unfold zF0 mayB
  simp only
  by_cases h0 : At < 0
  · simp only [h0, decide_true, if_true, Bool.true_or]
  by_cases h16 : 16 < K
  · have e1 : ¬ (K = 0 ∨ K = 1 ∨ K = 5) := by omega
    have e2 : K ≠ 2 := by omega
    have e3 : K ≠ 3 := by omega
    have e4 : K ≠ 4 := by omega
    have e5 : ¬ K ≤ 16 := by omega
    simp [h0, h16, e1, e2, e3, e4, e5]
  simp only [h0, h16, decide_false, if_false, Bool.false_eq_true, Bool.or_self]
  have l1 : ∀ (b : UInt8) (r : Str), decide ((1 : Int) ≤ ((b :: r).length : Int)) = true := fun b r => by simp; omega
  by_cases hk : K = 0 ∨ K = 1 ∨ K = 5
  · have : ((decide (K = 0) || decide (K = 1)) || decide (K = 5)) = true := by rcases hk with rfl | rfl | rfl <;> rfl
    rw [this, if_pos rfl, if_pos hk]
    cases S with
    | nil => rfl
    | cons b r =>
      rw [l1, if_pos rfl, zQ4 hs, Option.bind_some, zG5, Option.bind_some, zNk, Option.bind_some, all_E, pL_dec]
      rw [zJU]
      cases decide (((b :: r).length : Int) ≤ 64) <;> cases pL b <;> cases (b :: r).all pE <;> rfl
  have : ((decide (K = 0) || decide (K = 1)) || decide (K = 5)) = false := by
    have a : K ≠ 0 := fun e => hk (.inl e)
    have b : K ≠ 1 := fun e => hk (.inr (.inl e))
    have c : K ≠ 5 := fun e => hk (.inr (.inr e))
    simp [a, b, c]
  rw [this, if_neg (by simp), if_neg hk]
  by_cases k2 : K = 2
  · simp only [k2, decide_true, if_true]
    cases S with
    | nil => rfl
    | cons b r =>
      rw [l1, if_pos rfl, zQ4 hs, Option.bind_some, all_B]
      rw [zKm]
      cases decide (((b :: r).length : Int) ≤ 2) <;> cases (b :: r).all pB <;> rfl
  simp only [k2, decide_false, Bool.false_eq_true, if_false]
  by_cases k3 : K = 3
  · simp only [k3, decide_true, if_true]
    cases S with
    | nil => rfl
    | cons b r =>
      rw [l1, if_pos rfl, zQ4 hs, Option.bind_some, all_D, zG5, Option.bind_some]
      rw [zKU]
      cases decide (((b :: r).length : Int) ≤ 700) <;> cases (b :: r).all pD <;> cases decide ((b.toNat : Int) = 48) <;> cases decide (((b :: r).length : Int) = 1) <;> rfl
  simp only [k3, decide_false, Bool.false_eq_true, if_false]
  by_cases k4 : K = 4
  · simp only [k4, decide_true, if_true]
  simp only [k4, decide_false, Bool.false_eq_true, if_false]
  have : decide (K ≤ 16) = true := by simp; omega
  rw [this, Bool.true_and]
end Go.Cq.X13

set_option maxRecDepth 100000
namespace Go.Cq.X13
open Go.Cq
open Go Go.Av
theorem byte_dec {b : UInt8} (n : Nat) (hn : n < 256) : decide ((b.toNat : Int) = (n : Int)) = decide (b = UInt8.ofNat n) := by
 rw [decide_eq_decide]
 constructor
 ·intro h; have : b.toNat = n := by omega
  rw [← this]; simp
 rintro rfl; simp [UInt8.toNat_ofNat', Nat.mod_eq_of_lt hn]
theorem dec39 (b : UInt8) : decide ((b.toNat : Int) = 39) = decide (b = 39) := byte_dec 39 (by omega)
section
variable {s r : Str} {K : List Int → Option (Str × Int × Bool)} {b c : UInt8} {j q : Nat} {acc : List Int}
end
end Go.Cq.X13

set_option maxRecDepth 100000
namespace Go.Cq.X13
open Go.Cq
open Go Go.Av
section
variable {s : Str} (hs : s.length ≤ 90000)
include hs
end
end Go.Cq.X13

set_option maxRecDepth 100000
namespace Go.Cq.X13
open Go.Cq
open Go Go.Av
def mks : Str := [94, 59, 46, 40, 41, 91, 93, 124, 123, 125]
end Go.Cq.X13

set_option maxRecDepth 100000
namespace Go.Cq.X13
open Go.Cq
open Go Go.Av
end Go.Cq.X13

set_option maxRecDepth 100000
namespace Go.Cq.X13
open Go.Cq
open Go Go.Av
end Go.Cq.X13

set_option maxRecDepth 100000
namespace Go.Cq.X13
open Go.Cq
open Go Go.Av
theorem zJ1 (s : Str) : zLJ (zAx s) = s := by
 unfold zLJ zAx
 rw [List.map_map]
 have : (fun n : Int => UInt8.ofNat n.toNat) ∘ (fun c : UInt8 => (c.toNat : Int)) = id := by funext c; simp
 rw [this, List.map_id]
end Go.Cq.X13

set_option maxRecDepth 100000
namespace Go.Cq.X13
open Go.Cq
open Go Go.Av
end Go.Cq.X13

set_option maxRecDepth 100000
namespace Go.Cq.X13
open Go.Cq
open Go Go.Av
def code : Option Int → Int
 | none => 0
 | some n => n
end Go.Cq.X13

set_option maxRecDepth 100000
namespace Go.Cq.X13
open Go.Cq
open Go Go.Av
def dbl : Str → Str
 | [] => []
 | b :: r => if b = 39 then 39 :: 39 :: dbl r else b :: dbl r
theorem zI2 : ∀ s : Str, (dbl s).length ≤ 2 * s.length
  | [] => by simp [dbl]
  | b :: r => by
    have := zI2 r
    unfold dbl; split <;> simp <;> omega
theorem zH1 : ∀ s : Str, Lib.replaceK [39] [39, 39] (Lib.count s [39]) s = dbl s
 | [] => rfl
 | b :: r => by
  have ih := zH1 r
  by_cases hb : b = 39
  ·subst hb
   rw [Lib.count_cons_eq, Nat.add_comm, Lib.replaceK_hit (i := 0) _ _ _ _ (by simp [Lib.index_one, Lib.indexByte])]
   simp [dbl, ih]
  rw [Lib.count_cons_ne _ _ _ hb]
  unfold dbl; rw [if_neg hb]
  cases hk : Lib.count r [39] with
  | zero => rw [hk] at ih; simp only [Lib.replaceK] at ih ⊢; rw [← ih]
  | succ k =>
   rw [hk] at ih
   obtain ⟨i, hi⟩ := Lib.index_of_count (s := r) (old := [39]) (by omega)
   rw [Lib.replaceK_hit _ _ _ _ i hi] at ih
   have h2 : Lib.index (b :: r) [39] = ((i + 1 : Nat) : Int) := by
    rw [Lib.index_one] at hi ⊢
    unfold Lib.indexByte
    have hb2 : (b == 39) = false := by simpa using hb
    simp only [hb2]
    simp [hi]
   rw [Lib.replaceK_hit _ _ _ _ (i + 1) h2, ← ih]
   simp [Nat.add_right_comm]
theorem zJo (s : Str) : Lib.replaceAll s [39] [39, 39] = dbl s := by
 unfold Lib.replaceAll Lib.replace Lib.replaceNum
 rw [if_neg (by decide), if_pos (by left; decide)]
 exact zH1 s
theorem ra_eq {s : Str} (hs : s.length ≤ 100000) : strings_ReplaceAll s [39] [39, 39] = some (dbl s) := by
 unfold strings_ReplaceAll zFI
 have := zI2 s
 rw [zJo, if_pos]
 refine ⟨by omega, by simp, ?_, by unfold maxB; omega⟩
 have h2 : Lib.countB ⟨s.toArray⟩ ⟨[39].toArray⟩ ≤ s.length + 1 := by
  unfold Lib.countB; exact Lib.count_le _ _
 simp; omega
end Go.Cq.X13

set_option maxRecDepth 100000
namespace Go.Cq.X13
open Go.Cq
open Go Go.Av
def mkc (K : Int) : UInt8 := mks.getD (K - 7).toNat 0
def wrtB (K : Int) (S : Str) : Str :=
 if K = 1 then S ++ [58] else if K = 5 then 58 :: S else if K = 4 then 39 :: (dbl S ++ [39]) else if K = 6 then [58, 61] else if K = 0 ∨ K = 2 ∨ K = 3 then S else [mkc K]
theorem kinds {K : Int} (h0 : 0 ≤ K) (h1 : K ≤ 16) : K = 0 ∨ K = 1 ∨ K = 2 ∨ K = 3 ∨ K = 4 ∨ K = 5 ∨ K = 6 ∨ K = 7 ∨ K = 8 ∨ K = 9 ∨ K = 10 ∨ K = 11 ∨ K = 12 ∨ K = 13 ∨ K = 14 ∨ K = 15 ∨ K = 16 := by omega
theorem write_eq {w : lWd} (hs : w.S.length ≤ 100000) (h0 : 0 ≤ w.K) (h1 : w.K ≤ 16) : zF4 w = some (wrtB w.K w.S) := by
 obtain ⟨K, S, At⟩ := w
 simp only at hs h0 h1
 have hd := zI2 S
 have hw : wrtB 0 S = S ∧ wrtB 2 S = S ∧ wrtB 3 S = S ∧ wrtB 1 S = S ++ [58] ∧ wrtB 5 S = 58 :: S ∧ wrtB 4 S = 39 :: (dbl S ++ [39]) := by simp [wrtB]
 obtain ⟨e0, e2, e3, e1, e5, e4⟩ := hw
 rcases kinds h0 h1 with rfl | rfl | rfl | rfl | rfl | rfl | rfl | rfl | rfl | rfl | rfl | rfl | rfl | rfl | rfl | rfl | rfl
 ·simp only [e0]; rfl
 ·simp only [e1]; show (cat S [58]).bind _ = _; rw [zNM (by simp; omega)]; rfl
 ·simp only [e2]; rfl
 ·simp only [e3]; rfl
 ·simp only [e4]
  show (strings_ReplaceAll S [39] [39, 39]).bind _ = _
  rw [ra_eq (by omega), Option.bind_some, zNM (by simp; omega), Option.bind_some, zNM (by simp; omega), Option.bind_some]; simp
 ·simp only [e5]; show (cat [58] S).bind _ = _; rw [zNM (by simp; omega)]; rfl
 all_goals rfl
def quoL : Str → List Int
 | [] => []
 | b :: r => if b = 39 then 39 :: 39 :: quoL r else (b.toNat : Int) :: quoL r
theorem zJ9 : ∀ s : Str, quoL s = zAx (dbl s)
 | [] => rfl
 | b :: r => by
  unfold quoL dbl
  by_cases hb : b = 39
  ·rw [if_pos hb, if_pos hb, zJ9 r]; rfl
  rw [if_neg hb, if_neg hb, zJ9 r]; rfl
theorem zRi {K : Int} {S : Str} {At : Int} (hs : S.length ≤ 100000) : ∀ (r : Str) (j q : Nat) (acc : List Int), S.drop j = r → j ≤ S.length → r.length < q → acc.length + 2 * r.length ≤ 400000 →
  zCb ⟨K, S, At⟩ q acc (j : Int) = some (acc ++ quoL r)
 | [], j, q+1, acc, h, hj, _, _ => by
  rw [zCb, zMj h]; simp [quoL]
 | b :: r, j, q+1, acc, h, hj, hq, ha => by
  obtain ⟨h1, h2, h3⟩ := zGb h
  rw [List.length_cons] at hq ha
  rw [zCb, zMQ h, if_pos rfl, zHi h, Option.bind_some, zDl (by simp; omega) (by simp; omega), Option.bind_some, dec39]
  unfold quoL
  by_cases hb : b = 39
  ·subst hb
   simp only [decide_true, if_true]
   rw [zDl (by simp; omega) (by simp; omega), Option.bind_some, Option.bind_some, zKz (by omega), Option.bind_some, zRi hs r (j+1) q _ h2 h3 (by omega) (by simp; omega)]
   simp
  simp only [hb, decide_false, if_false, Bool.false_eq_true]
  rw [Option.bind_some, zKz (by omega), Option.bind_some, zRi hs r (j+1) q _ h2 h3 (by omega) (by simp; omega)]
  simp
 | _, _, 0, _, _, _, hq, _ => by omega
theorem nm_ne {s : Str} (h : nmB s = true) : s ≠ [] := by rintro rfl; cases h
theorem zQY {w : rWd} (hs : w.S.length ≤ 100000) (h0 : 0 ≤ w.K) (hm : mayB w.K w.S w.At = true) : zFk w = some (zAx (wrtB w.K w.S)) := by
 obtain ⟨K, S, At⟩ := w
 simp only at hs h0 hm
 have h1 : K ≤ 16 := by
  unfold mayB at hm
  split at hm
  ·cases hm
  split at hm
  ·omega
  split at hm
  ·omega
  split at hm
  ·omega
  split at hm
  ·omega
  simp at hm; exact hm.1
 have hd := zI2 S
 have hl : (zAx S).length = S.length := by simp [zAx]
 have hw : wrtB 0 S = S ∧ wrtB 2 S = S ∧ wrtB 3 S = S ∧ wrtB 1 S = S ++ [58] ∧ wrtB 5 S = 58 :: S ∧ wrtB 4 S = 39 :: (dbl S ++ [39]) := by simp [wrtB]
 obtain ⟨e0, e2, e3, e1, e5, e4⟩ := hw
 rcases kinds h0 h1 with rfl | rfl | rfl | rfl | rfl | rfl | rfl | rfl | rfl | rfl | rfl | rfl | rfl | rfl | rfl | rfl | rfl
 ·simp only [e0]; rfl
 ·simp only [e1]
  have hne : S ≠ [] := by
   unfold mayB at hm
   split at hm
   ·cases hm
   rw [if_pos (by omega)] at hm; exact nm_ne hm
  show (zLi S).bind _ = _
  unfold zLi
  rw [if_neg hne, Option.bind_some, zDl (by simp [hl]; omega) (by simp [hl]; omega), Option.bind_some]
  simp [zAx]
 ·simp only [e2]; rfl
 ·simp only [e3]; rfl
 ·simp only [e4]
  show ((zCb ⟨4, S, At⟩ fuel [39] ((0 : Nat) : Int)).bind fun y13 => (app 1 y13 [39]).bind fun v34 => some v34) = _
  have hq : (quoL S).length ≤ 2 * S.length := by rw [zJ9]; simpa [zAx] using hd
  rw [zRi hs S 0 fuel [39] rfl (Nat.zero_le _) (by unfold fuel; omega) (by simp; omega), Option.bind_some, zDl (by simp; omega) (by simp; omega), Option.bind_some, zJ9]
  simp [zAx]
 ·simp only [e5]; show (app 1 [58] (zAx S)).bind _ = _; rw [zDl (by simp [hl]; omega) (by simp [hl]; omega)]; simp [zAx]
 all_goals rfl
def okW (w : rWd) : Bool := mayB w.K w.S w.At
def ucv (w : rWd) : lWd := ⟨w.K, w.S, w.At⟩
def pc (w : rWd) : Str := wrtB w.K w.S
def fits : Nat → List Str → Bool
 | _, [] => true
 | n, p :: r => if 65537 < n + (p.length + 1) then false else fits (n + (p.length + 1)) r
def textB (l : List rWd) : Str × Option Int :=
 if l.all okW then (if fits 0 (l.map pc) then (Lib.join (l.map pc) [32], none) else ([], some 4)) else ([], some 1)
structure Sm (l : List rWd) : Prop where
 len : l.length ≤ 100000
 word : ∀ w, w ∈ l → w.S.length ≤ 1000000 ∧ 0 ≤ w.K
theorem zKF {K At : Int} {S : Str} (hm : mayB K S At = true) : K ≤ 16 ∧ S.length ≤ 1024 := by
 unfold mayB at hm
 split at hm
 ·cases hm
 split at hm
 ·cases S with
  | nil => simp; omega
  | cons b r => rw [zJU] at hm; simp only [Bool.and_eq_true, decide_eq_true_eq] at hm; omega
 split at hm
 ·cases S with
  | nil => simp; omega
  | cons b r => rw [zKm] at hm; simp only [Bool.and_eq_true, decide_eq_true_eq] at hm; omega
 split at hm
 ·cases S with
  | nil => simp; omega
  | cons b r => rw [zKU] at hm; simp only [Bool.and_eq_true, decide_eq_true_eq] at hm; omega
 split at hm
 ·have := of_decide_eq_true hm; omega
 simp only [Bool.and_eq_true, decide_eq_true_eq, beq_iff_eq] at hm; rw [hm.2]; simp; exact hm.1
theorem zQB {w : rWd} (hm : okW w = true) : (pc w).length ≤ 2050 := by
 have := zKF hm
 have hd := zI2 w.S
 unfold pc wrtB
 split
 ·simp; omega
 split
 ·simp; omega
 split
 ·simp; omega
 split
 ·simp
 split
 ·omega
 simp
theorem textl_1 {l : List rWd} (hl : Sm l) (K2 : Unit → Option (Str × Option Int)) : zBU (l.map ucv) K2 fuel 0 = if l.all okW then K2 () else some ([], some 1) := by
  have hlen := hl.len
  rw [zBK (F := fun q (_ : Unit) j => zBU (l.map ucv) K2 q j) (l := l.map ucv) (g := fun j x _ k => if mayB x.K x.S x.At then k () else some ([], some 1)) (K := fun _ => K2 ()) (s := ())]
  · clear hlen
    have : ∀ (r : List rWd) (j : Nat), zFT (fun j (x : lWd) (_ : Unit) k => if mayB x.K x.S x.At then k () else some (([], some 1) : Str × Option Int)) (fun _ => K2 ()) j (r.map ucv) () = if r.all okW then K2 () else some ([], some 1) := by
      intro r
      induction r with
      | nil => intro j; rfl
      | cons w r ih =>
        intro j
        simp only [List.map_cons, zFT, List.all_cons]
        rw [ih (j+1)]
        show (if okW w = true then _ else _) = _
        by_cases hw : okW w = true <;> simp [hw]
    exact this l 0
  · intro q s j x hx hj
    have hj2 : j < l.length := by simpa using hj
    obtain ⟨w, hw, rfl⟩ : ∃ w, w ∈ l ∧ ucv w = x := by
      have := List.mem_of_getElem? hx
      simpa using this
    show zBU (l.map ucv) K2 (q+1) (j : Int) = _
    rw [zBU, zAB hj, if_pos rfl, zAf hx, Option.bind_some, may_eq (by have := (hl.word w hw).1; show w.S.length ≤ _; omega), Option.bind_some]
    cases mayB (ucv w).K (ucv w).S (ucv w).At
    · simp
    simp only [Bool.not_true, Bool.false_eq_true, if_false, if_true]
    rw [cks (by omega), Option.bind_some]
  · intro q s
    show zBU (l.map ucv) K2 (q+1) _ = _
    rw [zBU, zAD]; rfl
  rw [List.length_map]; unfold fuel; omega
theorem textr_1 {l : List rWd} (hl : Sm l) (K2 : Unit → Option (Str × Int)) : zA7 l K2 fuel 0 = if l.all okW then K2 () else some ([], 1) := by
  have hlen := hl.len
  rw [zBK (F := fun q (_ : Unit) j => zA7 l K2 q j) (l := l) (g := fun j x _ k => if okW x then k () else some ([], 1)) (K := fun _ => K2 ()) (s := ())]
  · clear hlen
    have : ∀ (r : List rWd) (j : Nat), zFT (fun j (x : rWd) (_ : Unit) k => if okW x then k () else some (([], 1) : Str × Int)) (fun _ => K2 ()) j r () = if r.all okW then K2 () else some ([], 1) := by
      intro r
      induction r with
      | nil => intro j; rfl
      | cons w r ih =>
        intro j
        simp only [zFT, List.all_cons]
        rw [ih (j+1)]
        by_cases hw : okW w = true <;> simp [hw]
    exact this l 0
  · intro q s j x hx hj
    have hw : x ∈ l := List.mem_of_getElem? hx
    show zA7 l K2 (q+1) (j : Int) = _
    rw [zA7, zAB hj, if_pos rfl, zAf hx, Option.bind_some, rmay_eq (by have := (hl.word x hw).1; omega), Option.bind_some]
    show (if (!okW x) = true then _ else _) = _
    cases okW x
    · simp
    simp only [Bool.not_true, Bool.false_eq_true, if_false, if_true]
    rw [cks (by omega), Option.bind_some]
  · intro q s
    show zA7 l K2 (q+1) _ = _
    rw [zA7, zAD]; rfl
  unfold fuel; omega
theorem zRM {l : List rWd} (hl : Sm l) (hall : ∀ w, w ∈ l → okW w = true) (K11 : List Str → Option (Str × Option Int)) : ∀ (r : List rWd) (j q n : Nat) (acc : List Str), l.drop j = r → j ≤ l.length → r.length < q → n ≤ 100000 → acc.length ≤ j →
    zDd (l.map ucv) K11 q (n : Int) acc (j : Int) = if fits n (r.map pc) then K11 (acc ++ r.map pc) else some ([], some 4)
  | [], j, q+1, n, acc, h, hj, _, _, _ => by
    have : j = l.length := by have : l.length ≤ j := by simpa using h
                              omega
    subst this
    rw [zDd, show (l.length : Int) = ((l.map ucv).length : Int) by simp, zAD]
    simp [fits]
  | w :: r, j, q+1, n, acc, h, hj, hq, hn, ha => by
    obtain ⟨h1, h2, h3⟩ := zAE h
    have hlen := hl.len
    have hw : w ∈ l := List.mem_of_getElem? h1
    have hok := hall w hw
    have hm := zKF hok
    have hp := zQB hok
    rw [List.length_cons] at hq
    have e1 : zF4 (ucv w) = some (pc w) := write_eq (w := ucv w) (by show w.S.length ≤ _; omega) (hl.word w hw).2 hm.1
    have e2 : ((n : Int) + ((pc w).length + 1 : Nat)) = ((n + ((pc w).length + 1) : Nat) : Int) := by omega
    rw [zDd, zAB (by simpa using h3), if_pos rfl, zAf (x := ucv w) (by simp [h1]), Option.bind_some, e1, Option.bind_some, cks (by omega), Option.bind_some, e2, ckn (by omega), Option.bind_some]
    rw [List.map_cons, fits]
    by_cases hc : 65537 < n + ((pc w).length + 1)
    · rw [if_pos hc, if_pos (by simp only [decide_eq_true_eq]; omega)]; simp
    rw [if_neg hc, if_neg (by simp only [decide_eq_true_eq]; omega), zDl (by simp; omega) (by simp; omega), Option.bind_some, cks (by omega), Option.bind_some,
      zRM hl hall K11 r (j+1) q _ _ h2 h3 (by omega) (by omega) (by simp; omega), List.append_assoc]
    rfl
  | _, _, 0, _, _, _, _, hq, _, _ => by omega
theorem zCD (s : Str) : (zAx s).length = s.length := by simp [zAx]
theorem zRm {l : List rWd} {q j : Nat} {acc : List Int} (h : 65536 < acc.length) : zAz l (q+1) acc (j : Int) = some acc := by
 rw [zAz]
 have : decide ((acc.length : Int) ≤ 65536) = false := by simp; omega
 rw [this, Bool.and_false]; rfl
theorem zQF {l : List rWd} (hl : Sm l) (hall : ∀ w, w ∈ l → okW w = true) : ∀ (r : List rWd) (j q : Nat) (acc : Str), l.drop j = r → 0 < j → j ≤ l.length → r.length < q → acc.length ≤ 65536 →
    ∃ R, zAz l q (zAx acc) (j : Int) = some (zAx R) ∧ (fits (acc.length + 1) (r.map pc) = true → R = acc ++ Lib.joinTail [32] (r.map pc) ∧ R.length ≤ 65536) ∧ (fits (acc.length + 1) (r.map pc) = false → 65536 < R.length)
  | [], j, q+1, acc, h, h0, hj, _, ha => by
    have : j = l.length := by have : l.length ≤ j := by simpa using h
                              omega
    subst this
    refine ⟨acc, by rw [zAz, zAD, Bool.false_and]; rfl, fun _ => ⟨by simp [Lib.joinTail], ha⟩, fun hf => by simp [fits] at hf⟩
  | w :: r, j, q+1, acc, h, h0, hj, hq, ha => by
    obtain ⟨h1, h2, h3⟩ := zAE h
    have hlen := hl.len
    have hw : w ∈ l := List.mem_of_getElem? h1
    have hok := hall w hw
    have hm := zKF hok
    have hp := zQB hok
    rw [List.length_cons] at hq
    have e1 : zFk w = some (zAx (pc w)) := zQY (by omega) (hl.word w hw).2 hok
    have e3 : ∀ n : Nat, n ≤ 65536 → decide ((n : Int) ≤ 65536) = true := fun n hn => by simp; omega
    have e4 : (1 : Nat) ≤ j := h0
    have e5 : decide ((0 : Int) < (j : Int)) = true := by simp; omega
    have estep : zAz l (q+1) (zAx acc) (j : Int) = zAz l q (zAx (acc ++ 32 :: pc w)) ((j + 1 : Nat) : Int) := by
      rw [zAz, zAB h3, e3 _ (by rw [zCD]; exact ha), Bool.and_true, if_pos rfl, e5, if_pos rfl, zDl (by simp [zCD]; omega) (by simp [zCD]; omega), Option.bind_some, Option.bind_some,
        zAf h1, Option.bind_some, e1, Option.bind_some, zDl (by simp [zCD]; omega) (by simp [zCD]; omega), Option.bind_some, cks (by omega), Option.bind_some]
      congr 1
      simp [zAx]
    rw [estep, List.map_cons, fits]
    by_cases hc : 65537 < acc.length + 1 + ((pc w).length + 1)
    · rw [if_pos hc]
      refine ⟨acc ++ 32 :: pc w, ?_, fun hf => by simp at hf, fun _ => by simp; omega⟩
      obtain ⟨q, rfl⟩ : ∃ q', q = q' + 1 := ⟨q - 1, by omega⟩
      exact zRm (by simp [zCD]; omega)
    rw [if_neg hc]
    obtain ⟨R, r1, r2, r3⟩ := zQF hl hall r (j+1) q (acc ++ 32 :: pc w) h2 (by omega) h3 (by omega) (by simp; omega)
    have e6 : (acc ++ 32 :: pc w).length + 1 = acc.length + 1 + ((pc w).length + 1) := by simp; omega
    rw [e6] at r2 r3
    refine ⟨R, r1, fun hf => ?_, r3⟩
    obtain ⟨p1, p2⟩ := r2 hf
    exact ⟨by rw [p1]; simp [Lib.joinTail], p2⟩
  | _, _, 0, _, _, _, _, hq, _ => by omega
theorem zQA {l : List rWd} (hl : Sm l) (hall : ∀ w, w ∈ l → okW w = true) :
    ∃ R, zAz l fuel [] 0 = some (zAx R) ∧ (fits 0 (l.map pc) = true → R = Lib.join (l.map pc) [32] ∧ R.length ≤ 65536) ∧ (fits 0 (l.map pc) = false → 65536 < R.length) := by
  cases l with
  | nil => exact ⟨[], rfl, fun _ => ⟨rfl, by simp⟩, fun h => by cases h⟩
  | cons w r =>
    have hlen := hl.len
    rw [List.length_cons] at hlen
    have hw : w ∈ w :: r := by simp
    have hok := hall w hw
    have hm := zKF hok
    have hp := zQB hok
    have e1 : zFk w = some (zAx (pc w)) := zQY (by omega) (hl.word w hw).2 hok
    obtain ⟨q, hq⟩ : ∃ q, fuel = q + 1 := ⟨fuel - 1, rfl⟩
    have hq2 : r.length < q := by have : fuel = 18446744073709551616 := rfl
                                  omega
    have estep : zAz (w :: r) (q+1) [] ((0 : Nat) : Int) = zAz (w :: r) q (zAx (pc w)) ((0 + 1 : Nat) : Int) := by
      rw [zAz, zAB (by simp), show decide ((([] : List Int).length : Int) ≤ 65536) = true from rfl, Bool.and_true, if_pos rfl, show decide ((0 : Int) < ((0 : Nat) : Int)) = false from rfl, if_neg (by simp), Option.bind_some,
        zAf (x := w) rfl, Option.bind_some, e1, Option.bind_some, zDl (by simp [zCD]; omega) (by simp [zCD]; omega), Option.bind_some, cks (by omega), Option.bind_some, List.nil_append]
    obtain ⟨R, r1, r2, r3⟩ := zQF hl hall r (0+1) q (pc w) rfl (by omega) (by simp) hq2 (by omega)
    have hf : fits 0 ((w :: r).map pc) = fits ((pc w).length + 1) (r.map pc) := by
      rw [List.map_cons, fits, if_neg (by omega), Nat.zero_add]
    refine ⟨R, by rw [hq, show (0 : Int) = ((0 : Nat) : Int) from rfl, estep]; exact r1, fun h => ?_, fun h => r3 (hf ▸ h)⟩
    obtain ⟨p1, p2⟩ := r2 (hf ▸ h)
    exact ⟨by rw [p1, List.map_cons, Lib.join_cons], p2⟩
theorem zPz {l : List rWd} (hl : Sm l) (hall : ∀ w, w ∈ l → okW w = true) (hf : fits 0 (l.map pc) = true) : (Lib.join (l.map pc) [32]).length ≤ 65536 := by
 obtain ⟨R, _, r2, _⟩ := zQA hl hall
 obtain ⟨h1, h2⟩ := r2 hf
 rw [← h1]; exact h2
theorem textl_eq {l : List rWd} (hl : Sm l) : zD4 (l.map ucv) = some (textB l) := by
 unfold zD4 textB
 simp only [zBL]
 rw [textl_1 hl]
 by_cases ha : l.all okW = true
 ·have hall : ∀ w, w ∈ l → okW w = true := List.all_eq_true.1 ha
  rw [if_pos ha, if_pos ha]
  have hlen := hl.len
  have := zRM hl hall (fun v28 => (strings_Join v28 [32]).bind fun v29 => some (v29, none)) l 0 fuel 0 [] rfl (Nat.zero_le _) (by unfold fuel; omega) (Nat.zero_le _) (Nat.zero_le _)
  rw [show ((0 : Nat) : Int) = 0 from rfl] at this
  rw [this]
  by_cases hf : fits 0 (l.map pc) = true
  ·rw [if_pos hf, if_pos hf, List.nil_append]
   have := zPz hl hall hf
   unfold strings_Join joinS
   rw [if_pos ⟨by rw [List.length_map]; omega, by omega⟩]; rfl
  rw [if_neg hf, if_neg hf]
 rw [if_neg ha, if_neg ha]
theorem textr_eq {l : List rWd} (hl : Sm l) : zDI l = some ((textB l).1, code (textB l).2) := by
 unfold zDI textB
 simp only [zBL]
 rw [textr_1 hl]
 by_cases ha : l.all okW = true
 ·have hall : ∀ w, w ∈ l → okW w = true := List.all_eq_true.1 ha
  rw [if_pos ha, if_pos ha]
  obtain ⟨R, r1, r2, r3⟩ := zQA hl hall
  rw [r1, Option.bind_some]
  by_cases hf : fits 0 (l.map pc) = true
  ·obtain ⟨p1, p2⟩ := r2 hf
   rw [if_pos hf, if_neg (by simp [zCD]; omega), zJ1, p1]; rfl
  have := r3 (by simpa using hf)
  rw [if_neg hf, if_pos (by simp [zCD]; omega)]; rfl
 rw [if_neg ha, if_neg ha]; rfl
end Go.Cq.X13

