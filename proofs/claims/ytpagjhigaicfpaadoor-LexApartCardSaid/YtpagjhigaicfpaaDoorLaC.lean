import Derived.Test.YtpagjhigaicfpaaDoorQSp
import Derived.KernelRfl
set_option linter.unusedSectionVars false
set_option linter.unusedVariables false
set_option linter.unusedSimpArgs false
set_option maxRecDepth 100000
set_option linter.unusedVariables false
set_option linter.unusedSimpArgs false
namespace Go.Cq
open Go Go.Av

/-! ### Places in a text -/
theorem ck_nat {n : Nat} (h : n ≤ 9000000000000000000) : ck (n : Int) = some (n : Int) := by
  unfold ck; rw [if_pos (by omega)]
theorem ck_succ {n : Nat} (h : n ≤ 8000000000000000000) : ck ((n : Int) + 1) = some ((n + 1 : Nat) : Int) := by
  unfold ck; rw [if_pos (by omega)]; rfl
theorem drop_cons {s : Str} {j : Nat} {b : UInt8} {r : Str} (h : s.drop j = b :: r) : s[j]? = some b ∧ s.drop (j + 1) = r ∧ j < s.length := by
  have h1 : s[j]? = some b := by
    have := congrArg (·[0]?) h
    simpa using this
  refine ⟨h1, ?_, ?_⟩
  · have := congrArg (List.drop 1) h
    simpa [List.drop_drop, Nat.add_comm] using this
  · exact (List.getElem?_eq_some_iff.1 h1).1
theorem drop_nil {s : Str} {j : Nat} (h : s.drop j = []) : s.length ≤ j := by simpa using h
theorem sIdx_drop {s : Str} {j : Nat} {b : UInt8} {r : Str} (h : s.drop j = b :: r) : sIdx s (j : Int) = some (b.toNat : Int) := by
  obtain ⟨h1, _, h3⟩ := drop_cons h
  unfold sIdx
  rw [if_pos (by omega)]
  simp [List.getD_eq_getElem?_getD, h1]
theorem lt_drop {s : Str} {j : Nat} {b : UInt8} {r : Str} (h : s.drop j = b :: r) : decide ((j : Int) < (s.length : Int)) = true := by
  have := (drop_cons h).2.2
  simp; omega
theorem ge_drop {s : Str} {j : Nat} (h : s.drop j = []) : decide ((j : Int) < (s.length : Int)) = false := by
  have := drop_nil h
  simp; omega
theorem sub_drop {s : Str} {i n : Nat} (h : i + n ≤ s.length) : sub s (i : Int) ((i + n : Nat) : Int) = some ((s.drop i).take n) := by
  unfold sub
  rw [if_pos (by omega)]
  have e1 : ((i + n : Nat) : Int).toNat = i + n := by omega
  have e2 : ((i : Nat) : Int).toNat = i := by omega
  rw [e1, e2, List.drop_take]
  congr 2; omega
theorem sub_rest {s : Str} {i : Nat} (h : i ≤ s.length) : sub s (i : Int) (s.length : Int) = some (s.drop i) := by
  unfold sub
  rw [if_pos (by omega)]
  simp
theorem sub_zero {s : Str} {n : Nat} (h : n ≤ s.length) : sub s 0 (n : Int) = some (s.take n) := by
  unfold sub
  rw [if_pos (by omega)]
  simp

/-! ### How far a text is so -/
def sc (p : UInt8 → Bool) : Str → Nat
  | [] => 0
  | b :: r => bif p b then sc p r + 1 else 0
theorem sc_le (p : UInt8 → Bool) : ∀ r : Str, sc p r ≤ r.length
  | [] => Nat.le_refl _
  | b :: r => by
    unfold sc
    cases p b
    · simp
    · simpa using sc_le p r
theorem sc_all {p : UInt8 → Bool} : ∀ {r : Str}, sc p r = r.length ↔ ∀ b, b ∈ r → p b = true
  | [] => by simp [sc]
  | b :: r => by
    unfold sc
    cases h : p b with
    | false => simp [h]
    | true => simp [h, sc_all (r := r)]

theorem many_l1 {s : Str} {f : Int → Option Bool} {p : UInt8 → Bool} (hf : ∀ b : UInt8, f (b.toNat : Int) = some (p b)) (hs : s.length ≤ 8000000000000000000) : ∀ (r : Str) (j q : Nat), s.drop j = r → r.length < q → j ≤ s.length → lex_many_l1 s f q (j : Int) = some ((j + sc p r : Nat) : Int)
  | [], j, q+1, h, hq, hj => by
    unfold lex_many_l1
    rw [ge_drop h]
    simp [sc]
  | b :: r, j, q+1, h, hq, hj => by
    obtain ⟨h1, h2, h3⟩ := drop_cons h
    unfold lex_many_l1
    rw [lt_drop h]
    simp only [if_true, sIdx_drop h, Option.bind_some, hf]
    unfold sc
    cases p b with
    | false => simp
    | true =>
      simp only [if_true, cond_true]
      rw [ck_succ (by omega), Option.bind_some, many_l1 hf hs r (j + 1) q h2 (by simp at hq; omega) h3]
      congr 2; omega
  | _, _, 0, _, hq, _ => by omega
theorem many_eq {s : Str} {f : Int → Option Bool} {p : UInt8 → Bool} (hf : ∀ b : UInt8, f (b.toNat : Int) = some (p b)) (hs : s.length ≤ 8000000000000000000) : lex_many s f = some ((sc p s : Nat) : Int) := by
  unfold lex_many
  have := many_l1 hf hs s 0 fuel rfl (by unfold fuel; omega) (Nat.zero_le _)
  rw [Nat.zero_add] at this
  show (lex_many_l1 s f fuel ((0 : Nat) : Int)).bind _ = _
  rw [this]; rfl

/-! ### Bytes -/
def cl (b : UInt8) : Int := (ref13_class (b.toNat : Int)).getD 0
def pL (b : UInt8) : Bool := cl b == 97
def pD (b : UInt8) : Bool := cl b == 48
def pB (b : UInt8) : Bool := cl b == 43
def pE (b : UInt8) : Bool := cl b == 97 || cl b == 48
theorem all_bytes {P : Nat → Prop} (h : ∀ n, n < 256 → P n) (b : UInt8) : P b.toNat := h _ (UInt8.toNat_lt b)
theorem allB {p : UInt8 → Bool} (h : (List.range 256).all (fun n => p (UInt8.ofNat n)) = true) (b : UInt8) : p b = true := by
  have := List.all_eq_true.1 h b.toNat (by simpa using UInt8.toNat_lt b)
  simpa using this
theorem class_eq (b : UInt8) : ref13_class (b.toNat : Int) = some (cl b) := by
  have := allB (p := fun b => ref13_class (b.toNat : Int) == some (cl b)) (by kernel_rfl) b
  simpa using this
theorem letter_eq (b : UInt8) : lex_letter (b.toNat : Int) = some (pL b) := by
  have := allB (p := fun b => lex_letter (b.toNat : Int) == some (pL b)) (by kernel_rfl) b
  simpa using this
theorem digit_eq (b : UInt8) : lex_digit (b.toNat : Int) = some (pD b) := by
  have := allB (p := fun b => lex_digit (b.toNat : Int) == some (pD b)) (by kernel_rfl) b
  simpa using this
theorem idxB_pos {s : List UInt8} {c : UInt8} : 0 ≤ idxB s c ↔ c ∈ s := by
  letI : Lay := ⟨fun _ _ _ => False⟩
  rw [idxB_spec]
  cases h : s.findIdx? (· == c) with
  | none =>
    have : ∀ x, x ∈ s → ¬ (x == c) = true := by simpa using List.findIdx?_eq_none_iff.1 h
    constructor
    · intro h; exact absurd h (by decide)
    · intro hm; exact absurd (by simp) (this c hm)
  | some i =>
    have := List.findIdx?_eq_some_iff_getElem.1 h
    obtain ⟨hi, h2, _⟩ := this
    constructor
    · intro _; have : s[i] = c := by simpa using h2
      rw [← this]; exact List.getElem_mem hi
    · intro _; exact Int.natCast_nonneg i
theorem ofNat_toNat (b : UInt8) : UInt8.ofNat ((b.toNat : Int)).toNat = b := by simp
theorem idxByte_eq (s : Str) (b : UInt8) : strings_IndexByte s (b.toNat : Int) = some (idxB s b) := by
  unfold strings_IndexByte internal_stringslite_IndexByte bytealg_idx
  simp only [Option.bind_some, ofNat_toNat]
def pBn (n : Nat) : Bool := n == 43 || n == 45 || n == 42 || n == 47 || n == 92 || n == 60 || n == 62 || n == 61 || n == 126 || n == 44
theorem pBn_eq (b : UInt8) : pB b = pBn b.toNat := by
  have := allB (p := fun b => pB b == pBn b.toNat) (by kernel_rfl) b
  simpa using this
theorem pB_eq (b : UInt8) : pB b = decide (b ∈ [43, 45, 42, 47, 92, 60, 62, 61, 126, (44 : UInt8)]) := by
  rw [pBn_eq, Bool.eq_iff_iff]
  simp [pBn, ← UInt8.toNat_inj, or_assoc]
theorem bin_eq (b : UInt8) : lex_bin (b.toNat : Int) = some (pB b) := by
  unfold lex_bin
  rw [idxByte_eq, Option.bind_some, pB_eq]
  congr 1
  rw [decide_eq_decide]
  exact idxB_pos
theorem either_eq (b : UInt8) : lex_either (b.toNat : Int) = some (pE b) := by
  unfold lex_either
  rw [digit_eq, Option.bind_some, letter_eq]
  unfold pE pD pL
  cases cl b == 48 <;> cases cl b == 97 <;> rfl

/-! ### May -/
theorem all_step {s r : Str} {x y : Int} {K : Unit → Option Bool} {b : UInt8} {j q : Nat} (h : s.drop j = b :: r) (hj : j ≤ 8000000000000000000) :
    ref13_all_l1 s x y K (q + 1) (j : Int) = bif cl b == x || cl b == y then ref13_all_l1 s x y K q ((j + 1 : Nat) : Int) else some false := by
  rw [ref13_all_l1]
  rw [lt_drop h, if_pos rfl, sIdx_drop h, Option.bind_some, class_eq, Option.bind_some, ck_succ hj]
  generalize cl b = z
  by_cases e1 : z = x
  · rw [decide_eq_true e1, beq_iff_eq.2 e1]; rfl
  · by_cases e2 : z = y
    · rw [decide_eq_false e1, decide_eq_true e2, beq_iff_eq.2 e2, Bool.or_true]; rfl
    · rw [decide_eq_false e1, decide_eq_false e2, beq_eq_false_iff_ne.2 e1, beq_eq_false_iff_ne.2 e2]; rfl
theorem all_end {s : Str} {x y : Int} {K : Unit → Option Bool} {j q : Nat} (h : s.drop j = []) : ref13_all_l1 s x y K (q + 1) (j : Int) = K () := by
  rw [ref13_all_l1]
  rw [ge_drop h]; rfl
theorem all_l1 {s : Str} {x y : Int} {K : Unit → Option Bool} (hs : s.length ≤ 8000000000000000000) : ∀ (r : Str) (j q : Nat), s.drop j = r → r.length < q → j ≤ s.length → ref13_all_l1 s x y K q (j : Int) = if (r.all fun b => cl b == x || cl b == y) then K () else some false
  | [], j, q+1, h, hq, hj => all_end h
  | b :: r, j, q+1, h, hq, hj => by
    obtain ⟨h1, h2, h3⟩ := drop_cons h
    rw [all_step h (Nat.le_trans hj hs), all_l1 hs r (j + 1) q h2 (by simp at hq; omega) h3, List.all_cons]
    cases cl b == x || cl b == y <;> rfl
  | _, _, 0, _, hq, _ => absurd hq (Nat.not_lt_zero _)
theorem all_eq {s : Str} {x y : Int} (hs : s.length ≤ 8000000000000000000) : ref13_all s x y = some (s.all fun b => cl b == x || cl b == y) := by
  have := all_l1 (x := x) (y := y) (K := fun _ => some true) hs s 0 fuel rfl (by unfold fuel; omega) (Nat.zero_le _)
  show ref13_all_l1 s x y (fun _ => some true) fuel ((0 : Nat) : Int) = _
  rw [this]
  cases s.all fun b => cl b == x || cl b == y <;> rfl
theorem sc_dec {p : UInt8 → Bool} {s : Str} : decide (((sc p s : Nat) : Int) = (s.length : Int)) = s.all p := by
  have : (((sc p s : Nat) : Int) = (s.length : Int)) ↔ sc p s = s.length := by omega
  rw [Bool.eq_iff_iff]
  simp [this, sc_all]
end Go.Cq

