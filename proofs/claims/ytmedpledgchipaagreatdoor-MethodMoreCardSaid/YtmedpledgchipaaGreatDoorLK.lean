import Derived.Test.YtmedpledgchipaaGreatDoorL3
import Derived.KernelRfl
set_option linter.unusedSectionVars false
set_option linter.unusedVariables false
set_option linter.unusedSimpArgs false
set_option linter.unnecessarySimpa false
set_option maxRecDepth 100000
namespace Go.Cq
open Go Go.Av Go.Proofs
theorem sure09 : law09_sure = some true := by kernel_rfl
end Go.Cq

set_option maxRecDepth 100000
namespace Go.Cq
open Go Go.Av
def bytesOk (l : List Int) : Prop := ∀ x, x ∈ l → ∃ n : Nat, x = (n : Int) ∧ n < 256
theorem or_i64 (a b : Nat) (ha : a < 9223372036854775808) (hb : b < 9223372036854775808) : bitv .or .i64 (a : Int) (b : Int) = ((a ||| b : Nat) : Int) := by
 have hx : a ||| b < 2 ^ 63 := Nat.or_lt_two_pow (by omega) (by omega)
 have h1 : (BitVec.ofInt 64 (a : Int)).toNat = a := by
  rw [BitVec.ofInt_natCast, BitVec.toNat_ofNat]; exact Nat.mod_eq_of_lt (by omega)
 have h2 : (BitVec.ofInt 64 (b : Int)).toNat = b := by
  rw [BitVec.ofInt_natCast, BitVec.toNat_ofNat]; exact Nat.mod_eq_of_lt (by omega)
 show IntKind.i64.wrap ((BitVec.ofInt 64 (a : Int) ||| BitVec.ofInt 64 (b : Int)).toNat : Nat) = _
 rw [BitVec.toNat_or, h1, h2, IntKind.wrap_i64]
 have : (2:Nat) ^ 63 = 9223372036854775808 := by decide
 omega
theorem shl8 (a : Nat) (ha : a < 16777216) : shl .i64 (a : Int) 8 = some ((256 * a : Nat) : Int) := by
 have h0 : (0 : Int) ≤ 8 := by omega
 have h1 : (min (8 : Int).toNat IntKind.i64.bits) = 8 := rfl
 unfold shl
 rw [if_pos h0, h1]
 have h2 : (a : Int) * 2 ^ 8 = ((256 * a : Nat) : Int) := by
  have : (2 : Int) ^ 8 = 256 := rfl
  rw [this]; omega
 rw [h2, IntKind.wrap_i64]
 have h3 : ((256 * a : Nat) : Int) < 9223372036854775808 := by omega
 have h4 : (0 : Int) ≤ ((256 * a : Nat) : Int) := by omega
 generalize ((256 * a : Nat) : Int) = z at *
 have : (z + 9223372036854775808) % 18446744073709551616 - 9223372036854775808 = z := by omega
 rw [this]
def numN : Nat → List Int → Nat
 | n, [] => n
 | n, x :: l => numN (256 * n + x.toNat) l
theorem or_add (a b : Nat) (hb : b < 256) : 256 * a ||| b = 256 * a + b := by
 have := Nat.shiftLeft_add_eq_or_of_lt (i := 8) (b := b) (by omega) a
 rw [Nat.shiftLeft_eq] at this
 have e : a * 2 ^ 8 = 256 * a := by omega
 rw [e] at this
 exact this.symm
theorem number_run (b : List Int) (hb : bytesOk b) (hl : b.length ≤ 2) : op_number b = some ((numN 0 b : Nat) : Int) := by
  have one : ∀ (q : Nat) (a j x : Nat), a < 16777216 → b[j]? = some (x : Int) → x < 256 → j < 2 → op_number_l1 b (q+1) (a : Int) (j : Int) = op_number_l1 b q ((256 * a + x : Nat) : Int) ((j + 1 : Nat) : Int) := fun q a j x ha hj hx hj2 => by
    have hlt := (List.getElem?_eq_some_iff.1 hj).1
    simp only [op_number_l1]
    rw [lt_len hlt, if_pos rfl, lAt_nat hj, bindS, shl8 a ha, bindS, ckn (by omega), bindS, cks (by omega), bindS, or_i64 _ _ (by omega) (by omega), or_add _ _ hx]
  have fin : ∀ (q : Nat) (a : Int), op_number_l1 b (q+1) a ((b.length : Nat) : Int) = some a := fun q a => by
    simp only [op_number_l1]
    rw [ge_len, ifF]
  unfold op_number
  rw [show fuel = (fuel - 3) + 1 + 1 + 1 from rfl]
  have e : ∀ o : Option Int, (o.bind fun y1 => some y1) = o := fun o => by cases o <;> rfl
  rw [e]
  match b, hl, hb, one, fin with
  | [], _, _, _, fin => exact fin _ 0
  | [x], _, hb, one, fin =>
    obtain ⟨n, rfl, hn⟩ := hb x (by simp)
    have h1 := one (fuel - 3 + 1 + 1) 0 0 n (by omega) rfl hn (by omega)
    have h3 := fin (fuel - 3 + 1) ((256 * 0 + n : Nat) : Int)
    exact h1.trans h3
  | [x, y], _, hb, one, fin =>
    obtain ⟨n, rfl, hn⟩ := hb x (by simp)
    obtain ⟨m, rfl, hm⟩ := hb y (by simp)
    have h1 := one (fuel - 3 + 1 + 1) 0 0 n (by omega) rfl hn (by omega)
    have h2 := one (fuel - 3 + 1) (256 * 0 + n) 1 m (by omega) rfl hm (by omega)
    have h3 := fin (fuel - 3) ((256 * (256 * 0 + n) + m : Nat) : Int)
    exact h1.trans (h2.trans h3)
def w0 (c : Nat) : Nat := [0, 0, 0, 0, 1, 1, 1, 1, 1, 0, 0, 1, 1, 2, 2, 0, 1, 0, 0, 0, 1].getD c 0
def w1 (c : Nat) : Nat := [0, 0, 0, 0, 0, 1, 1, 0, 0, 0, 0, 1, 1, 0, 2, 0, 0, 0, 0, 0, 0].getD c 0
theorem w0_le (c : Nat) : w0 c ≤ 2 := by
 by_cases h : c < 21
 ·have : (List.range 21).all (fun c => decide (w0 c ≤ 2)) = true := by decide
  have := List.all_eq_true.1 this c (by simpa using h)
  simpa using this
 ·unfold w0; rw [List.getD_eq_getElem?_getD, List.getElem?_eq_none (by simp; omega)]; simp
theorem w1_le (c : Nat) : w1 c ≤ 2 := by
 by_cases h : c < 21
 ·have : (List.range 21).all (fun c => decide (w1 c ≤ 2)) = true := by decide
  have := List.all_eq_true.1 this c (by simpa using h)
  simpa using this
 ·unfold w1; rw [List.getD_eq_getElem?_getD, List.getElem?_eq_none (by simp; omega)]; simp
theorem forms (c : Nat) (h : c < 256) : op_Size (c : Int) = some (if c ≤ 20 then ((1 + w0 c + w1 c : Nat) : Int) else 0) ∧ ∃ f, op_Form (c : Int) = some (f, decide (c ≤ 20)) ∧ op_width f 0 = some ((w0 c : Nat) : Int) ∧ op_width f 1 = some ((w1 c : Nat) : Int) := by
 have : (List.range 256).all (fun c => decide (op_Size (c : Int) = some (if c ≤ 20 then ((1 + w0 c + w1 c : Nat) : Int) else 0)) && (match op_Form (c : Int) with | some (f, b) => decide (b = decide (c ≤ 20)) && decide (op_width f 0 = some ((w0 c : Nat) : Int)) && decide (op_width f 1 = some ((w1 c : Nat) : Int)) | none => false)) = true := by decide +kernel
 have := List.all_eq_true.1 this c (by simpa using h)
 simp only [Bool.and_eq_true, decide_eq_true_eq] at this
 refine ⟨this.1, ?_⟩
 have h2 := this.2
 split at h2
 ·rename_i f b e
  simp only [Bool.and_eq_true, decide_eq_true_eq] at h2
  exact ⟨f, by rw [e, h2.1.1], h2.1.2, h2.2⟩
 ·cases h2
def decP : Nat → List Int → Nat → Option (List (op_Op × Nat))
 | _, [], _ => some []
 | 0, _ :: _, _ => none
 | n+1, c :: r, i =>
  if c.toNat ≤ 20 then
   if r.length < w0 c.toNat + w1 c.toNat then none
   else (decP n (r.drop (w0 c.toNat + w1 c.toNat)) (i + (1 + w0 c.toNat + w1 c.toNat))).map fun l => (⟨c, (numN 0 (r.take (w0 c.toNat)) : Nat), (numN 0 ((r.drop (w0 c.toNat)).take (w1 c.toNat)) : Nat)⟩, i) :: l
  else none
theorem bytesOk_sub {l l' : List Int} (h : bytesOk l) (hs : ∀ x, x ∈ l' → x ∈ l) : bytesOk l' := fun x hx => h x (hs x hx)
theorem decode_run (b : List Int) (hb : bytesOk b) (hl : b.length ≤ 100000) (K : List op_Op → List Int → Option (List op_Op × List Int × Option Int)) :
    ∀ (n q i : Nat) (v3 : List op_Op) (v4 : List Int), (b.drop i).length ≤ n → n < q → i ≤ b.length → v3.length ≤ i → v4.length ≤ i →
      op_Decode_l1 b K q v3 v4 (i : Int) = match decP n (b.drop i) i with | none => some ([], [], some 8) | some l => K (v3 ++ l.map (·.1)) (v4 ++ l.map fun x => (x.2 : Int)) := by
  intro n
  induction n with
  | zero =>
    intro q i v3 v4 h1 h2 h3 h4 h5
    obtain ⟨q, rfl⟩ : ∃ q', q = q' + 1 := ⟨q - 1, by omega⟩
    have he : b.drop i = [] := List.eq_nil_of_length_eq_zero (by omega)
    obtain rfl : i = b.length := by
      have := congrArg List.length he
      simp at this; omega
    simp only [op_Decode_l1]
    rw [ge_len, ifF, he]
    simp [decP]
  | succ n ih =>
    intro q i v3 v4 h1 h2 h3 h4 h5
    obtain ⟨q, rfl⟩ : ∃ q', q = q' + 1 := ⟨q - 1, by omega⟩
    cases hd : b.drop i with
    | nil =>
      obtain rfl : i = b.length := by
        have := congrArg List.length hd
        simp at this; omega
      simp only [op_Decode_l1]
      rw [ge_len, ifF]
      simp [decP]
    | cons c r =>
      obtain ⟨e1, e2, e3⟩ := getDrop hd
      obtain ⟨k, rfl, hk⟩ := hb c (List.mem_of_getElem? e1)
      have hrl : r.length = b.length - (i + 1) := by rw [← e2, List.length_drop]
      obtain ⟨f1, f, f2, f3, f4⟩ := forms k hk
      have l0 := w0_le k
      have l1 := w1_le k
      simp only [op_Decode_l1, decP, Int.toNat_natCast]
      rw [lt_len e3, if_pos rfl, lAt_nat e1, bindS, f1, bindS]
      by_cases hk20 : k ≤ 20
      · rw [if_pos hk20, if_pos hk20]
        have d0 : decide (((1 + w0 k + w1 k : Nat) : Int) = 0) = false := decide_eq_false (by omega)
        rw [d0, ifF, ck_of (by omega) (by omega), bindS, bindS]
        by_cases hs : r.length < w0 k + w1 k
        · have d1 : decide (((b.length : Nat) : Int) - (i : Int) < ((1 + w0 k + w1 k : Nat) : Int)) = true := decide_eq_true (by omega)
          rw [d1, if_pos rfl, if_pos hs]
        · have d1 : decide (((b.length : Nat) : Int) - (i : Int) < ((1 + w0 k + w1 k : Nat) : Int)) = false := decide_eq_false (by omega)
          rw [d1, ifF, if_neg hs, f2, bindS, cks (by omega), bindS, f3, bindS]
          have a1 : ((i + 1 : Nat) : Int) + ((w0 k : Nat) : Int) = ((i + 1 + w0 k : Nat) : Int) := by omega
          rw [a1, ckn (by omega), bindS]
          have s1 : sub b ((i + 1 : Nat) : Int) ((i + 1 + w0 k : Nat) : Int) = some (r.take (w0 k)) := by
            unfold sub
            rw [if_pos ⟨by omega, by omega, by omega⟩]
            simp only [Int.toNat_natCast]
            rw [List.drop_take, show i + 1 + w0 k - (i + 1) = w0 k by omega, e2]
          have a2 : ((i : Nat) : Int) + ((1 + w0 k + w1 k : Nat) : Int) = ((i + (1 + w0 k + w1 k) : Nat) : Int) := by omega
          have s2 : sub b ((i + 1 + w0 k : Nat) : Int) ((i + (1 + w0 k + w1 k) : Nat) : Int) = some ((r.drop (w0 k)).take (w1 k)) := by
            unfold sub
            rw [if_pos ⟨by omega, by omega, by omega⟩]
            simp only [Int.toNat_natCast]
            rw [List.drop_take, show i + (1 + w0 k + w1 k) - (i + 1 + w0 k) = w1 k by omega, ← List.drop_drop, e2]
          have hbr : bytesOk r := bytesOk_sub hb fun x hx => by rw [← e2] at hx; exact List.mem_of_mem_drop hx
          rw [s1, bindS, number_run _ (bytesOk_sub hbr fun x hx => List.mem_of_mem_take hx) (by rw [List.length_take]; omega), bindS, a2, ckn (by omega), bindS, s2, bindS,
            number_run _ (bytesOk_sub hbr fun x hx => List.mem_of_mem_drop (List.mem_of_mem_take hx)) (by rw [List.length_take]; omega), bindS,
            app_of (by simp; omega) (by simp; omega), bindS, app_of (by simp; omega) (by simp; omega), bindS]
          have hdd : b.drop (i + (1 + w0 k + w1 k)) = r.drop (w0 k + w1 k) := by
            rw [← e2, List.drop_drop]
            congr 1
            omega
          rw [ih q (i + (1 + w0 k + w1 k)) _ _ (by rw [hdd, List.length_drop]; have : (b.drop i).length = r.length + 1 := by rw [hd]; rfl
                                                   omega) (by omega) (by omega) (by simp; omega) (by simp; omega), hdd]
          cases decP n (r.drop (w0 k + w1 k)) (i + (1 + w0 k + w1 k)) with
          | none => rfl
          | some l => simp
      · rw [if_neg hk20, if_neg hk20]
        rw [show decide ((0 : Int) = 0) = true from rfl, if_pos rfl, bindS, if_pos rfl]
end Go.Cq

set_option maxRecDepth 100000
namespace Go.Cq
open Go Go.Av
theorem numN_lt : ∀ (l : List Int), bytesOk l → l.length ≤ 2 → numN 0 l < 65536
 | [], _, _ => by simp [numN]
 | [x], hb, _ => by
  obtain ⟨n, rfl, hn⟩ := hb x (by simp)
  simp [numN]; omega
 | [x, y], hb, _ => by
  obtain ⟨n, rfl, hn⟩ := hb x (by simp)
  obtain ⟨m, rfl, hm⟩ := hb y (by simp)
  simp [numN]; omega
def goodOp (o : op_Op) : Prop := ∃ c a b : Nat, o = ⟨c, a, b⟩ ∧ c ≤ 20 ∧ a < 65536 ∧ b < 65536
theorem decP_good : ∀ (n : Nat) (r : List Int) (i : Nat) (L : List (op_Op × Nat)), bytesOk r → decP n r i = some L → (∀ x, x ∈ L → goodOp x.1 ∧ i ≤ x.2) ∧ (L.map (·.2)).Pairwise (· < ·) ∧ L.length ≤ r.length
  | n, [], i, L, _, h => by
    have : decP n [] i = some [] := by cases n <;> rfl
    rw [this] at h; cases h
    simp
  | 0, _ :: _, i, L, _, h => by cases h
  | n+1, c :: r, i, L, hb, h => by
    obtain ⟨k, rfl, hk⟩ := hb c (by simp)
    have hbr : bytesOk r := bytesOk_sub hb fun x hx => by simp [hx]
    simp only [decP, Int.toNat_natCast] at h
    split at h
    · rename_i hk20
      split at h
      · cases h
      · rename_i hlen
        rw [Option.map_eq_some_iff] at h
        obtain ⟨l, hl, rfl⟩ := h
        obtain ⟨h1, h2, h3⟩ := decP_good n _ _ l (bytesOk_sub hbr fun x hx => List.mem_of_mem_drop hx) hl
        refine ⟨fun x hx => ?_, ?_, ?_⟩
        · rcases List.mem_cons.1 hx with rfl | hx
          · exact ⟨⟨k, _, _, rfl, hk20, numN_lt _ (bytesOk_sub hbr fun x hx => List.mem_of_mem_take hx) (by have := w0_le k; rw [List.length_take]; omega), numN_lt _ (bytesOk_sub hbr fun x hx => List.mem_of_mem_drop (List.mem_of_mem_take hx)) (by have := w1_le k; rw [List.length_take]; omega)⟩, Nat.le_refl _⟩
          · have := h1 x hx
            exact ⟨this.1, by omega⟩
        · rw [List.map_cons, List.pairwise_cons]
          refine ⟨fun y hy => ?_, h2⟩
          obtain ⟨z, hz, rfl⟩ := List.mem_map.1 hy
          have := (h1 z hz).2
          omega
        · rw [List.length_drop] at h3
          simp; omega
    · cases h
theorem opDecode (b : List Int) (hb : bytesOk b) : op_Decode b = some (if 512 < b.length then ([], [], some (4 : Int)) else match decP b.length b 0 with | none => ([], [], some (8 : Int)) | some l => (l.map (·.1), l.map (fun x => (x.2 : Int)), none)) := by
  unfold op_Decode
  by_cases h : 512 < b.length
  · rw [decide_eq_true (by omega), if_pos rfl, if_pos h]
  · rw [decide_eq_false (by omega), ifF, if_neg h, letK_e]
    have := decode_run b hb (by omega) (fun v43 v44 => some (v43, v44, none)) b.length fuel 0 [] [] (by simp) (by unfold fuel; omega) (by omega) (by simp) (by simp)
    rw [show ((0 : Nat) : Int) = 0 from rfl] at this
    rw [this, List.drop_zero]
    cases decP b.length b 0 <;> simp
def Asc (l : List Int) : Prop := ∀ (i j : Nat) (x y : Int), i < j → l[i]? = some x → l[j]? = some y → x < y
theorem half_run (a : Nat) (h : a < 1000000) : shr .u64 (IntKind.wrap .u64 (a : Int)) 1 = some ((a / 2 : Nat) : Int) := by
 have e : IntKind.wrap .u64 (a : Int) = (a : Int) := by rw [IntKind.wrap_u64]; omega
 have h1 : (min (1 : Int).toNat IntKind.u64.bits) = 1 := rfl
 unfold shr
 rw [e, if_pos (by omega), h1]
 have : (2 : Int) ^ 1 = 2 := rfl
 rw [this, Int.fdiv_eq_ediv_of_nonneg _ (by omega)]
 congr 1
theorem wrap_nat (a : Nat) (h : a < 1000000) : IntKind.wrap .i64 (a : Int) = (a : Int) := by rw [IntKind.wrap_i64]; omega
theorem less_run (x y : Int) : cmp_Less_int x y = some (decide (x < y)) := by
 unfold cmp_Less_int cmp_isNaN_int
 simp
theorem bs_run (l : List Int) (t : Int) (hl : l.length ≤ 100000) (hs : Asc l) : ∀ (n q lo hi : Nat), hi - lo ≤ n → n < q → lo ≤ hi → hi ≤ l.length → (∀ j x, j < lo → l[j]? = some x → x < t) → (∀ j x, hi ≤ j → l[j]? = some x → t ≤ x) →
  ∃ k : Nat, slices_BinarySearch_Lint_int_l1 l t q (lo : Int) (hi : Int) = some (k : Int) ∧ k ≤ l.length ∧ (∀ j x, j < k → l[j]? = some x → x < t) ∧ (∀ j x, k ≤ j → l[j]? = some x → t ≤ x) := by
 intro n
 induction n with
 | zero =>
  intro q lo hi h1 h2 h3 h4 h5 h6
  obtain ⟨q, rfl⟩ : ∃ q', q = q' + 1 := ⟨q - 1, by omega⟩
  obtain rfl : lo = hi := by omega
  refine ⟨lo, ?_, h4, h5, h6⟩
  simp only [slices_BinarySearch_Lint_int_l1]
  rw [decide_eq_false (by omega), ifF]
 | succ n ih =>
  intro q lo hi h1 h2 h3 h4 h5 h6
  obtain ⟨q, rfl⟩ : ∃ q', q = q' + 1 := ⟨q - 1, by omega⟩
  simp only [slices_BinarySearch_Lint_int_l1]
  by_cases hlt : lo < hi
  ·have hm : (lo + hi) / 2 < l.length := by omega
   have hx : l[(lo + hi) / 2]? = some (l[(lo + hi) / 2]) := List.getElem?_eq_getElem hm
   have e0 : (lo : Int) + (hi : Int) = ((lo + hi : Nat) : Int) := by omega
   rw [decide_eq_true (by omega), if_pos rfl, e0, ckn (by omega), bindS, half_run _ (by omega), bindS, wrap_nat _ (by omega), lAt_nat hx, bindS, less_run, bindS]
   by_cases hc : l[(lo + hi) / 2] < t
   ·rw [decide_eq_true hc, if_pos rfl, cks (by omega), bindS, bindS]
    exact ih q ((lo + hi) / 2 + 1) hi (by omega) (by omega) (by omega) h4 (fun j x hj hjx => by
     by_cases e : j = (lo + hi) / 2
     ·subst e; rw [hx] at hjx; cases hjx; exact hc
     ·have := hs j ((lo + hi) / 2) x _ (by omega) hjx hx
      omega) h6
   ·rw [decide_eq_false hc, ifF, bindS]
    exact ih q lo ((lo + hi) / 2) (by omega) (by omega) (by omega) (by omega) h5 (fun j x hj hjx => by
     by_cases e : j = (lo + hi) / 2
     ·subst e; rw [hx] at hjx; cases hjx; omega
     ·have := hs ((lo + hi) / 2) j _ x (by omega) hx hjx
      omega)
  ·obtain rfl : lo = hi := by omega
   rw [decide_eq_false (by omega), ifF]
   exact ⟨lo, rfl, h4, h5, h6⟩
theorem place_run (c : flow_code) (a : Int) (hl : c.at_.length ≤ 100000) (hs : Asc c.at_) : (∃ k : Nat, flow_code_place c a = some ((k : Int), true) ∧ c.at_[k]? = some a) ∨ (∃ k : Nat, flow_code_place c a = some ((k : Int), false) ∧ a ∉ c.at_) := by
 obtain ⟨k, e, h1, h2, h3⟩ := bs_run c.at_ a hl hs c.at_.length fuel 0 c.at_.length (by omega) (by unfold fuel; omega) (by omega) (Nat.le_refl _) (fun j x hj => by omega) (fun j x hj hjx => by have := (List.getElem?_eq_some_iff.1 hjx).1; omega)
 unfold flow_code_place slices_BinarySearch_Lint_int
 rw [show ((0 : Nat) : Int) = 0 from rfl] at e
 rw [e, bindS]
 by_cases hk : k < c.at_.length
 ·have hx : c.at_[k]? = some c.at_[k] := List.getElem?_eq_getElem hk
  rw [lt_len hk, if_pos rfl, lAt_nat hx, bindS]
  by_cases hc : c.at_[k] = a
  ·rw [decide_eq_true hc, if_pos rfl, bindS, bindS]
   exact .inl ⟨k, rfl, by rw [hx, hc]⟩
  ·rw [decide_eq_false hc, ifF]
   refine .inr ⟨k, ?_, fun hm => ?_⟩
   ·unfold slices_isNaN_int; simp
   ·obtain ⟨j, hj⟩ := List.getElem?_of_mem hm
    rcases Nat.lt_trichotomy j k with h | h | h
    ·have := h2 j a h hj; omega
    ·subst h; rw [hx] at hj; cases hj; exact hc rfl
    ·have q1 := hs k j _ _ h hx hj
     have q2 := h3 k _ (Nat.le_refl _) hx
     omega
 ·rw [decide_eq_false (by omega), ifF, bindS, bindS]
  refine .inr ⟨k, rfl, fun hm => ?_⟩
  obtain ⟨j, hj⟩ := List.getElem?_of_mem hm
  have := (List.getElem?_eq_some_iff.1 hj).1
  have := h2 j a (by omega) hj
  omega
end Go.Cq

