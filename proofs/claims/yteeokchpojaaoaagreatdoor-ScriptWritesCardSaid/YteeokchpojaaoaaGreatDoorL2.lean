import Derived.Test.YteeokchpojaaoaaGreatDoorL1
import Derived.Lib.SplitLaws
set_option linter.unusedSectionVars false
set_option linter.unusedVariables false
set_option linter.unusedSimpArgs false
set_option maxRecDepth 100000
set_option linter.unusedVariables false
set_option linter.unusedSimpArgs false
namespace Go.Cq
open Go Go.Av

def toV (v : ref11_Val) : api_Val := ⟨v.K, v.N, v.L⟩
/-- May a value be? -/
def mayV (K N L : Int) : Bool :=
  if ((decide (L < 0)) || (decide (8 ≤ L))) then false
  else if (decide (K = 0)) || (decide (K = 1)) || (decide (K = 2)) then decide (N = 0)
  else if (decide (K = 3)) then ((decide (((-2305843009213693952) : Int) ≤ N)) && (decide (N ≤ 2305843009213693951)))
  else if (decide (K = 4)) then ((decide ((0 : Int) ≤ N)) && (decide (N < 65536)))
  else if (decide (K = 5)) then ((decide ((0 : Int) ≤ N)) && (decide (N < 64)))
  else false
theorem may_obj (v : api_Val) : object_Value 8 v = some (mayV v.K v.N v.L) := by
  unfold object_Value mayV
  cases h0 : (decide (v.L < 0) || decide (8 ≤ v.L)) with
  | true => rw [ifT, ifT]
  | false =>
    rw [ifF, ifF]
    cases h1 : decide (v.K = 0) <;> cases h2 : decide (v.K = 1) <;> cases h3 : decide (v.K = 2) <;> cases h4 : decide (v.K = 3) <;> cases h5 : decide (v.K = 4) <;> cases h6 : decide (v.K = 5) <;> simp only [ifT, ifF, ifTr, ifFa, Bool.false_eq_true, bindS, Bool.or_true, Bool.true_or, Bool.or_false, Bool.false_or]
theorem may_ref (v : ref11_Val) : ref11_Value 8 v = some (mayV v.K v.N v.L) := by
  unfold ref11_Value mayV
  have e1 : decide (v.N ≤ 65535) = decide (v.N < 65536) := by congr 1; apply propext; omega
  have e2 : decide (v.N ≤ 63) = decide (v.N < 64) := by congr 1; apply propext; omega
  rw [e1, e2]
  cases h0 : (decide (v.L < 0) || decide (8 ≤ v.L)) with
  | true => rw [ifT, ifT]
  | false =>
    rw [ifF, ifF]
    cases h1 : decide (v.K = 0) <;> cases h2 : decide (v.K = 1) <;> cases h3 : decide (v.K = 2) <;> cases h4 : decide (v.K = 3) <;> cases h5 : decide (v.K = 4) <;> cases h6 : decide (v.K = 5) <;> simp only [ifT, ifF, ifTr, ifFa, Bool.false_eq_true, bindS, Bool.or_true, Bool.true_or, Bool.or_false, Bool.false_or]
/-- A value that may be has a kind below 6. -/
theorem mayV_K {K N L : Int} (h : mayV K N L = true) : (K = 0 ∨ K = 1 ∨ K = 2 ∨ K = 3 ∨ K = 4 ∨ K = 5) ∧ 0 ≤ L ∧ L < 8 := by
  unfold mayV at h
  split at h
  · cases h
  · rename_i hL
    simp only [Bool.or_eq_true, decide_eq_true_eq, not_or] at hL
    refine ⟨?_, by omega, by omega⟩
    split at h
    · rename_i hk; simp only [Bool.or_eq_true, decide_eq_true_eq] at hk; omega
    · split at h
      · rename_i hk; have := of_decide_eq_true hk; omega
      · split at h
        · rename_i hk; have := of_decide_eq_true hk; omega
        · split at h
          · rename_i hk; have := of_decide_eq_true hk; omega
          · cases h
/-- The text of a value that may be. -/
def valS (K N : Int) : Str := if K = 0 then [110, 105, 108] else if K = 1 then [102, 97, 108, 115, 101] else if K = 2 then [116, 114, 117, 101] else if K = 4 then 35 :: Lib.itoa N else if K = 5 then 64 :: Lib.itoa N else Lib.itoa N
def valT (K N L : Int) : Str := valS K N ++ [47] ++ Lib.itoa L
theorem itoa21 {n : Int} (h0 : -9223372036854775808 ≤ n) (h1 : n ≤ 9223372036854775807) : (Lib.itoa n).length ≤ 20 := by
  rcases itoa_cases n h0 h1 with ⟨u, q, _, h⟩ | ⟨u, _, q, _, h⟩
  · have := dec_len 19 u (by omega) (by have : (10 : Nat) ^ 19 = 10000000000000000000 := by decide
                                        omega)
    rw [h]; omega
  · have := dec_len 19 u (by omega) (by have : (10 : Nat) ^ 19 = 10000000000000000000 := by decide
                                        omega)
    rw [h]; simp; omega
theorem script_val (v : api_Val) (hN : -9223372036854775808 ≤ v.N ∧ v.N ≤ 9223372036854775807) : script_Value v = some (if mayV v.K v.N v.L = true then (valT v.K v.N v.L, none) else ([], some 1)) := by
  unfold script_Value
  rw [may_obj, bindS]
  cases hm : mayV v.K v.N v.L with
  | false => rw [show (!false) = true from rfl, ifT, ifF]
  | true =>
    obtain ⟨hK, hL0, hL1⟩ := mayV_K hm
    have l1 := itoa21 hN.1 hN.2
    have l2 := itoa21 (n := v.L) (by omega) (by omega)
    rw [show (!true) = false from rfl, ifF, ifT]
    unfold strconv_Itoa itoaS
    rw [bindS, cat_of (by simp; omega), bindS, cat_of (by simp; omega), bindS]
    have key : ∀ (t : Str), t.length ≤ 30 → ((cat t [47]).bind fun v14 => (some (Lib.itoa v.L)).bind fun v15 => (cat v14 v15).bind fun v18 => some (v18, (none : Option Int))) = some (t ++ [47] ++ Lib.itoa v.L, none) := fun t ht => by
      rw [cat_of (by simp; omega), bindS, bindS, cat_of (by simp; omega), bindS]
    unfold valT valS
    rcases hK with h | h | h | h | h | h <;> rw [h]
    · exact key [110, 105, 108] (by decide)
    · exact key [102, 97, 108, 115, 101] (by decide)
    · exact key [116, 114, 117, 101] (by decide)
    · exact key (Lib.itoa v.N) (by omega)
    · exact key (35 :: Lib.itoa v.N) (by simp; omega)
    · exact key (64 :: Lib.itoa v.N) (by simp; omega)
theorem ref_val (v : ref11_Val) (hN : -9223372036854775808 ≤ v.N ∧ v.N ≤ 9223372036854775807) : ref30_Value v = some (if mayV v.K v.N v.L = true then (valT v.K v.N v.L, 0) else ([], 1)) := by
  unfold ref30_Value
  rw [may_ref, bindS]
  cases hm : mayV v.K v.N v.L with
  | false => rw [show (!false) = true from rfl, ifT, ifF]
  | true =>
    obtain ⟨hK, hL0, hL1⟩ := mayV_K hm
    have l1 := itoa21 hN.1 hN.2
    have l2 := itoa21 (n := v.L) (by omega) (by omega)
    rw [show (!true) = false from rfl, ifF, ifT, digits_itoa _ hN.1 hN.2, bindS, digits_itoa v.L (by omega) (by omega)]
    have key : ∀ (t : Str), t.length ≤ 30 → ((cat t [47]).bind fun v14 => (some (Lib.itoa v.L)).bind fun v15 => (cat v14 v15).bind fun v18 => some (v18, (0 : Int))) = some (t ++ [47] ++ Lib.itoa v.L, 0) := fun t ht => by
      rw [cat_of (by simp; omega), bindS, bindS, cat_of (by simp; omega), bindS]
    unfold valT valS
    rcases hK with h | h | h | h | h | h <;> rw [h]
    · exact key [110, 105, 108] (by decide)
    · exact key [102, 97, 108, 115, 101] (by decide)
    · exact key [116, 114, 117, 101] (by decide)
    · exact key (Lib.itoa v.N) (by omega)
    · rw [show decide ((4 : Int) < 3) = false from rfl, ifF, bindS, show decide ((4 : Int) = 4) = true from rfl, ifT, cat_of (by simp; omega)]
      exact key (35 :: Lib.itoa v.N) (by simp; omega)
    · rw [show decide ((5 : Int) < 3) = false from rfl, ifF, bindS, show decide ((5 : Int) = 4) = false from rfl, ifF, bindS, show decide ((5 : Int) = 5) = true from rfl, ifT, cat_of (by simp; omega)]
      exact key (64 :: Lib.itoa v.N) (by simp; omega)
end Go.Cq

set_option maxRecDepth 100000
set_option linter.unusedVariables false
set_option linter.unusedSimpArgs false
namespace Go.Cq
open Go Go.Av

/-! ### Texts cut at a byte -/
def cutAt (c : UInt8) : Str → Str × Str × Bool
  | [] => ([], [], false)
  | x :: r => if x = c then ([], r, true) else (x :: (cutAt c r).1, (cutAt c r).2.1, (cutAt c r).2.2)
theorem index_one_hit (c : UInt8) (r : Str) : Lib.index (c :: r) [c] = 0 := by
  have := Lib.index_first (s := c :: r) (sub := [c]) (i := 0) (Nat.zero_le _) (by simp [Lib.occAt]) (fun _ h => absurd h (Nat.not_lt_zero _))
  exact this
theorem index_one_step {c x : UInt8} (h : x ≠ c) (r : Str) : Lib.index (x :: r) [c] = if Lib.index r [c] = -1 then -1 else Lib.index r [c] + 1 := by
  have h0 : Lib.NoOcc (x :: r) [c] 1 := fun j hj => by
    have : j = 0 := by omega
    subst this
    simp [Lib.occAt]
    show (c == x && true) = false
    rw [Bool.and_true]; simpa using fun e : c = x => h e.symm
  have := Lib.index_drop (s := x :: r) (sub := [c]) (i := 1) h0 (by simp)
  rw [this]
  simp
theorem cut_one (c : UInt8) : ∀ s : Str, Lib.cut s [c] = cutAt c s
  | [] => rfl
  | x :: r => by
    unfold cutAt
    by_cases h : x = c
    · subst h
      rw [if_pos rfl]
      unfold Lib.cut
      rw [index_one_hit]
      simp
    · rw [if_neg h, ← cut_one c r]
      unfold Lib.cut
      rw [index_one_step h]
      have hge := Lib.index_ge r [c]
      by_cases hm : Lib.index r [c] = -1
      · rw [hm]; simp
      · rw [if_neg hm]
        have h1 : 0 ≤ Lib.index r [c] := by omega
        obtain ⟨i, hi⟩ : ∃ i : Nat, Lib.index r [c] = i := ⟨(Lib.index r [c]).toNat, by omega⟩
        rw [hi, if_pos (by omega), if_pos (by omega)]
        have e1 : ((i : Int) + 1).toNat = i + 1 := by omega
        have e2 : (i : Int).toNat = i := by omega
        rw [e1, e2]
        simp
theorem cutAt_len (c : UInt8) : ∀ s : Str, (cutAt c s).1.length ≤ s.length ∧ (cutAt c s).2.1.length ≤ s.length
  | [] => ⟨Nat.le_refl _, Nat.le_refl _⟩
  | x :: r => by
    unfold cutAt
    have := cutAt_len c r
    split
    · simp
    · simp; omega
/-- The text again, of its two pieces. -/
theorem cutAt_back (c : UInt8) : ∀ s : Str, s = if (cutAt c s).2.2 = true then (cutAt c s).1 ++ c :: (cutAt c s).2.1 else (cutAt c s).1
  | [] => rfl
  | x :: r => by
    have ih := cutAt_back c r
    unfold cutAt
    by_cases h : x = c
    · rw [if_pos h]; simp [h]
    · rw [if_neg h]
      dsimp only
      cases hb : (cutAt c r).2.2 with
      | true => rw [hb, ifT] at ih; rw [ifT]; conv => lhs; rw [ih]
                simp
      | false => rw [hb, ifF] at ih; rw [ifF, ← ih]
/-- All pieces of a text between a byte. -/
def splitC (c : UInt8) : Str → List Str
  | [] => [[]]
  | x :: r => if x = c then [] :: splitC c r else match splitC c r with
    | [] => [[x]]
    | p :: l => (x :: p) :: l
theorem splitK_one (c : UInt8) : ∀ s : Str, Lib.splitK [c] 0 (s.count c) s = splitC c s
  | [] => rfl
  | x :: r => by
    unfold splitC
    by_cases h : x = c
    · subst h
      rw [if_pos rfl, List.count_cons_self, Lib.splitK, index_one_hit]
      simp
      exact splitK_one x r
    · rw [if_neg h, List.count_cons_of_ne h, ← splitK_one c r]
      have hge := Lib.index_ge r [c]
      cases hc : r.count c with
      | zero =>
        rfl
      | succ k =>
        rw [Lib.splitK, Lib.splitK, index_one_step h]
        by_cases hm : Lib.index r [c] = -1
        · rw [hm]; rfl
        · rw [if_neg hm]
          obtain ⟨i, hi⟩ : ∃ i : Nat, Lib.index r [c] = i := ⟨(Lib.index r [c]).toNat, by omega⟩
          rw [hi]
          have e1 : ((i : Int) + 1).toNat = i + 1 := by omega
          have e2 : (i : Int).toNat = i := by omega
          rw [if_neg (by simp; try omega), if_neg (by simp; try omega), e1, e2]
          simp
theorem split_one {s : Str} (c : UInt8) (h : s.length < 4294967281) : strings_Split s [c] = some (splitC c s) := by
  unfold strings_Split splitS
  rw [if_pos ⟨h, Nat.le_refl _⟩]
  have : Lib.countB ⟨s.toArray⟩ ⟨[c].toArray⟩ = s.count c := Lib.count_one c s
  rw [this, splitK_one]
theorem cut_one' {s : Str} (c : UInt8) (h : s.length < 4294967281) : strings_Cut s [c] = some (cutAt c s) := by
  unfold strings_Cut cutS
  rw [if_pos h, cut_one]
end Go.Cq

set_option maxRecDepth 100000
set_option linter.unusedVariables false
set_option linter.unusedSimpArgs false
namespace Go.Cq
open Go Go.Av

/-- The pieces of a text, of which a part of the first one is already read. -/
def spl (c : UInt8) (cur : Str) : Str → List Str
  | [] => [cur]
  | x :: r => if x = c then cur :: spl c [] r else spl c (cur ++ [x]) r
theorem spl_eq (c : UInt8) : ∀ (r cur : Str), ∃ p l, splitC c r = p :: l ∧ spl c cur r = (cur ++ p) :: l
  | [], cur => ⟨[], [], rfl, by simp [spl]⟩
  | x :: r, cur => by
    unfold splitC spl
    by_cases h : x = c
    · rw [if_pos h, if_pos h]
      obtain ⟨p, l, h1, h2⟩ := spl_eq c r []
      exact ⟨[], splitC c r, rfl, by rw [h2, h1]; simp⟩
    · rw [if_neg h, if_neg h]
      obtain ⟨p, l, h1, h2⟩ := spl_eq c r (cur ++ [x])
      exact ⟨x :: p, l, by rw [h1], by rw [h2]; simp⟩
theorem spl_nil (c : UInt8) (s : Str) : spl c [] s = splitC c s := by
  obtain ⟨p, l, h1, h2⟩ := spl_eq c s []
  rw [h1, h2]; rfl
theorem sub_nat {α : Type} {s : List α} {a b : Nat} (h1 : a ≤ b) (h2 : b ≤ s.length) : sub s (a : Int) (b : Int) = some ((s.take b).drop a) := by
  unfold sub; rw [if_pos ⟨by omega, by omega, by omega⟩]; simp
theorem pieces_loop (s : Str) (hs : s.length ≤ 1000000) : ∀ (r : Str) (j q a : Nat) (acc : List Str), s.drop j = r → a ≤ j → j ≤ s.length → acc.length ≤ j → r.length + 1 < q →
    ref30_pieces_l1 s q acc (a : Int) (j : Int) = some (acc ++ spl 32 ((s.take j).drop a) r)
  | [], j, q+2, a, acc, h, ha, hj, hl, _ => by
    have : j = s.length := by have : s.length ≤ j := by simpa using h
                              omega
    subst this
    rw [ref30_pieces_l1, show decide ((s.length : Int) ≤ (s.length : Int)) = true by simp, ifT, decide_eq_true rfl, ifT, bindS, ifT, sub_nat ha (Nat.le_refl _), bindS, app_of (by simp; omega) (by simp; omega), bindS, cks (by omega), bindS, bindS, bindS]
    rw [ref30_pieces_l1, show decide ((((s.length + 1 : Nat)) : Int) ≤ (s.length : Int)) = false by simp; omega, ifF]
    rfl
  | x :: r, j, q+1, a, acc, h, ha, hj, hl, hq => by
    obtain ⟨e1, e2, e3⟩ := getDrop h
    rw [ref30_pieces_l1, show decide ((j : Int) ≤ (s.length : Int)) = true from decide_eq_true (by omega), ifT, show decide ((j : Int) = (s.length : Int)) = false from decide_eq_false (by omega), ifF, sIdx_at h, bindS]
    have htk : ∀ a, a ≤ j → (s.take (j + 1)).drop a = (s.take j).drop a ++ [x] := fun a ha => by
      rw [List.take_add_one, e1, List.drop_append_of_le_length (by simp; omega)]; rfl
    unfold spl
    by_cases hx : x = 32
    · rw [show decide ((x.toNat : Int) = 32) = true from decide_eq_true (by rw [hx]; rfl), bindS, ifT, sub_nat ha (by omega), bindS, app_of (by simp; omega) (by simp; omega), bindS, cks (by omega), bindS, bindS, bindS, if_pos hx]
      rw [pieces_loop s hs r (j+1) q (j+1) (acc ++ [(s.take j).drop a]) e2 (Nat.le_refl _) (by omega) (by simp; omega) (by simp at hq; omega)]
      have : (s.take (j + 1)).drop (j + 1) = [] := by simp
      rw [this]; simp
    · have hx' : ¬ (x.toNat : Int) = 32 := fun e => hx (UInt8.toNat_inj.1 (show x.toNat = 32 by omega))
      rw [decide_eq_false hx', bindS, ifF, bindS, cks (by omega), bindS, if_neg hx]
      rw [pieces_loop s hs r (j+1) q a acc e2 (by omega) (by omega) (by omega) (by simp at hq; omega), htk a ha]
  | [], _, 0, _, _, _, _, _, _, hq => by omega
  | [], _, 1, _, _, _, _, _, _, hq => by simp at hq
  | _ :: _, _, 0, _, _, _, _, _, _, hq => by omega
/-- The document's pieces are the library's. -/
theorem pieces_eq {s : Str} (hs : s.length ≤ 1000000) : ref30_pieces s = some (splitC 32 s) := by
  unfold ref30_pieces
  have := pieces_loop s hs s 0 fuel 0 [] rfl (by omega) (by omega) (by simp) (Nat.lt_of_le_of_lt (Nat.add_le_add_right hs 1) (by decide))
  have h2 : ref30_pieces_l1 s fuel [] 0 0 = some (spl 32 [] s) := by simpa using this
  rw [h2, bindS, spl_nil]
end Go.Cq

set_option maxRecDepth 100000
set_option linter.unusedVariables false
set_option linter.unusedSimpArgs false
namespace Go.Cq
open Go Go.Av

theorem cutPre_nil (c : UInt8) : strings_CutPrefix [] [c] = some ([], false) := rfl
theorem cutPre_cons (c x : UInt8) (r : Str) : strings_CutPrefix (x :: r) [c] = some (if x = c then (r, true) else (x :: r, false)) := by
  unfold strings_CutPrefix internal_stringslite_CutPrefix internal_stringslite_HasPrefix
  rw [show decide ((([c] : Str).length : Int) ≤ ((x :: r).length : Int)) = true from decide_eq_true (by simp; omega), ifT]
  have e1 : sub (x :: r) 0 (([c] : Str).length : Int) = some [x] := by
    unfold sub; rw [if_pos ⟨Int.le_refl _, by simp, by simp; omega⟩]; rfl
  have e2 : sub (x :: r) (([c] : Str).length : Int) ((x :: r).length : Int) = some r := by
    unfold sub; rw [if_pos ⟨by simp, by simp; omega, Int.le_refl _⟩]; simp
  rw [e1, bindS, bindS, bindS]
  by_cases h : x = c
  · subst h
    rw [show ([x] == [x]) = true by simp, show (!true) = false from rfl, ifF, e2, bindS, bindS, if_pos rfl]
  · rw [show ([x] == [c]) = false by simpa using h, show (!false) = true from rfl, ifT, bindS, if_neg h]
/-- Where the first byte of a kind stands. -/
theorem value_loop (s : Str) (hs : s.length ≤ 1000000) : ∀ (r : Str) (j q : Nat), s.drop j = r → j ≤ s.length → r.length < q → ref30_value_l1 s q (j : Int) = some ((j + (cutAt 47 r).1.length : Nat) : Int)
  | [], j, q+1, h, hj, _ => by
    have : j = s.length := by have : s.length ≤ j := by simpa using h
                              omega
    subst this
    rw [ref30_value_l1, ge_len, ifF, bindS, ifF]; rfl
  | x :: r, j, q+1, h, hj, hq => by
    obtain ⟨e1, e2, e3⟩ := getDrop h
    rw [ref30_value_l1, lt_len e3, ifT, sIdx_at h, bindS, bindS]
    unfold cutAt
    by_cases hx : x = 47
    · rw [show decide ((x.toNat : Int) = 47) = true from decide_eq_true (by rw [hx]; rfl), show (!true) = false from rfl, ifF, if_pos hx]; rfl
    · have hx' : ¬ (x.toNat : Int) = 47 := fun e => hx (UInt8.toNat_inj.1 (show x.toNat = 47 by omega))
      rw [decide_eq_false hx', show (!false) = true from rfl, ifT, cks (by omega), bindS, value_loop s hs r (j+1) q e2 (by omega) (by simp at hq; omega), if_neg hx]
      congr 1; simp; omega
  | [], _, 0, _, _, hq => by omega
  | _ :: _, _, 0, _, _, hq => by omega
/-- The kind of a value's text, and where its number begins. -/
def kindP (s : Str) : Int × Str := match s with
  | [] => (3, [])
  | x :: r => if x = 35 then (4, r) else if x = 64 then (5, r) else (3, x :: r)
def isNm (s : Str) : Bool := (s == [110, 105, 108]) || (s == [102, 97, 108, 115, 101]) || (s == [116, 114, 117, 101])
def nmK (s : Str) : Int := if s == [110, 105, 108] then 0 else if s == [102, 97, 108, 115, 101] then 1 else 2
theorem script_kind_eq (s : Str) : script_kind s = if isNm s = true then some (nmK s, 0, true) else (script_number (kindP s).2).bind fun v => some ((kindP s).1, v.1, v.2) := by
  unfold script_kind isNm nmK
  cases h1 : (s == [110, 105, 108]) with
  | true => simp only [ifT, ifTr, Bool.true_or]
  | false =>
    cases h2 : (s == [102, 97, 108, 115, 101]) with
    | true => simp only [ifT, ifF, ifTr, ifFa, Bool.false_eq_true, Bool.true_or, Bool.false_or]
    | false =>
      cases h3 : (s == [116, 114, 117, 101]) with
      | true => simp only [ifT, ifF, ifTr, ifFa, Bool.false_eq_true, Bool.true_or, Bool.false_or]
      | false =>
        simp only [ifF, ifFa, Bool.false_eq_true, Bool.false_or]
        cases s with
        | nil => rw [cutPre_nil, bindS, ifF, cutPre_nil, bindS, ifF, bindS, bindS]; rfl
        | cons x r =>
          rw [cutPre_cons, bindS, cutPre_cons, bindS]
          unfold kindP
          dsimp only
          by_cases a : x = 35
          · rw [if_pos a, if_pos a, ifT, bindS]
          · rw [if_neg a, if_neg a]
            by_cases b : x = 64
            · rw [if_pos b, if_pos b, ifF, ifT, bindS, bindS]
            · rw [if_neg b, if_neg b, ifF, ifF, bindS, bindS]
end Go.Cq

set_option maxRecDepth 100000
set_option linter.unusedVariables false
set_option linter.unusedSimpArgs false
namespace Go.Cq
open Go Go.Av

/-- The document's kind and number of a value's text. -/
def refMid (v20 : Str) (l : Int) : Option (Bool × ref11_Val) :=
      if (((v20 == [110, 105, 108]) || (v20 == [102, 97, 108, 115, 101])) || (v20 == [116, 114, 117, 101])) then
        (
          if (v20 == [102, 97, 108, 115, 101]) then
            some 1
          else
            some 0
        ).bind fun y24 =>
        (
          if (v20 == [116, 114, 117, 101]) then
            some 2
          else
            some y24
        ).bind fun y26 =>
        some (true, (ref11_Val.mk y26 0 l))
      else
        (
          if (decide ((0 : Int) < (v20.length : Int))) then
            (sIdx v20 0).bind fun v33 =>
            some (decide (v33 = 35))
          else
            some false
        ).bind fun y28 =>
        (
          if y28 then
            (sub v20 1 (v20.length : Int)).bind fun v38 =>
            some (v38, 4)
          else
            (
              if (decide ((0 : Int) < (v20.length : Int))) then
                (sIdx v20 0).bind fun v44 =>
                some (decide (v44 = 64))
              else
                some false
            ).bind fun y39 =>
            (
              if y39 then
                (sub v20 1 (v20.length : Int)).bind fun v49 =>
                some (v49, 5)
              else
                some (v20, 3)
            ).bind fun y45 =>
            some (y45.1, y45.2)
        ).bind fun y34 =>
        (ref30_num y34.1).bind fun v50 =>
        some (v50.2, (ref11_Val.mk y34.2 v50.1 l))
theorem refMid_eq (p : Str) (l : Int) : refMid p l = if isNm p = true then some (true, ⟨nmK p, 0, l⟩) else (ref30_num (kindP p).2).bind fun v => some (v.2, ⟨(kindP p).1, v.1, l⟩) := by
  unfold refMid isNm nmK
  cases h1 : (p == [110, 105, 108]) with
  | true =>
    have hp := eq_of_beq h1
    subst hp
    rfl
  | false =>
    cases h2 : (p == [102, 97, 108, 115, 101]) with
    | true =>
      have hp := eq_of_beq h2
      subst hp
      rfl
    | false =>
      cases h3 : (p == [116, 114, 117, 101]) with
      | true =>
        have hp := eq_of_beq h3
        subst hp
        rfl
      | false =>
        simp only [ifF, ifFa, Bool.false_eq_true, Bool.false_or]
        cases p with
        | nil => rfl
        | cons x r =>
          have e0 : sIdx (x :: r) 0 = some (x.toNat : Int) := sIdx_at (s := x :: r) (j := 0) rfl
          have es : sub (x :: r) 1 ((x :: r).length : Int) = some r := by
            unfold sub; rw [if_pos ⟨by decide, by simp; omega, Int.le_refl _⟩]; simp
          rw [show decide ((0 : Int) < ((x :: r).length : Int)) = true by simp, ifT, e0, bindS, bindS, ifT, bindS]
          unfold kindP
          dsimp only
          by_cases a : x = 35
          · subst a
            rw [show decide (((35 : UInt8).toNat : Int) = 35) = true from rfl, ifT, es, bindS, bindS, if_pos rfl]
          · have a' : decide ((x.toNat : Int) = 35) = false := decide_eq_false fun e => a (UInt8.toNat_inj.1 (show x.toNat = 35 by omega))
            rw [a', ifF, if_neg a, bindS]
            by_cases b : x = 64
            · subst b
              rw [show decide (((64 : UInt8).toNat : Int) = 64) = true from rfl, ifT, es, bindS, bindS, bindS, if_pos rfl]
            · have b' : decide ((x.toNat : Int) = 64) = false := decide_eq_false fun e => b (UInt8.toNat_inj.1 (show x.toNat = 64 by omega))
              rw [b', ifF, if_neg b, bindS, bindS]
theorem kindP_len (s : Str) : (kindP s).2.length ≤ s.length := by
  unfold kindP
  cases s with
  | nil => simp
  | cons x r => dsimp only; split <;> (try split) <;> simp
/-- Both read the same values. -/
theorem value_same {s : Str} (hs : s.length ≤ 1000000) : ∃ v w b, script_value s = some (v, b) ∧ ref30_value s = some (w, b) ∧ (b = true → v = toV w) := by
  have hl := cutAt_len 47 s
  have hb := cutAt_back 47 s
  unfold script_value
  rw [cut_one' 47 (by omega), bindS]
  have hv : ref30_value_l1 s fuel 0 = some (((cutAt 47 s).1.length : Nat) : Int) := by
    have := value_loop s hs s 0 fuel rfl (by omega) (Nat.lt_of_le_of_lt hs (by decide))
    simpa using this
  unfold ref30_value
  rw [hv, bindS]
  generalize hc : cutAt 47 s = ct at *
  obtain ⟨p, t, fd⟩ := ct
  dsimp only at *
  obtain ⟨l, l', bl, n1, n2, n3⟩ := nums_same (s := t) (by omega)
  have hkp := kindP_len p
  obtain ⟨n, n', bn, m1, m2, m3⟩ := nums_same (s := (kindP p).2) (by omega)
  rw [script_kind_eq, n1]
  cases fd with
  | false =>
    rw [ifF] at hb
    subst hb
    rw [decide_eq_true rfl, ifT]
    cases hn : isNm s with
    | true => exact ⟨_, _, false, by simp only [ifT, ifF, ifTr, ifFa, Bool.false_eq_true, bindS]; rfl, rfl, fun h => by cases h⟩
    | false => exact ⟨_, _, false, by rw [m1]; simp only [ifT, ifF, ifTr, ifFa, Bool.false_eq_true, bindS]; rfl, rfl, fun h => by cases h⟩
  | true =>
    rw [ifT] at hb
    have hlen : s.length = p.length + 1 + t.length := by rw [hb]; simp; omega
    have e1 : sub s (((p.length + 1 : Nat)) : Int) (s.length : Int) = some t := by
      rw [sub_nat (by omega) (Nat.le_refl _), List.take_length, hb]
      simp
    have e2 : sub s 0 ((p.length : Nat) : Int) = some p := by
      have := sub_nat (s := s) (a := 0) (b := p.length) (by omega) (by omega)
      rw [show ((0 : Nat) : Int) = 0 from rfl] at this
      rw [this, hb]; simp
    rw [decide_eq_false (by omega), ifF, cks (by omega), bindS, e1, bindS, n2, bindS, e2, bindS]
    have hmid := refMid_eq p l'
    unfold refMid at hmid
    rw [hmid]
    cases hn : isNm p with
    | true =>
      rw [ifT, ifT, bindS, bindS, bindS]
      dsimp only
      rw [ifT, ifT, ifT]
      cases bl with
      | false => exact ⟨_, _, false, rfl, rfl, fun h => by cases h⟩
      | true =>
        have := n3 rfl
        subst this
        rw [ifT, ifT, may_obj, may_ref]
        exact ⟨_, _, _, rfl, rfl, fun _ => rfl⟩
    | false =>
      rw [ifF, ifF, m1, m2, bindS, bindS, bindS, bindS, bindS]
      dsimp only
      rw [ifT]
      cases bl with
      | false =>
        cases bn with
        | false => exact ⟨_, _, false, rfl, rfl, fun h => by cases h⟩
        | true => exact ⟨_, _, false, rfl, rfl, fun h => by cases h⟩
      | true =>
        have := n3 rfl
        subst this
        cases bn with
        | false => exact ⟨_, _, false, rfl, rfl, fun h => by cases h⟩
        | true =>
          have := m3 rfl
          subst this
          rw [ifT, ifT, ifT, ifT, may_obj, may_ref]
          exact ⟨_, _, _, rfl, rfl, fun _ => rfl⟩
end Go.Cq

set_option maxRecDepth 100000
set_option linter.unusedVariables false
set_option linter.unusedSimpArgs false
namespace Go.Cq
open Go Go.Av

def badB (c : UInt8) : Bool := decide ((c.toNat : Int) < 33) || decide ((126 : Int) < (c.toNat : Int))
/-- Is a text a word? -/
def wordB (s : Str) : Bool := decide (1 ≤ s.length) && decide (s.length ≤ 64) && !s.any badB
theorem word_loop (s : Str) (hs : s.length ≤ 1000000) (K : Unit → Option Bool) (hK : K () = some true) : ∀ (r : Str) (j q : Nat), s.drop j = r → j ≤ s.length → r.length < q → ref30_Word_l1 s K q (j : Int) = some (!r.any badB)
  | [], j, q+1, h, hj, _ => by
    have : j = s.length := by have : s.length ≤ j := by simpa using h
                              omega
    subst this
    rw [ref30_Word_l1, ge_len, ifF, hK]; rfl
  | x :: r, j, q+1, h, hj, hq => by
    obtain ⟨e1, e2, e3⟩ := getDrop h
    rw [ref30_Word_l1, lt_len e3, ifT, sIdx_at h, bindS, List.any_cons]
    have hcond : (if decide ((x.toNat : Int) < 33) = true then some true else some (decide ((126 : Int) < (x.toNat : Int)))) = some (badB x) := by
      unfold badB
      cases decide ((x.toNat : Int) < 33) <;> simp only [ifT, ifF, ifTr, ifFa, Bool.false_eq_true, Bool.true_or, Bool.false_or]
    rw [hcond, bindS]
    cases hb : badB x with
    | true => rw [ifT]; rfl
    | false =>
      rw [ifF, cks (by omega), bindS, word_loop s hs K hK r (j+1) q e2 (by omega) (by simp at hq; omega), Bool.false_or]
  | [], _, 0, _, _, hq => by omega
  | _ :: _, _, 0, _, _, hq => by omega
theorem ref_word {s : Str} (hs : s.length ≤ 1000000) : ref30_Word s = some (wordB s) := by
  unfold ref30_Word wordB
  by_cases h1 : s.length < 1
  · rw [show decide ((s.length : Int) < 1) = true from decide_eq_true (by omega), Bool.true_or, ifT, decide_eq_false (by omega)]; rfl
  · rw [show decide ((s.length : Int) < 1) = false from decide_eq_false (by omega), Bool.false_or]
    by_cases h2 : 64 < s.length
    · rw [show decide ((64 : Int) < (s.length : Int)) = true from decide_eq_true (by omega), ifT, show decide (s.length ≤ 64) = false from decide_eq_false (by omega), Bool.and_false]; rfl
    · rw [show decide ((64 : Int) < (s.length : Int)) = false from decide_eq_false (by omega), ifF, letK_e, decide_eq_true (by omega), decide_eq_true (by omega)]
      have := word_loop s hs (fun _ => some true) rfl s 0 fuel rfl (by omega) (Nat.lt_of_le_of_lt hs (by decide))
      exact this
theorem idx_loop (s : Str) (hs : s.length ≤ 1000000) (K : Unit → Option Int) (hK : K () = some (-1)) : ∀ (r : Str) (j q : Nat), s.drop j = r → j ≤ s.length → r.length < q →
    ∃ i, slices_IndexFunc_Lbyte_byte_l1 (toInts s) script_worded_1 K q (j : Int) = some i ∧ decide ((0 : Int) ≤ i) = r.any badB
  | [], j, q+1, h, hj, _ => by
    have : j = s.length := by have : s.length ≤ j := by simpa using h
                              omega
    subst this
    have hl : (toInts s).length = s.length := by unfold toInts; simp
    rw [slices_IndexFunc_Lbyte_byte_l1, hl, ge_len, ifF, hK]
    exact ⟨-1, rfl, rfl⟩
  | x :: r, j, q+1, h, hj, hq => by
    obtain ⟨e1, e2, e3⟩ := getDrop h
    have hl : (toInts s).length = s.length := by unfold toInts; simp
    have ha : lAt (toInts s) (j : Int) = some (x.toNat : Int) := lAt_nat (by unfold toInts; rw [List.getElem?_map, e1]; rfl)
    rw [slices_IndexFunc_Lbyte_byte_l1, hl, lt_len e3, ifT, ha, bindS, script_worded_1, bindS, List.any_cons]
    have hb0 : (decide ((x.toNat : Int) < 33) || decide ((126 : Int) < (x.toNat : Int))) = badB x := rfl
    rw [hb0]
    cases hb : badB x with
    | true => rw [ifT]; exact ⟨j, rfl, decide_eq_true (by omega)⟩
    | false =>
      rw [ifF, cks (by omega), bindS, Bool.false_or]
      exact idx_loop s hs K hK r (j+1) q e2 (by omega) (by simp at hq; omega)
  | [], _, 0, _, _, hq => by omega
  | _ :: _, _, 0, _, _, hq => by omega
theorem script_word {s : Str} (hs : s.length ≤ 1000000) : script_worded s = some (wordB s) := by
  unfold script_worded wordB slices_ContainsFunc_Lbyte_byte slices_IndexFunc_Lbyte_byte
  rw [letK_e]
  obtain ⟨i, h1, h2⟩ := idx_loop s hs (fun _ => some (-1)) rfl s 0 fuel rfl (by omega) (Nat.lt_of_le_of_lt hs (by decide))
  have h1' : slices_IndexFunc_Lbyte_byte_l1 (toInts s) script_worded_1 (fun _ => some (-1)) fuel 0 = some i := h1
  rw [h1', bindS, bindS, h2]
  cases s with
  | nil => rfl
  | cons x r =>
    rw [show (!((x :: r) == [])) = true from rfl, ifT, show decide (1 ≤ (x :: r).length) = true by simp, Bool.true_and]
    by_cases h3 : (x :: r).length ≤ 64
    · rw [decide_eq_true h3, show decide (((x :: r).length : Int) ≤ 64) = true from decide_eq_true (by omega), ifT, bindS, Bool.true_and]
    · rw [decide_eq_false h3, show decide (((x :: r).length : Int) ≤ 64) = false from decide_eq_false (by omega), ifF, bindS, Bool.false_and]
end Go.Cq

set_option maxRecDepth 100000
set_option linter.unusedVariables false
set_option linter.unusedSimpArgs false
namespace Go.Cq
open Go Go.Av

theorem ended_loop (s : Str) (hs : s.length ≤ 1000000) (K : Unit → Option Bool) (hK : K () = some false) : ∀ (r : Str) (j q : Nat), s.drop j = r → j ≤ s.length → r.length < q → ref30_ended_l1 s K q (j : Int) = some (r.any (· == 10))
  | [], j, q+1, h, hj, _ => by
    have : j = s.length := by have : s.length ≤ j := by simpa using h
                              omega
    subst this
    rw [ref30_ended_l1, ge_len, ifF, hK]; rfl
  | x :: r, j, q+1, h, hj, hq => by
    obtain ⟨e1, e2, e3⟩ := getDrop h
    rw [ref30_ended_l1, lt_len e3, ifT, sIdx_at h, bindS, List.any_cons]
    by_cases hx : x = 10
    · rw [show decide ((x.toNat : Int) = 10) = true from decide_eq_true (by rw [hx]; rfl), ifT, hx]; rfl
    · have hx' : ¬ (x.toNat : Int) = 10 := fun e => hx (UInt8.toNat_inj.1 (show x.toNat = 10 by omega))
      rw [decide_eq_false hx', ifF, cks (by omega), bindS, ended_loop s hs K hK r (j+1) q e2 (by omega) (by simp at hq; omega), show (x == 10) = false by simpa using hx, Bool.false_or]
  | [], _, 0, _, _, hq => by omega
  | _ :: _, _, 0, _, _, hq => by omega
theorem ref_ended {s : Str} (hs : s.length ≤ 1000000) : ref30_ended s = some (s.any (· == 10)) := by
  unfold ref30_ended
  rw [letK_e]
  exact ended_loop s hs (fun _ => some false) rfl s 0 fuel rfl (by omega) (Nat.lt_of_le_of_lt hs (by decide))
end Go.Cq

