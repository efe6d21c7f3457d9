import Derived.Test.YtphdekcijjgbeaaGreatDoorL3
set_option linter.unusedSectionVars false
set_option linter.unusedVariables false
set_option linter.unusedSimpArgs false
set_option linter.unnecessarySimpa false
set_option maxRecDepth 100000
set_option exponentiation.threshold 1000
namespace Go.Cq
open Go Go.Av
def isDig (l : List Int) : Prop := ∀ x, x ∈ l → 0 ≤ x ∧ x ≤ 9
theorem dv_app : ∀ (l : List Int) (a : Nat) (x : Int), dv a (l ++ [x]) = dv a l * 10 + x.toNat
 | [], a, x => rfl
 | y :: l, a, x => dv_app l _ x
theorem dv_lt : ∀ (l : List Int) (a : Nat), isDig l → dv a l < (a + 1) * 10 ^ l.length
 | [], a, _ => by simp [dv]
 | x :: l, a, h => by
  have h1 := h x (by simp)
  have ih := dv_lt l (a * 10 + x.toNat) fun y hy => h y (by simp [hy])
  have : (a * 10 + x.toNat + 1) * 10 ^ l.length ≤ ((a + 1) * 10) * 10 ^ l.length := Nat.mul_le_mul_right _ (by omega)
  show dv (a * 10 + x.toNat) l < _
  rw [List.length_cons, Nat.pow_succ, Nat.mul_comm (10 ^ l.length) 10, ← Nat.mul_assoc]
  omega
theorem quo8 {n : Int} (h0 : 0 ≤ n) (h1 : n ≤ 19) : quo .u8 n 2 = some (n / 2) := by
 unfold quo
 rw [if_pos (by decide), Int.tdiv_eq_ediv_of_nonneg h0, u8j (by omega) (by omega)]
theorem rem8 {n : Int} (h0 : 0 ≤ n) : rem n 2 = some (n % 2) := by
 unfold rem
 rw [if_pos (by decide), Int.tmod_eq_emod_of_nonneg h0]
theorem l4_eq (l : List Int) (hl : isDig l) (hs : l.length ≤ 1000) : ∀ (r : List Int) (j q : Nat) (m : Nat) (Q : List Int), l.drop j = r → j ≤ l.length → r.length < q → m ≤ 1 → isDig Q → (Q ≠ [] → 1 ≤ dv 0 Q) → Q.length ≤ j →
    ∃ (m' : Nat) (Q' : List Int), ref03_Parse_l4 l q (m : Int) Q (j : Int) = some ((m' : Int), Q') ∧ m' ≤ 1 ∧ isDig Q' ∧ (Q' ≠ [] → 1 ≤ dv 0 Q') ∧ Q'.length ≤ l.length ∧ 2 * dv 0 Q' + m' = dv (2 * dv 0 Q + m) r := by
  intro r
  induction r with
  | nil =>
    intro j q m Q h hj hq hm hQ hne hQl
    obtain ⟨q, rfl⟩ : ∃ q', q = q' + 1 := ⟨q - 1, by simp at hq; omega⟩
    have : j = l.length := by have : l.length ≤ j := by simpa using h
                              omega
    subst this
    refine ⟨m, Q, ?_, hm, hQ, hne, hQl, rfl⟩
    simp only [ref03_Parse_l4]
    rw [ge_len, ifF]
  | cons x r ih =>
    intro j q m Q h hj hq hm hQ hne hQl
    obtain ⟨e1, e2, e3⟩ := getDrop h
    obtain ⟨q, rfl⟩ : ∃ q', q = q' + 1 := ⟨q - 1, by simp at hq; omega⟩
    have hq' : r.length < q := by simp at hq; omega
    have hx := hl x (List.mem_of_getElem? e1)
    have ec : IntKind.wrap .u8 (IntKind.wrap .u8 (10 * (m : Int)) + x) = 10 * (m : Int) + x := by
      rw [u8j (n := 10 * (m : Int)) (by omega) (by omega), u8j (by omega) (by omega)]
    obtain ⟨c, hc⟩ : ∃ c : Nat, 10 * (m : Int) + x = (c : Int) := ⟨(10 * (m : Int) + x).toNat, by omega⟩
    have hc19 : c ≤ 19 := by omega
    have hd2 : ((c : Int) / 2) = ((c / 2 : Nat) : Int) := by omega
    have hm2 : ((c : Int) % 2) = ((c % 2 : Nat) : Int) := by omega
    have hval : dv (2 * dv 0 Q + m) (x :: r) = dv (20 * dv 0 Q + c) r := by
      show dv ((2 * dv 0 Q + m) * 10 + x.toNat) r = _
      congr 1; omega
    rw [hval]
    by_cases ha : Q ≠ [] ∨ 0 < c / 2
    · have hb : (if (decide ((0 : Int) < (Q.length : Int))) then some true else (quo .u8 (c : Int) 2).bind fun v93 => some (decide ((0 : Int) < v93))) = some true := by
        by_cases hQ0 : Q = []
        · subst hQ0
          rw [show decide ((0 : Int) < (([] : List Int).length : Int)) = false from rfl, ifF, quo8 (by omega) (by omega), bindS, decide_eq_true]
          rcases ha with ha | ha
          · exact absurd rfl ha
          · omega
        · have := List.length_pos_iff.2 hQ0
          rw [decide_eq_true (by omega), if_pos rfl]
      have hQ' : isDig (Q ++ [((c / 2 : Nat) : Int)]) := fun y hy => by
        rcases List.mem_append.1 hy with hy | hy
        · exact hQ y hy
        · simp at hy; omega
      have hdv : dv 0 (Q ++ [((c / 2 : Nat) : Int)]) = dv 0 Q * 10 + c / 2 := by rw [dv_app]; rfl
      obtain ⟨m', Q', g1, g2, g3, g4, g5, g6⟩ := ih (j+1) q (c % 2) (Q ++ [((c / 2 : Nat) : Int)]) e2 (by omega) hq' (by omega) hQ' (fun _ => by
        rw [hdv]
        rcases ha with ha | ha
        · have := hne ha; omega
        · omega) (by simp; omega)
      refine ⟨m', Q', ?_, g2, g3, g4, g5, ?_⟩
      · simp only [ref03_Parse_l4]
        rw [lt_len e3, if_pos rfl, lAt_nat e1, bindS, ec, hc, hb, bindS, if_pos rfl, quo8 (by omega) (by omega), bindS, hd2, app16 (by omega) (by simp; omega), bindS, bindS, rem8 (by omega), bindS, hm2, cks (by omega), bindS]
        exact g1
      · rw [g6, hdv]; congr 1; omega
    · have hQ0 : Q = [] := Classical.byContradiction fun e => ha (.inl e)
      have hc0 : c / 2 = 0 := by rcases Nat.eq_zero_or_pos (c / 2) with e | e; exact e; exact absurd (.inr e) ha
      subst hQ0
      have hb : (if (decide ((0 : Int) < (([] : List Int).length : Int))) then some true else (quo .u8 (c : Int) 2).bind fun v93 => some (decide ((0 : Int) < v93))) = some false := by
        rw [show decide ((0 : Int) < (([] : List Int).length : Int)) = false from rfl, ifF, quo8 (by omega) (by omega), bindS, decide_eq_false (by omega)]
      obtain ⟨m', Q', g1, g2, g3, g4, g5, g6⟩ := ih (j+1) q (c % 2) [] e2 (by omega) hq' (by omega) hQ hne (by simp)
      refine ⟨m', Q', ?_, g2, g3, g4, g5, ?_⟩
      · simp only [ref03_Parse_l4]
        rw [lt_len e3, if_pos rfl, lAt_nat e1, bindS, ec, hc, hb, bindS, ifF, bindS, rem8 (by omega), bindS, hm2, cks (by omega), bindS]
        exact g1
      · rw [g6]; congr 1; show 2 * 0 + c % 2 = 20 * 0 + c; omega
theorem l2_eq : ∀ (k q : Nat) (l bits : List Int), isDig l → l.length ≤ 1000 → inR 2 bits → dv 0 l < 2 ^ k → k + 2 ≤ q → bits.length + k ≤ 100000 →
  ∃ bits', ref03_Parse_l2 q l bits = some bits' ∧ inR 2 bits' ∧ bits'.length ≤ bits.length + k + 1 ∧ wv 2 bits' = wv 2 bits + 2 ^ bits.length * dv 0 l := by
 intro k
 induction k with
 | zero =>
  intro q l bits hl hs hb hlt hq hbl
  obtain ⟨q, rfl⟩ : ∃ q', q = q' + 2 := ⟨q - 2, by omega⟩
  have h0 : dv 0 l = 0 := by simp at hlt; exact hlt
  by_cases hle : l = []
  ·subst hle
   exact ⟨bits, rfl, hb, by omega, by simp [dv]⟩
  ·obtain ⟨m', Q', g1, g2, g3, g4, g5, g6⟩ := l4_eq l hl hs l 0 fuel 0 [] rfl (Nat.zero_le _) (by unfold fuel; omega) (by omega) (fun x hx => by simp at hx) (fun h => absurd rfl h) (Nat.le_refl _)
   have e6 : 2 * dv 0 Q' + m' = dv 0 l := g6
   have hQ : Q' = [] := Classical.byContradiction fun e => by have := g4 e; omega
   subst hQ
   have hm : m' = 0 := by omega
   subst hm
   refine ⟨bits ++ [0], ?_, fun x hx => ?_, by simp, ?_⟩
   ·have hpos := List.length_pos_iff.2 hle
    rw [ref03_Parse_l2, decide_eq_true (by omega), if_pos rfl, show (0 : Int) = ((0 : Nat) : Int) from rfl, g1, bindS, app16 (by omega) (by simp; omega), bindS]
    rfl
   ·rcases List.mem_append.1 hx with hx | hx
    ·exact hb x hx
    ·simp at hx; subst hx; decide
   ·rw [wv_app, h0]; rfl
 | succ k ih =>
  intro q l bits hl hs hb hlt hq hbl
  obtain ⟨q, rfl⟩ : ∃ q', q = q' + 1 := ⟨q - 1, by omega⟩
  by_cases hle : l = []
  ·subst hle
   exact ⟨bits, rfl, hb, by omega, by simp [dv]⟩
  ·obtain ⟨m', Q', g1, g2, g3, g4, g5, g6⟩ := l4_eq l hl hs l 0 fuel 0 [] rfl (Nat.zero_le _) (by unfold fuel; omega) (by omega) (fun x hx => by simp at hx) (fun h => absurd rfl h) (Nat.le_refl _)
   have e6 : 2 * dv 0 Q' + m' = dv 0 l := g6
   rw [Nat.pow_succ] at hlt
   obtain ⟨b', f1, f2, f3, f4⟩ := ih q Q' (bits ++ [(m' : Int)]) g3 (by omega) (fun x hx => by
    rcases List.mem_append.1 hx with hx | hx
    ·exact hb x hx
    ·simp at hx; subst hx; exact ⟨by omega, by omega⟩) (by omega) (by omega) (by simp; omega)
   refine ⟨b', ?_, f2, by simp at f3; omega, ?_⟩
   ·have hpos := List.length_pos_iff.2 hle
    rw [ref03_Parse_l2, decide_eq_true (by omega), if_pos rfl, show (0 : Int) = ((0 : Nat) : Int) from rfl, g1, bindS, app16 (by omega) (by simp; omega), bindS]
    exact f1
   ·rw [f4, wv_app, ← e6, List.length_append, List.length_singleton, Nat.pow_succ, Int.toNat_natCast, Nat.mul_add, Nat.mul_assoc]
    omega
theorem words_l1 (b : List Int) (hs : b.length ≤ 10000) : ∀ (r : List Int) (j q : Nat) (w : List Int), b.drop j = r → j ≤ b.length → r.length < q → w.length = (j + 31) / 32 →
    ∃ w', ref03_words_l1 b q (j : Int) w = some w' ∧ w'.length = (b.length + 31) / 32 := by
  intro r
  induction r with
  | nil =>
    intro j q w h hj hq hw
    obtain ⟨q, rfl⟩ : ∃ q', q = q' + 1 := ⟨q - 1, by simp at hq; omega⟩
    have : j = b.length := by have : b.length ≤ j := by simpa using h
                              omega
    subst this
    refine ⟨w, ?_, hw⟩
    simp only [ref03_words_l1]
    rw [ge_len, ifF]
  | cons x r ih =>
    intro j q w h hj hq hw
    obtain ⟨e1, e2, e3⟩ := getDrop h
    obtain ⟨q, rfl⟩ : ∃ q', q = q' + 1 := ⟨q - 1, by simp at hq; omega⟩
    have hq' : r.length < q := by simp at hq; omega
    have hrem : rem (j : Int) 32 = some ((j % 32 : Nat) : Int) := by
      unfold rem; rw [if_pos (by decide)]; exact congrArg some ((Int.tmod_eq_emod_of_nonneg (by omega)).trans (by omega))
    have hquo : quo .i64 (j : Int) 32 = some ((j / 32 : Nat) : Int) := by
      have h1 : (j : Int).tdiv 32 = (j : Int) / 32 := Int.tdiv_eq_ediv_of_nonneg (by omega)
      have h2 : IntKind.wrap .i64 ((j : Int).tdiv 32) = ((j / 32 : Nat) : Int) := by rw [h1, IntKind.wrap_i64]; omega
      unfold quo; rw [if_pos (by decide)]; exact congrArg some h2
    obtain ⟨w1, hw1, hwl⟩ : ∃ w1, (if (decide (((j % 32 : Nat) : Int) = 0)) then (app 4 w ([0] : List Int)).bind fun v48 => some v48 else some w) = some w1 ∧ w1.length = (j + 1 + 31) / 32 := by
      by_cases hz : j % 32 = 0
      · refine ⟨w ++ [0], ?_, by simp; omega⟩
        rw [decide_eq_true (by omega), if_pos rfl, app16 (by omega) (by simp; omega), bindS]
      · refine ⟨w, ?_, by omega⟩
        rw [decide_eq_false (by omega), ifF]
    obtain ⟨z, hz⟩ : ∃ z, w1[j / 32]? = some z := ⟨_, List.getElem?_eq_getElem (by omega)⟩
    have hwr : IntKind.wrap .u64 ((j % 32 : Nat) : Int) = ((j % 32 : Nat) : Int) := u64j (by omega) (by omega)
    obtain ⟨y, hy⟩ : ∃ y, shl .u32 (IntKind.wrap .u32 x) (IntKind.wrap .u64 ((j % 32 : Nat) : Int)) = some y := by
      unfold shl; rw [hwr, if_pos (by omega)]; exact ⟨_, rfl⟩
    obtain ⟨w', g1, g2⟩ := ih (j+1) q (w1.set (((j / 32 : Nat) : Int)).toNat (IntKind.wrap .u32 (z + y))) e2 (by omega) hq' (by simp; exact hwl)
    refine ⟨w', ?_, g2⟩
    simp only [ref03_words_l1]
    rw [lt_len e3, if_pos rfl, hrem, bindS, hw1, bindS, hquo, bindS, lAt_nat hz, bindS, lAt_nat e1, bindS, hy, bindS]
    unfold stAt
    rw [bindS, cks (by omega), bindS]
    exact g1
end Go.Cq

set_option maxRecDepth 100000
set_option exponentiation.threshold 1000
namespace Go.Cq
open Go Go.Av
def preOk (d : Str) (neg : Bool) : Bool := match d with
 | [] => false
 | c :: r => decide ((c :: r).length ≤ 700) && (!(decide (1 < (c :: r).length) && decide (c = 48)) && !(neg && ((c :: r) == [48])))
theorem digOk_pre (d : Str) (neg : Bool) : digOk d neg = (preOk d neg && d.all (between 48 57)) := by
 cases d with
 | nil => rfl
 | cons c r =>
  show (decide ((c :: r).length ≤ 700) && (!(decide (1 < (c :: r).length) && decide (c = 48)) && (!(neg && ((c :: r) == [48])) && (c :: r).all (between 48 57)))) = ((decide ((c :: r).length ≤ 700) && (!(decide (1 < (c :: r).length) && decide (c = 48)) && !(neg && ((c :: r) == [48])))) && (c :: r).all (between 48 57))
  simp only [Bool.and_assoc]
theorem digit_int (c : UInt8) : (if (decide ((c.toNat : Int) < 48)) then some true else some (decide ((57 : Int) < (c.toNat : Int)))) = some (!between 48 57 c) := by
 have := u8_all (fun c => decide ((if (decide ((c.toNat : Int) < 48)) then some true else some (decide ((57 : Int) < (c.toNat : Int)))) = some (!between 48 57 c))) (by decide +kernel) c
 exact of_decide_eq_true this
theorem p1_eq (d : Str) (hs : d.length ≤ 1000) (K : List Int → Option (ref03_Num × Int)) : ref03_Parse_l1 d K fuel [] 0 = if d.all (between 48 57) = true then K (digs d) else some (ref03_Num.mk false [], 2) := by
  have hl : ∀ (r : Str) (j q : Nat) (acc : List Int), d.drop j = r → j ≤ d.length → r.length < q → acc.length = j → ref03_Parse_l1 d K q acc (j : Int) = if r.all (between 48 57) = true then K (acc ++ digs r) else some (ref03_Num.mk false [], 2) := by
    intro r
    induction r with
    | nil =>
      intro j q acc h hj hq ha
      obtain ⟨q, rfl⟩ : ∃ q', q = q' + 1 := ⟨q - 1, by simp at hq; omega⟩
      have : j = d.length := by have : d.length ≤ j := by simpa using h
                                omega
      subst this
      simp only [ref03_Parse_l1]
      rw [ge_len, ifF]
      simp [digs]
    | cons c r ih =>
      intro j q acc h hj hq ha
      obtain ⟨e1, e2, e3⟩ := getDrop h
      obtain ⟨q, rfl⟩ : ∃ q', q = q' + 1 := ⟨q - 1, by simp at hq; omega⟩
      have hq' : r.length < q := by simp at hq; omega
      simp only [ref03_Parse_l1]
      rw [lt_len e3, if_pos rfl, sIdx_nat e1, bindS, digit_int, bindS, List.all_cons]
      cases hb : between 48 57 c with
      | false => rfl
      | true =>
        simp only [between, Bool.and_eq_true, decide_eq_true_eq] at hb
        have ew : IntKind.wrap .u8 ((c.toNat : Int) - 48) = (c.toNat : Int) - 48 := u8j (by omega) (by omega)
        rw [Bool.not_true, ifF, bindS, ew, app16 (by omega) (by simp; omega), bindS, cks (by omega), bindS, Bool.true_and]
        rw [ih (j+1) q (acc ++ [(c.toNat : Int) - 48]) e2 (by omega) hq' (by simp; omega)]
        simp [digs]
  have := hl d 0 fuel [] rfl (Nat.zero_le _) (by unfold fuel; omega) rfl
  exact this
theorem digs_dig {d : Str} (h : d.all (between 48 57) = true) : isDig (digs d) := fun x hx => by
 unfold digs at hx
 obtain ⟨c, hc, rfl⟩ := List.mem_map.1 hx
 have := List.all_eq_true.1 h c hc
 simp only [between, Bool.and_eq_true, decide_eq_true_eq] at this
 omega
theorem parse03_eq (s : Str) (hs : s.length ≤ 1000000) : (ref03_Parse s).bind (fun v6 => some (decide (v6.2 = 0))) = some (numOk s) := by
  unfold ref03_Parse numOk
  have h1 : (if (decide ((0 : Int) < (s.length : Int))) then (sIdx s 0).bind fun v6 => some (decide (v6 = 45)) else some false) = some (cutMinus s).2 := by
    cases s with
    | nil => rfl
    | cons c r =>
      have e45 : decide ((c.toNat : Int) = 45) = decide (c = 45) := by
        have := u8_all (fun c => decide ((c.toNat : Int) = 45) == decide (c = 45)) (by decide +kernel) c
        simpa using this
      rw [decide_eq_true (by simp), if_pos rfl, show (0 : Int) = ((0 : Nat) : Int) from rfl, sIdx_nat (s := c :: r) (j := 0) (c := c) rfl, bindS, e45]
      show _ = some ((if c = 45 then (r, true) else (c :: r, false) : Str × Bool).2)
      by_cases hc : c = 45
      · rw [decide_eq_true hc, if_pos hc]
      · rw [decide_eq_false hc, if_neg hc]
  have h2 : (if (cutMinus s).2 = true then (sub s 1 (s.length : Int)).bind fun v11 => some v11 else some s) = some (cutMinus s).1 := by
    cases s with
    | nil => rfl
    | cons c r =>
      have h3 : sub (c :: r) 1 ((c :: r : Str).length : Int) = some r := by
        unfold sub
        rw [if_pos ⟨by omega, by simp; omega, by simp⟩]
        simp
      rw [h3]
      show (if (if c = 45 then (r, true) else (c :: r, false) : Str × Bool).2 = true then _ else _) = some (if c = 45 then (r, true) else (c :: r, false) : Str × Bool).1
      by_cases hc : c = 45
      · rw [if_pos hc]; rfl
      · rw [if_neg hc]; rfl
  rw [h1, bindS, h2, bindS]
  generalize (cutMinus s).1 = d
  generalize (cutMinus s).2 = neg
  rw [digOk_pre]
  have h3 : (if (decide ((d.length : Int) < 1)) then some true else if (decide ((700 : Int) < (d.length : Int))) then some true else if (decide ((1 : Int) < (d.length : Int))) then (sIdx d 0).bind fun v19 => if (decide (v19 = 48)) then some true else if neg then some (d == [48]) else some false else if neg then some (d == [48]) else some false) = some (!preOk d neg) := by
    cases d with
    | nil => rfl
    | cons c r =>
      rw [show preOk (c :: r) neg = (decide ((c :: r).length ≤ 700) && (!(decide (1 < (c :: r).length) && decide (c = 48)) && !(neg && ((c :: r) == [48])))) from rfl]
      rw [decide_eq_false (by simp; omega), ifF]
      rcases Nat.lt_or_ge 700 (c :: r).length with h7 | h7
      · rw [decide_eq_true (by omega), if_pos rfl, decide_eq_false (by omega)]; rfl
      rw [decide_eq_false (by omega), ifF, decide_eq_true h7, Bool.true_and, show (0 : Int) = ((0 : Nat) : Int) from rfl, sIdx_nat (s := c :: r) (j := 0) (c := c) rfl]
      simp only [bindS, byte48]
      by_cases h1 : 1 < (c :: r).length
      · rw [decide_eq_true (by omega), if_pos rfl, decide_eq_true h1, Bool.true_and]
        cases decide (c = 48) with
        | true => rfl
        | false => cases neg <;> cases ((c :: r) == ([48] : Str)) <;> rfl
      · rw [decide_eq_false (by omega), ifF, decide_eq_false h1, Bool.false_and]
        cases neg <;> cases ((c :: r) == ([48] : Str)) <;> rfl
  rw [h3, bindS]
  cases hp : preOk d neg with
  | false => rfl
  | true =>
    have hl : d.length ≤ 700 := by
      cases d with
      | nil => simp
      | cons c r =>
        rw [show preOk (c :: r) neg = (decide ((c :: r).length ≤ 700) && (!(decide (1 < (c :: r).length) && decide (c = 48)) && !(neg && ((c :: r) == [48])))) from rfl] at hp
        simp only [Bool.and_eq_true, decide_eq_true_eq] at hp
        exact hp.1
    rw [Bool.not_true, ifF, letK_e, p1_eq d (by omega), Bool.true_and]
    cases ha : d.all (between 48 57) with
    | false => rfl
    | true =>
      rw [if_pos rfl, Bool.true_and]
      have hdl : (digs d).length = d.length := by simp [digs]
      have hlt : dv 0 (digs d) < 2 ^ 2400 := by
        have h1 := dv_lt (digs d) 0 (digs_dig ha)
        rw [hdl, Nat.zero_add, Nat.one_mul] at h1
        have h2 : 10 ^ d.length ≤ 10 ^ 700 := Nat.pow_le_pow_right (by omega) hl
        have h3 : (10 : Nat) ^ 700 ≤ 2 ^ 2400 := by decide +kernel
        exact Nat.lt_of_lt_of_le (Nat.lt_of_lt_of_le h1 h2) h3
      obtain ⟨b', g1, g2, g3, g4⟩ := l2_eq 2400 fuel (digs d) [] (digs_dig ha) (by omega) (fun x hx => by simp at hx) hlt (by unfold fuel; omega) (by simp)
      rw [g1, bindS]
      unfold ref03_made ref03_cut
      have g3' : b'.length ≤ 2401 := by simpa using g3
      have hc := rcut_eq b'.reverse fuel (by simp; unfold fuel; omega) (by simp; omega)
      rw [List.reverse_reverse] at hc
      rw [hc, bindS, bindS]
      have hlen := cutR_len (B := 2) (by decide) 2048 b'.reverse (by rw [List.reverse_reverse]; exact g2)
      rw [List.reverse_reverse, g4, show wv 2 [] = 0 from rfl, Nat.zero_add, List.length_nil, Nat.pow_zero, Nat.one_mul] at hlen
      have hcl : (cutR b'.reverse).length ≤ 2401 := by
        unfold cutR
        have := (List.dropWhile_suffix (fun x : Int => decide (x = 0)) (l := b'.reverse)).length_le
        simp at this; omega
      obtain ⟨w', f1, f2⟩ := words_l1 (cutR b'.reverse).reverse (by simp; omega) _ 0 fuel [] rfl (Nat.zero_le _) (by simp; unfold fuel; omega) rfl
      unfold ref03_words
      rw [show ((0 : Nat) : Int) = 0 from rfl] at f1
      rw [f1, bindS, bindS]
      rw [List.length_reverse] at f2
      by_cases h64 : (cutR b'.reverse).length ≤ 2048
      · rw [decide_eq_false (by omega), ifF, decide_eq_true (hlen.1 h64)]
        cases neg <;> rfl
      · rw [decide_eq_true (by omega), if_pos rfl, decide_eq_false (fun h => h64 (hlen.2 h))]
        rfl
end Go.Cq

