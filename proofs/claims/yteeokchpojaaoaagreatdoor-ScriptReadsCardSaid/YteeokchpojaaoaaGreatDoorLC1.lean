import Derived.Test.YteeokchpojaaoaaGreatDoorLC0
set_option linter.unusedSectionVars false
set_option linter.unusedVariables false
set_option linter.unusedSimpArgs false
set_option maxRecDepth 100000
set_option linter.unusedVariables false
set_option linter.unusedSimpArgs false
namespace Go.Cq
open Go Go.Av

/-! ### The document's reader -/
def toC (c : ref30_Command) : Cmd := ⟨c.Name, c.N, c.V.map toV, c.W, c.S⟩
theorem num_ref {p : Str} (hs : p.length ≤ 1000000) : ∃ w b, ref30_num p = some (w, b) ∧ nval p = if b = true then some w else none := by
  obtain ⟨v, w, b, h1, h2, h3⟩ := nums_same (s := p) (by omega)
  refine ⟨w, b, h2, ?_⟩
  unfold nval; rw [h1]
  cases b with
  | true => rw [h3 rfl]; rfl
  | false => rfl
theorem val_ref {p : Str} (hs : p.length ≤ 1000000) : ∃ w b, ref30_value p = some (w, b) ∧ vval p = if b = true then some (toV w) else none := by
  obtain ⟨v, w, b, h1, h2, h3⟩ := value_same (s := p) hs
  refine ⟨w, b, h2, ?_⟩
  unfold vval; rw [h1]
  cases b with
  | true => rw [h3 rfl]; rfl
  | false => rfl
theorem addN_toC (c : ref30_Command) (n : Int) : addN (toC c) n = toC ⟨c.Name, c.N ++ [n], c.V, c.W, c.S⟩ := rfl
theorem addV_toC (c : ref30_Command) (v : ref11_Val) : addV (toC c) (toV v) = toC ⟨c.Name, c.N, c.V ++ [v], c.W, c.S⟩ := by simp [addV, toC]
theorem drop_cons {α : Type} {l : List α} {j : Nat} {p : α} {ps : List α} (h : l.drop j = p :: ps) : l[j]? = some p ∧ l.drop (j+1) = ps ∧ j < l.length := getDrop h
def bnd (c : ref30_Command) : Nat := c.N.length + c.V.length
/-- One step of the inner loop, at a piece that is there. -/
theorem l5_step (l : List Str) (k : UInt8) (hk : isLt k = true) (hk6 : k ≠ 115) (K : Int → ref30_Command → Option (ref30_Command × Bool)) (q at_ j : Nat) (c : ref30_Command) (p : Str)
    (hp : l[at_]? = some p) (hp2 : p.length ≤ 1000000) (hl : at_ < l.length) (hb : bnd c ≤ 3000000) (hll : l.length ≤ 3000000) (hj : j ≤ 3000000) (hcond : k = 42 ∨ k = 86 ∨ (j = 0 ∧ k ≠ 42 ∧ k ≠ 86)) :
    (∃ c2, bnd c2 ≤ bnd c + 1 ∧ ref30_command_l5 l (k.toNat : Int) K (q+1) (at_ : Int) (j : Int) c = ref30_command_l5 l (k.toNat : Int) K q ((at_ + 1 : Nat) : Int) ((j + 1 : Nat) : Int) c2 ∧
      (if k = 105 ∨ k = 42 then (nval p).map (addN (toC c)) else if k = 119 then (if wordB p = true then some (setW (toC c) p) else none) else (vval p).map (addV (toC c))) = some (toC c2)) ∨
    ((∃ c2, ref30_command_l5 l (k.toNat : Int) K (q+1) (at_ : Int) (j : Int) c = some (c2, false)) ∧ (if k = 105 ∨ k = 42 then (nval p).map (addN (toC c)) else if k = 119 then (if wordB p = true then some (setW (toC c) p) else none) else (vval p).map (addV (toC c))) = none) := by
  rw [ref30_command_l5]
  have hc : (((decide ((at_ : Int) < (l.length : Int))) && ((decide ((k.toNat : Int) = 42)) || (decide ((k.toNat : Int) = 86)))) || (((decide ((j : Int) < 1)) && (!decide ((k.toNat : Int) = 42))) && (!decide ((k.toNat : Int) = 86)))) = true := by
    rw [decide_eq_true (show (at_ : Int) < (l.length : Int) by omega)]
    rcases hcond with rfl | rfl | ⟨rfl, h1, h2⟩
    · rfl
    · rfl
    · rw [show decide (((k.toNat : Nat) : Int) = 42) = false from u8ne h1, show decide (((k.toNat : Nat) : Int) = 86) = false from u8ne h2]; rfl
  unfold bnd at hb
  rw [hc, ifT, decide_eq_false (show ¬ ((l.length : Int) ≤ (at_ : Int)) by omega), ifF, lAt_nat hp, bindS, cks (by omega), bindS]
  simp only [letK_e]
  by_cases h5 : k = 119
  · subst h5
    rw [show decide ((((119 : UInt8).toNat : Nat) : Int) = 119) = true from rfl, ifT, ref_word (by omega), bindS]
    rw [if_neg (show ¬ ((119 : UInt8) = 105 ∨ (119 : UInt8) = 42) by decide), if_pos rfl]
    cases hw : wordB p with
    | true => exact .inl ⟨⟨c.Name, c.N, c.V, p, c.S⟩, by simp [bnd], by rw [show (!true) = false from rfl, ifF, cks (by omega), bindS], rfl⟩
    | false => exact .inr ⟨⟨_, by rw [show (!false) = true from rfl, ifT]⟩, rfl⟩
  rw [show decide (((k.toNat : Nat) : Int) = 119) = false from u8ne h5, ifF]
  by_cases hi : k = 105 ∨ k = 42
  · rw [if_pos hi]
    rw [show ((decide ((k.toNat : Int) = 105)) || (decide ((k.toNat : Int) = 42))) = true by rcases hi with rfl | rfl <;> rfl, ifT]
    obtain ⟨w, b, h1, h2⟩ := num_ref hp2
    rw [h1, bindS, h2]
    cases b with
    | true =>
      refine .inl ⟨⟨c.Name, c.N ++ [w], c.V, c.W, c.S⟩, by simp [bnd]; omega, ?_, rfl⟩
      dsimp only
      rw [show (!true) = false from rfl, ifF, app_of (by simp; omega) (by simp; omega), bindS, cks (by omega), bindS]
    | false => exact .inr ⟨⟨_, by dsimp only; rw [show (!false) = true from rfl, ifT]⟩, rfl⟩
  · rw [if_neg hi, if_neg h5]
    rw [show ((decide ((k.toNat : Int) = 105)) || (decide ((k.toNat : Int) = 42))) = false by
      rw [show decide (((k.toNat : Nat) : Int) = 105) = false from u8ne fun e => hi (.inl e), show decide (((k.toNat : Nat) : Int) = 42) = false from u8ne fun e => hi (.inr e)]; rfl, ifF]
    obtain ⟨w, b, h1, h2⟩ := val_ref hp2
    rw [h1, bindS, h2]
    cases b with
    | true =>
      refine .inl ⟨⟨c.Name, c.N, c.V ++ [w], c.W, c.S⟩, by simp [bnd]; omega, ?_, by rw [← addV_toC]; rfl⟩
      dsimp only
      rw [show (!true) = false from rfl, ifF, app_of (by simp; omega) (by simp; omega), bindS, cks (by omega), bindS]
    | false => exact .inr ⟨⟨_, by dsimp only; rw [show (!false) = true from rfl, ifT]⟩, rfl⟩
/-- What the inner loop comes to. -/
def L5 (m : Option (Cmd × List Str)) (l : List Str) (B : Nat) (K : Int → ref30_Command → Option (ref30_Command × Bool)) (r : Option (ref30_Command × Bool)) : Prop :=
  (∃ c2 at2, m = some (toC c2, l.drop at2) ∧ at2 ≤ l.length ∧ bnd c2 + (l.length - at2) ≤ B ∧ r = K ((at2 : Nat) : Int) c2) ∨ (m = none ∧ ∃ c2, r = some (c2, false))
theorem l5_star (l : List Str) (hlt : ∀ p, p ∈ l → p.length ≤ 1000000) (hll : l.length ≤ 1000000) (k : UInt8) (hk : k = 42 ∨ k = 86) (K : Int → ref30_Command → Option (ref30_Command × Bool)) (B : Nat) (hB : B ≤ 3000000) : ∀ (ps : List Str) (q at_ j : Nat) (c : ref30_Command), l.drop at_ = ps → at_ ≤ l.length → j ≤ at_ → bnd c + (l.length - at_) ≤ B → ps.length < q →
    L5 (if k = 42 then (allI ps (toC c)).bind fun c => some (c, []) else (allV ps (toC c)).bind fun c => some (c, [])) l B K (ref30_command_l5 l (k.toNat : Int) K q (at_ : Int) (j : Int) c)
  | [], q+1, at_, j, c, h, ha, hj, hb, _ => by
    have : at_ = l.length := by have : l.length ≤ at_ := by simpa using h
                                omega
    subst this
    left
    refine ⟨c, l.length, ?_, Nat.le_refl _, hb, ?_⟩
    · rcases hk with rfl | rfl <;> simp [allI, allV]
    · rw [ref30_command_l5]
      have hc : (((decide ((l.length : Int) < (l.length : Int))) && ((decide ((k.toNat : Int) = 42)) || (decide ((k.toNat : Int) = 86)))) || (((decide ((j : Int) < 1)) && (!decide ((k.toNat : Int) = 42))) && (!decide ((k.toNat : Int) = 86)))) = false := by
        rw [decide_eq_false (show ¬ ((l.length : Int) < (l.length : Int)) by omega)]
        rcases hk with rfl | rfl <;> simp
      rw [hc, ifF]
  | p :: ps, q+1, at_, j, c, h, ha, hj, hb, hq => by
    obtain ⟨e1, e2, e3⟩ := drop_cons h
    have hmem := List.mem_of_getElem? e1
    have hk6 : k ≠ 115 := by rcases hk with rfl | rfl <;> decide
    have hkl : isLt k = true := by rcases hk with rfl | rfl <;> rfl
    rcases l5_step l k hkl hk6 K q at_ j c p e1 (hlt p hmem) e3 (by omega) (by omega) (by omega) (hk.imp id fun h => .inl h) with ⟨c2, g1, g2, g3⟩ | ⟨⟨c2, g1⟩, g3⟩
    · rw [g2]
      have ih := l5_star l hlt hll k hk K B hB ps q (at_+1) (j+1) c2 e2 (by omega) (by omega) (by omega) (by simp at hq; omega)
      rcases hk with rfl | rfl
      · rw [if_pos (by simp)] at g3
        rw [if_pos rfl] at ih ⊢
        unfold allI
        cases hn : nval p with
        | none => rw [hn] at g3; cases g3
        | some n => rw [hn] at g3; simp only [Option.map_some, Option.some.injEq] at g3; rw [bindS, g3]; exact ih
      · rw [if_neg (by decide), if_neg (by decide)] at g3
        rw [if_neg (by decide)] at ih ⊢
        unfold allV
        cases hn : vval p with
        | none => rw [hn] at g3; cases g3
        | some n => rw [hn] at g3; simp only [Option.map_some, Option.some.injEq] at g3; rw [bindS, g3]; exact ih
    · rw [g1]
      right
      refine ⟨?_, c2, rfl⟩
      rcases hk with rfl | rfl
      · rw [if_pos (by simp)] at g3
        rw [if_pos rfl]
        unfold allI
        cases hn : nval p with
        | none => rfl
        | some n => rw [hn] at g3; cases g3
      · rw [if_neg (by decide), if_neg (by decide)] at g3
        rw [if_neg (by decide)]
        unfold allV
        cases hn : vval p with
        | none => rfl
        | some n => rw [hn] at g3; cases g3
  | [], 0, _, _, _, _, _, _, _, hq => by omega
  | _ :: _, 0, _, _, _, _, _, _, _, hq => by omega
theorem partF_one (k : UInt8) (hk : isLt k = true) (hk6 : k ≠ 115) (h42 : k ≠ 42) (h86 : k ≠ 86) (c : ref30_Command) (ps : List Str) : partF k ps (toC c) = match ps with
      | [] => none
      | p :: ps => (if k = 105 ∨ k = 42 then (nval p).map (addN (toC c)) else if k = 119 then (if wordB p = true then some (setW (toC c) p) else none) else (vval p).map (addV (toC c))).bind fun c => some (c, ps) := by
  unfold partF
  unfold isLt at hk
  simp only [Bool.or_eq_true, beq_iff_eq, h42, h86, hk6, or_false] at hk
  rcases hk with (rfl | rfl) | rfl
  · rw [if_pos rfl]; cases ps with
    | nil => rfl
    | cons p ps => dsimp only; rw [if_pos (by simp)]; cases nval p <;> rfl
  · rw [if_neg (by decide), if_neg (by decide), if_pos rfl]; cases ps with
    | nil => rfl
    | cons p ps => dsimp only; rw [if_neg (by decide), if_neg (by decide)]; cases vval p <;> rfl
  · rw [if_neg (by decide), if_neg (by decide), if_neg (by decide), if_neg (by decide), if_pos rfl]; cases ps with
    | nil => rfl
    | cons p ps => dsimp only; cases wordB p <;> rfl
theorem l5_one (l : List Str) (hlt : ∀ p, p ∈ l → p.length ≤ 1000000) (hll : l.length ≤ 1000000) (k : UInt8) (hk : isLt k = true) (hk6 : k ≠ 115) (h42 : k ≠ 42) (h86 : k ≠ 86) (K : Int → ref30_Command → Option (ref30_Command × Bool)) (B : Nat) (hB : B ≤ 3000000) (ps : List Str) (q at_ : Nat) (c : ref30_Command) (h : l.drop at_ = ps) (ha : at_ ≤ l.length) (hb : bnd c + (l.length - at_) ≤ B) :
    L5 (partF k ps (toC c)) l B K (ref30_command_l5 l (k.toNat : Int) K (q+2) (at_ : Int) 0 c) := by
  have hp := partF_one k hk hk6 h42 h86 c ps
  cases ps with
  | nil =>
    have : at_ = l.length := by have : l.length ≤ at_ := by simpa using h
                                omega
    subst this
    right
    refine ⟨hp, c, ?_⟩
    rw [ref30_command_l5]
    rw [show decide (((k.toNat : Nat) : Int) = 42) = false from u8ne h42, show decide (((k.toNat : Nat) : Int) = 86) = false from u8ne h86]
    rw [show (((decide ((l.length : Int) < (l.length : Int))) && (false || false)) || (((decide ((0 : Int) < 1)) && (!false)) && (!false))) = true by simp, ifT, decide_eq_true (Int.le_refl _), ifT]
  | cons p ps =>
    obtain ⟨e1, e2, e3⟩ := drop_cons h
    have hmem := List.mem_of_getElem? e1
    rcases l5_step l k hk hk6 K (q+1) at_ 0 c p e1 (hlt p hmem) e3 (by omega) (by omega) (by omega) (.inr (.inr ⟨rfl, h42, h86⟩)) with ⟨c2, g1, g2, g3⟩ | ⟨⟨c2, g1⟩, g3⟩
    · left
      refine ⟨c2, at_+1, ?_, by omega, by omega, ?_⟩
      · rw [hp]; dsimp only; rw [g3, bindS, e2]
      · rw [show ((0 : Int)) = ((0 : Nat) : Int) from rfl, g2, ref30_command_l5]
        rw [show decide (((k.toNat : Nat) : Int) = 42) = false from u8ne h42, show decide (((k.toNat : Nat) : Int) = 86) = false from u8ne h86]
        rw [show (((decide (((at_ + 1 : Nat) : Int) < (l.length : Int))) && (false || false)) || (((decide (((0 + 1 : Nat) : Int) < 1)) && (!false)) && (!false))) = false by simp, ifF]
    · right
      refine ⟨?_, c2, g1⟩
      rw [hp]; dsimp only; rw [g3]; rfl

/-! ### What is left of a line -/
theorem join_split : ∀ s : Str, Lib.join (splitC 32 s) [32] = s
  | [] => rfl
  | x :: r => by
    have h := join_split r
    have hn := splitC_ne 32 r
    unfold splitC
    cases hs : splitC 32 r with
    | nil => exact absurd hs hn
    | cons p l =>
      rw [hs, Lib.join_cons] at h
      split
      · rename_i hx
        subst hx
        rw [Lib.join_cons]
        simp only [Lib.joinTail, List.map_cons, List.flatten_cons, List.nil_append, List.cons_append] at h ⊢
        rw [h]
      · dsimp only
        rw [Lib.join_cons, List.cons_append, h]
theorem join_drop : ∀ (a b : List Str), b ≠ [] → (Lib.join (a ++ b) [32]).drop (tot a) = Lib.join b [32]
  | [], b, _ => rfl
  | p :: a, b, hb => by
    have ih := join_drop a b hb
    rw [List.cons_append, Lib.join_cons]
    cases hab : a ++ b with
    | nil => simp at hab; exact absurd hab.2 hb
    | cons y r =>
      rw [hab, Lib.join_cons] at ih
      simp only [Lib.joinTail, List.map_cons, List.flatten_cons, List.cons_append, List.nil_append] at ih ⊢
      rw [show tot (p :: a) = p.length + (1 + tot a) by simp [tot]; omega, ← List.drop_drop, List.drop_left]
      rw [show (1 + tot a) = tot a + 1 by omega, List.drop_succ_cons]
      exact ih
end Go.Cq

