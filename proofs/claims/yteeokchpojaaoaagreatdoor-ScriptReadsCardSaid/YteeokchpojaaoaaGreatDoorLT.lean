import Derived.Test.YteeokchpojaaoaaGreatDoorLV
import Derived.Lib.SplitLaws
set_option linter.unusedSectionVars false
set_option linter.unusedVariables false
set_option linter.unusedSimpArgs false
set_option maxRecDepth 100000
set_option linter.unusedVariables false
set_option linter.unusedSimpArgs false
namespace Go.Cq
open Go Go.Av

/-! ### Texts cut at a byte -/
def cutAt (c : UInt8) : Str → Str × Str × Bool
  | [] => ([], [], false)
  | x :: r => if x = c then ([], r, true) else (x :: (cutAt c r).1, (cutAt c r).2.1, (cutAt c r).2.2)
theorem index_one_hit (c : UInt8) (r : Str) : Lib.index (c :: r) [c] = 0 := by
  have := Lib.index_first (s := c :: r) (sub := [c]) (i := 0) (Nat.zero_le _) (by simp [Lib.occAt]) (fun _ h => absurd h (Nat.not_lt_zero _))
  exact this
theorem index_one_step {c x : UInt8} (h : x ≠ c) (r : Str) : Lib.index (x :: r) [c] = if Lib.index r [c] = -1 then -1 else Lib.index r [c] + 1 := by
  have h0 : Lib.NoOcc (x :: r) [c] 1 := fun j hj => by
    have : j = 0 := by omega
    subst this
    simp [Lib.occAt]
    show (c == x && true) = false
    rw [Bool.and_true]; simpa using fun e : c = x => h e.symm
  have := Lib.index_drop (s := x :: r) (sub := [c]) (i := 1) h0 (by simp)
  rw [this]
  simp
theorem cut_one (c : UInt8) : ∀ s : Str, Lib.cut s [c] = cutAt c s
  | [] => rfl
  | x :: r => by
    unfold cutAt
    by_cases h : x = c
    · subst h
      rw [if_pos rfl]
      unfold Lib.cut
      rw [index_one_hit]
      simp
    · rw [if_neg h, ← cut_one c r]
      unfold Lib.cut
      rw [index_one_step h]
      have hge := Lib.index_ge r [c]
      by_cases hm : Lib.index r [c] = -1
      · rw [hm]; simp
      · rw [if_neg hm]
        have h1 : 0 ≤ Lib.index r [c] := by omega
        obtain ⟨i, hi⟩ : ∃ i : Nat, Lib.index r [c] = i := ⟨(Lib.index r [c]).toNat, by omega⟩
        rw [hi, if_pos (by omega), if_pos (by omega)]
        have e1 : ((i : Int) + 1).toNat = i + 1 := by omega
        have e2 : (i : Int).toNat = i := by omega
        rw [e1, e2]
        simp
theorem cutAt_len (c : UInt8) : ∀ s : Str, (cutAt c s).1.length ≤ s.length ∧ (cutAt c s).2.1.length ≤ s.length
  | [] => ⟨Nat.le_refl _, Nat.le_refl _⟩
  | x :: r => by
    unfold cutAt
    have := cutAt_len c r
    split
    · simp
    · simp; omega
/-- The text again, of its two pieces. -/
theorem cutAt_back (c : UInt8) : ∀ s : Str, s = if (cutAt c s).2.2 = true then (cutAt c s).1 ++ c :: (cutAt c s).2.1 else (cutAt c s).1
  | [] => rfl
  | x :: r => by
    have ih := cutAt_back c r
    unfold cutAt
    by_cases h : x = c
    · rw [if_pos h]; simp [h]
    · rw [if_neg h]
      dsimp only
      cases hb : (cutAt c r).2.2 with
      | true => rw [hb, ifT] at ih; rw [ifT]; conv => lhs; rw [ih]
                simp
      | false => rw [hb, ifF] at ih; rw [ifF, ← ih]
/-- All pieces of a text between a byte. -/
def splitC (c : UInt8) : Str → List Str
  | [] => [[]]
  | x :: r => if x = c then [] :: splitC c r else match splitC c r with
    | [] => [[x]]
    | p :: l => (x :: p) :: l
theorem splitK_one (c : UInt8) : ∀ s : Str, Lib.splitK [c] 0 (s.count c) s = splitC c s
  | [] => rfl
  | x :: r => by
    unfold splitC
    by_cases h : x = c
    · subst h
      rw [if_pos rfl, List.count_cons_self, Lib.splitK, index_one_hit]
      simp
      exact splitK_one x r
    · rw [if_neg h, List.count_cons_of_ne h, ← splitK_one c r]
      have hge := Lib.index_ge r [c]
      cases hc : r.count c with
      | zero =>
        rfl
      | succ k =>
        rw [Lib.splitK, Lib.splitK, index_one_step h]
        by_cases hm : Lib.index r [c] = -1
        · rw [hm]; rfl
        · rw [if_neg hm]
          obtain ⟨i, hi⟩ : ∃ i : Nat, Lib.index r [c] = i := ⟨(Lib.index r [c]).toNat, by omega⟩
          rw [hi]
          have e1 : ((i : Int) + 1).toNat = i + 1 := by omega
          have e2 : (i : Int).toNat = i := by omega
          rw [if_neg (by simp; try omega), if_neg (by simp; try omega), e1, e2]
          simp
theorem split_one {s : Str} (c : UInt8) (h : s.length < 4294967281) : strings_Split s [c] = some (splitC c s) := by
  unfold strings_Split splitS
  rw [if_pos ⟨h, Nat.le_refl _⟩]
  have : Lib.countB ⟨s.toArray⟩ ⟨[c].toArray⟩ = s.count c := Lib.count_one c s
  rw [this, splitK_one]
theorem cut_one' {s : Str} (c : UInt8) (h : s.length < 4294967281) : strings_Cut s [c] = some (cutAt c s) := by
  unfold strings_Cut cutS
  rw [if_pos h, cut_one]
end Go.Cq

