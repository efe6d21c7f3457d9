import Derived.Test.YtpagjhigaicfpaaDoorLaL
import Derived.Test.YtpagjhigaicfpaaDoorLaU
set_option linter.unusedSectionVars false
set_option linter.unusedVariables false
set_option linter.unusedSimpArgs false
set_option maxRecDepth 100000
set_option linter.unusedVariables false
set_option linter.unusedSimpArgs false
namespace Go.Cq
open Go Go.Av

/-! ### A text with each quote twice -/
def dbl : Str → Str
  | [] => []
  | b :: r => if b = 39 then 39 :: 39 :: dbl r else b :: dbl r
theorem dbl_len : ∀ s : Str, (dbl s).length ≤ 2 * s.length
  | [] => by simp [dbl]
  | b :: r => by
    have := dbl_len r
    unfold dbl; split <;> simp <;> omega
theorem replaceK_dbl : ∀ s : Str, Lib.replaceK [39] [39, 39] (Lib.count s [39]) s = dbl s
  | [] => rfl
  | b :: r => by
    have ih := replaceK_dbl r
    by_cases hb : b = 39
    · subst hb
      rw [Lib.count_cons_eq, Nat.add_comm, Lib.replaceK_hit (i := 0) _ _ _ _ (by simp [Lib.index_one, Lib.indexByte])]
      simp [dbl, ih]
    · rw [Lib.count_cons_ne _ _ _ hb]
      unfold dbl; rw [if_neg hb]
      cases hk : Lib.count r [39] with
      | zero => rw [hk] at ih; simp only [Lib.replaceK] at ih ⊢; rw [← ih]
      | succ k =>
        rw [hk] at ih
        obtain ⟨i, hi⟩ := Lib.index_of_count (s := r) (old := [39]) (by omega)
        rw [Lib.replaceK_hit _ _ _ _ i hi] at ih
        have h2 : Lib.index (b :: r) [39] = ((i + 1 : Nat) : Int) := by
          rw [Lib.index_one] at hi ⊢
          unfold Lib.indexByte
          have hb2 : (b == 39) = false := by simpa using hb
          simp only [hb2]
          simp [hi]
        rw [Lib.replaceK_hit _ _ _ _ (i + 1) h2, ← ih]
        simp [Nat.add_right_comm]
theorem replaceAll_dbl (s : Str) : Lib.replaceAll s [39] [39, 39] = dbl s := by
  unfold Lib.replaceAll Lib.replace Lib.replaceNum
  rw [if_neg (by decide), if_pos (by left; decide)]
  exact replaceK_dbl s
theorem ra_eq {s : Str} (hs : s.length ≤ 100000) : strings_ReplaceAll s [39] [39, 39] = some (dbl s) := by
  unfold strings_ReplaceAll replaceAllS
  have := dbl_len s
  rw [replaceAll_dbl, if_pos]
  refine ⟨by omega, by simp, ?_, by unfold maxB; omega⟩
  have h2 : Lib.countB ⟨s.toArray⟩ ⟨[39].toArray⟩ ≤ s.length + 1 := by
    unfold Lib.countB; exact Lib.count_le _ _
  simp; omega
end Go.Cq

