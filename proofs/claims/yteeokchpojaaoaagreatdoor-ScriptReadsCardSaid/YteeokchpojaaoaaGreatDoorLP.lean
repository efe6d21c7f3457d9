import Derived.Test.YteeokchpojaaoaaGreatDoorLT
set_option linter.unusedSectionVars false
set_option linter.unusedVariables false
set_option linter.unusedSimpArgs false
set_option maxRecDepth 100000
set_option linter.unusedVariables false
set_option linter.unusedSimpArgs false
namespace Go.Cq
open Go Go.Av

/-- The pieces of a text, of which a part of the first one is already read. -/
def spl (c : UInt8) (cur : Str) : Str → List Str
  | [] => [cur]
  | x :: r => if x = c then cur :: spl c [] r else spl c (cur ++ [x]) r
theorem spl_eq (c : UInt8) : ∀ (r cur : Str), ∃ p l, splitC c r = p :: l ∧ spl c cur r = (cur ++ p) :: l
  | [], cur => ⟨[], [], rfl, by simp [spl]⟩
  | x :: r, cur => by
    unfold splitC spl
    by_cases h : x = c
    · rw [if_pos h, if_pos h]
      obtain ⟨p, l, h1, h2⟩ := spl_eq c r []
      exact ⟨[], splitC c r, rfl, by rw [h2, h1]; simp⟩
    · rw [if_neg h, if_neg h]
      obtain ⟨p, l, h1, h2⟩ := spl_eq c r (cur ++ [x])
      exact ⟨x :: p, l, by rw [h1], by rw [h2]; simp⟩
theorem spl_nil (c : UInt8) (s : Str) : spl c [] s = splitC c s := by
  obtain ⟨p, l, h1, h2⟩ := spl_eq c s []
  rw [h1, h2]; rfl
theorem sub_nat {α : Type} {s : List α} {a b : Nat} (h1 : a ≤ b) (h2 : b ≤ s.length) : sub s (a : Int) (b : Int) = some ((s.take b).drop a) := by
  unfold sub; rw [if_pos ⟨by omega, by omega, by omega⟩]; simp
theorem pieces_loop (s : Str) (hs : s.length ≤ 1000000) : ∀ (r : Str) (j q a : Nat) (acc : List Str), s.drop j = r → a ≤ j → j ≤ s.length → acc.length ≤ j → r.length + 1 < q →
    ref30_pieces_l1 s q acc (a : Int) (j : Int) = some (acc ++ spl 32 ((s.take j).drop a) r)
  | [], j, q+2, a, acc, h, ha, hj, hl, _ => by
    have : j = s.length := by have : s.length ≤ j := by simpa using h
                              omega
    subst this
    rw [ref30_pieces_l1, show decide ((s.length : Int) ≤ (s.length : Int)) = true by simp, ifT, decide_eq_true rfl, ifT, bindS, ifT, sub_nat ha (Nat.le_refl _), bindS, app_of (by simp; omega) (by simp; omega), bindS, cks (by omega), bindS, bindS, bindS]
    rw [ref30_pieces_l1, show decide ((((s.length + 1 : Nat)) : Int) ≤ (s.length : Int)) = false by simp; omega, ifF]
    rfl
  | x :: r, j, q+1, a, acc, h, ha, hj, hl, hq => by
    obtain ⟨e1, e2, e3⟩ := getDrop h
    rw [ref30_pieces_l1, show decide ((j : Int) ≤ (s.length : Int)) = true from decide_eq_true (by omega), ifT, show decide ((j : Int) = (s.length : Int)) = false from decide_eq_false (by omega), ifF, sIdx_at h, bindS]
    have htk : ∀ a, a ≤ j → (s.take (j + 1)).drop a = (s.take j).drop a ++ [x] := fun a ha => by
      rw [List.take_add_one, e1, List.drop_append_of_le_length (by simp; omega)]; rfl
    unfold spl
    by_cases hx : x = 32
    · rw [show decide ((x.toNat : Int) = 32) = true from decide_eq_true (by rw [hx]; rfl), bindS, ifT, sub_nat ha (by omega), bindS, app_of (by simp; omega) (by simp; omega), bindS, cks (by omega), bindS, bindS, bindS, if_pos hx]
      rw [pieces_loop s hs r (j+1) q (j+1) (acc ++ [(s.take j).drop a]) e2 (Nat.le_refl _) (by omega) (by simp; omega) (by simp at hq; omega)]
      have : (s.take (j + 1)).drop (j + 1) = [] := by simp
      rw [this]; simp
    · have hx' : ¬ (x.toNat : Int) = 32 := fun e => hx (UInt8.toNat_inj.1 (show x.toNat = 32 by omega))
      rw [decide_eq_false hx', bindS, ifF, bindS, cks (by omega), bindS, if_neg hx]
      rw [pieces_loop s hs r (j+1) q a acc e2 (by omega) (by omega) (by omega) (by simp at hq; omega), htk a ha]
  | [], _, 0, _, _, _, _, _, _, hq => by omega
  | [], _, 1, _, _, _, _, _, _, hq => by simp at hq
  | _ :: _, _, 0, _, _, _, _, _, _, hq => by omega
/-- The document's pieces are the library's. -/
theorem pieces_eq {s : Str} (hs : s.length ≤ 1000000) : ref30_pieces s = some (splitC 32 s) := by
  unfold ref30_pieces
  have := pieces_loop s hs s 0 fuel 0 [] rfl (by omega) (by omega) (by simp) (Nat.lt_of_le_of_lt (Nat.add_le_add_right hs 1) (by decide))
  have h2 : ref30_pieces_l1 s fuel [] 0 0 = some (spl 32 [] s) := by simpa using this
  rw [h2, bindS, spl_nil]
end Go.Cq

