import Derived.Test.YtiboeelbmgnbgaaGreatDoorL6
set_option linter.unusedSectionVars false
set_option linter.unusedVariables false
set_option linter.unusedSimpArgs false
set_option linter.unnecessarySimpa false
set_option maxRecDepth 100000
set_option linter.unusedVariables false
set_option linter.unusedSimpArgs false
namespace Go.Cq
open Go Go.Av
/-! ### The document's machine: those that nobody has taken yet -/
def kAt (N : List tree_Node) (j : Int) : Int := match N[j.toNat]? with | some n => n.K | none => 0
def stK (N : List tree_Node) (P : Nat → Bool × Bool × Bool) : Nat → List Int → Bool
  | _, [] => true
  | k, j :: r => standsB (kAt N j) (P k) && stK N P (k+1) r
def dAt (D : List Int) (j : Int) : Int := match D[j.toNat]? with | some d => d | none => 0
def mxH (D : List Int) : Int → List Int → Int
  | a, [] => a
  | a, j :: r => mxH D (max a (dAt D j)) r
theorem kAt_of {N : List tree_Node} {j : Nat} {n : tree_Node} (h : N[j]? = some n) : kAt N (j : Int) = n.K := by simp [kAt, h]
theorem dAt_of {D : List Int} {j : Nat} {d : Int} (h : D[j]? = some d) : dAt D (j : Int) = d := by simp [dAt, h]
/-- The step at a node. -/
def stepM (N : List tree_Node) (i : Nat) (S D : List Int) : Option (List Int × List Int) := match N[i]? with
  | none => none
  | some n => if mayB n = true ∧ n.Kids.length ≤ S.length ∧ S.drop (S.length - n.Kids.length) = n.Kids ∧ stK N (placesB n) 0 n.Kids = true ∧ mxH D 0 n.Kids < 64 then
      some (S.take (S.length - n.Kids.length) ++ [(i : Int)], D ++ [mxH D 0 n.Kids + 1]) else none
def mach (N : List tree_Node) : Nat → Nat → List Int → List Int → Option (List Int)
  | 0, _, S, _ => some S
  | c+1, i, S, D => match stepM N i S D with
    | some (S', D') => mach N c (i+1) S' D'
    | none => none
section
variable (m : ref14_Method)
end
end Go.Cq

set_option maxRecDepth 100000
set_option linter.unusedVariables false
set_option linter.unusedSimpArgs false
namespace Go.Cq
open Go Go.Av
theorem take_take_eq {α : Type} {A B C : List α} (h1 : B.take A.length = A) (h2 : C.take B.length = B) (hl : A.length ≤ B.length) : C.take A.length = A := by
  have : (C.take B.length).take A.length = C.take A.length := by rw [List.take_take, Nat.min_eq_left hl]
  rw [← this, h2, h1]
theorem stepM_of {N : List tree_Node} {i : Nat} {n : tree_Node} {S D : List Int} (hn : N[i]? = some n) (hm : mayB n = true) (hs : stK N (placesB n) 0 n.Kids = true) (hx : mxH D 0 n.Kids < 64) :
    stepM N i (S ++ n.Kids) D = some (S ++ [(i : Int)], D ++ [mxH D 0 n.Kids + 1]) := by
  unfold stepM
  have hl : (S ++ n.Kids).length - n.Kids.length = S.length := by simp
  rw [hn]
  dsimp only
  rw [hl, if_pos ⟨hm, by simp, by simp, hs, hx⟩]
  simp
mutual
theorem Tr.run {N : List tree_Node} {lo i h : Nat} : Tr N lo i h → h ≤ 64 → ∀ D : List Int, D.length = lo → ∃ D' : List Int, D'.length = i + 1 ∧ D'.take lo = D ∧ dAt D' (i : Int) = (h : Int) ∧ ∀ c S, mach N (c + (i + 1 - lo)) lo S D = mach N c (i+1) (S ++ [(i : Int)]) D'
  | .mk (h := h) (n := n) hn hm hf, hh, D, hD => by
    obtain ⟨D1, d1, d2, d3, d4, d5⟩ := Fo.run hf (by omega) D hD
    have e := d3 0 (by omega)
    have hmx : mxH D1 0 n.Kids = (h : Int) := by rw [e]; omega
    refine ⟨D1 ++ [(h : Int) + 1], by simp [d1], ?_, ?_, fun c S => ?_⟩
    · have := (Fo.le hf).1
      rw [List.take_append_of_le_length (by omega), d2]
    · unfold dAt
      rw [show ((i : Int)).toNat = D1.length by omega]
      simp
    · have := (Fo.le hf).1
      rw [show c + (i + 1 - lo) = (c+1) + (i - lo) by omega, d5]
      simp only [mach]
      rw [stepM_of hn hm d4 (by rw [hmx]; omega), hmx]
theorem Fo.run {N : List tree_Node} {P : Nat → Bool × Bool × Bool} {k lo hi h : Nat} {l : List Int} : Fo N P k lo hi l h → h ≤ 64 → ∀ D : List Int, D.length = lo → ∃ D' : List Int, D'.length = hi ∧ D'.take lo = D ∧ (∀ a : Int, 0 ≤ a → mxH D' a l = max a (h : Int)) ∧ stK N P k l = true ∧ ∀ c S, mach N (c + (hi - lo)) lo S D = mach N c hi (S ++ l) D'
  | .nil, hh, D, hD => ⟨D, hD, by rw [← hD]; simp, fun a ha => by simp only [mxH]; omega, rfl, fun c S => by simp⟩
  | .cons (j := j) (h1 := h1) (h2 := h2) (r := r) hj hs ht hr, hh, D, hD => by
    obtain ⟨D1, a1, a2, a3, a4⟩ := Tr.run ht (by omega) D hD
    obtain ⟨D2, b1, b2, b3, b4, b5⟩ := Fo.run hr (by omega) D1 a1
    have l1 := ht.le
    have l2 := hr.le
    have hdj : dAt D2 (j : Int) = (h1 : Int) := by
      rw [← a3]
      unfold dAt
      rw [← b2, List.getElem?_take, if_pos (by omega)]
    refine ⟨D2, b1, ?_, fun a ha => ?_, ?_, fun c S => ?_⟩
    · have := take_take_eq (A := D) (B := D1) (C := D2) (by rw [hD]; exact a2) (by rw [a1]; exact b2) (by omega)
      rw [hD] at this; exact this
    · simp only [mxH, hdj]
      rw [b3 _ (by omega)]
      omega
    · simp only [stK, kAt_of hj, hs, b4]; rfl
    · rw [show c + (hi - lo) = (c + (hi - (j+1))) + (j + 1 - lo) by omega, a4, b5]
      simp
end
/-- A row of trees, with their heights. -/
inductive Rw (N : List tree_Node) (D : List Int) : Nat → Nat → List Int → Prop
  | nil {lo : Nat} : Rw N D lo lo []
  | cons {lo hi j h : Nat} {r : List Int} {n : tree_Node} (hn : N[j]? = some n) (hD : D[j]? = some (h : Int)) (hh : h ≤ 64) (ht : Tr N lo j h) (hr : Rw N D (j+1) hi r) : Rw N D lo hi ((j : Int) :: r)
theorem Rw.le {N : List tree_Node} {D : List Int} {lo hi : Nat} {l : List Int} (h : Rw N D lo hi l) : lo ≤ hi ∧ ∀ x, x ∈ l → 0 ≤ x ∧ x < (hi : Int) ∧ x < (D.length : Int) ∧ x < (N.length : Int) := by
  induction h with
  | nil => exact ⟨Nat.le_refl _, fun x hx => by simp at hx⟩
  | cons hn hD hh ht hr ih =>
    have a := ht.le
    have b := (List.getElem?_eq_some_iff.1 hD).1
    have c := (List.getElem?_eq_some_iff.1 hn).1
    refine ⟨by omega, fun x hx => ?_⟩
    rcases List.mem_cons.1 hx with rfl | hx
    · exact ⟨by omega, by omega, by omega, by omega⟩
    · exact ih.2 x hx
theorem Rw.mono {N : List tree_Node} {D : List Int} {x : List Int} {lo hi : Nat} {l : List Int} (h : Rw N D lo hi l) : Rw N (D ++ x) lo hi l := by
  induction h with
  | nil => exact .nil
  | cons hn hD hh ht hr ih =>
    refine .cons hn ?_ hh ht ih
    rw [List.getElem?_append_left (List.getElem?_eq_some_iff.1 hD).1]; exact hD
theorem Rw.split {N : List tree_Node} {D : List Int} : ∀ {l1 l2 : List Int} {lo hi : Nat}, Rw N D lo hi (l1 ++ l2) → ∃ mid, Rw N D lo mid l1 ∧ Rw N D mid hi l2
  | [], l2, lo, hi, h => ⟨lo, .nil, h⟩
  | x :: l1, l2, lo, hi, h => by
    cases h with
    | cons hn hD hh ht hr =>
      obtain ⟨mid, h1, h2⟩ := Rw.split hr
      exact ⟨mid, .cons hn hD hh ht h1, h2⟩
theorem Rw.fo {N : List tree_Node} {D : List Int} {P : Nat → Bool × Bool × Bool} {lo hi : Nat} {l : List Int} (hl : Rw N D lo hi l) : ∀ {k : Nat}, stK N P k l = true → ∃ h : Nat, Fo N P k lo hi l h ∧ h ≤ 64 ∧ ∀ a : Int, 0 ≤ a → mxH D a l = max a (h : Int) := by
  induction hl with
  | nil => intro k _; exact ⟨0, .nil, by omega, fun a ha => by simp only [mxH]; omega⟩
  | cons hn hD hh ht hr ih =>
    intro k hs
    simp only [stK, Bool.and_eq_true, kAt_of hn] at hs
    obtain ⟨h2, f, hh2, hm⟩ := ih hs.2
    refine ⟨_, .cons hn hs.1 ht f, by omega, fun a ha => ?_⟩
    simp only [mxH, dAt_of hD]
    rw [hm _ (by omega)]
    omega
/-- The machine's answer. -/
def machB (m : tree_Method) : Bool := match mach m.Nodes m.Nodes.length 0 [] [] with
  | some S => decide (S = m.Body) && stK m.Nodes (bodyP m.Body.length) 0 m.Body
  | none => false
end Go.Cq

set_option maxRecDepth 100000
set_option linter.unusedVariables false
set_option linter.unusedSimpArgs false
namespace Go.Cq
open Go Go.Av
end Go.Cq

