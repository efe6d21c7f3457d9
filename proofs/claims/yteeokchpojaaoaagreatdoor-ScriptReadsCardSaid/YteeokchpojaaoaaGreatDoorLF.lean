import Derived.Test.YteeokchpojaaoaaGreatDoorSSp
import Derived.Test.YteeokchpojaaoaaGreatDoorLU
import Derived.KernelRfl
set_option linter.unusedSectionVars false
set_option linter.unusedVariables false
set_option linter.unusedSimpArgs false
set_option maxRecDepth 100000
set_option maxHeartbeats 4000000
set_option linter.unusedVariables false
set_option linter.unusedSimpArgs false
namespace Go.Cq
open Go Go.Av Go.Proofs
def nmL : List Str := [[108, 101, 118, 101, 108, 115], [99, 104, 97, 110], [115, 116, 97, 114, 116], [114, 111, 111, 116], [115, 101, 110, 100], [97, 114, 114, 97, 121], [111, 98, 106, 101, 99, 116], [116, 101, 120, 116], [115, 101, 109], [99, 108, 97, 115, 115], [105, 110], [116, 105, 99, 107, 115], [102, 117, 101, 108], [112, 108, 97, 121], [98, 101, 103, 105, 110], [115, 116, 101, 112, 115], [97, 103, 97, 105, 110], [115, 101, 101, 110], [109, 97, 115, 107], [112, 114, 105, 110, 116]]
def fmL : List Str := [[42], [105], [105, 105], [118], [119], [105, 86], [119, 105, 86], [105, 115], [105, 105], [115], [105, 42], [105, 42], [105], [], [], [105], [], [105], [105], [115]]
theorem names_eq : ref30_Names = some (nmL, fmL) := rfl
/-- The form of a name. -/
def formF (name : Str) : Str × Bool := match (nmL.zip fmL).find? (fun p => p.1 == name) with
  | some p => (p.2, true)
  | none => ([], false)
theorem ref_form_l (name : Str) (K : Unit → Option (Str × Bool)) (hK : K () = some ([], false)) : ∀ (r : List (Str × Str)) (j q : Nat), (nmL.zip fmL).drop j = r → j ≤ 20 → r.length < q →
    ref30_Form_l1 name (nmL, fmL) K q (j : Int) = some (match r.find? (fun p => p.1 == name) with | some p => (p.2, true) | none => ([], false))
  | [], j, q+1, h, hj, _ => by
    have : j = 20 := by
      have h2 : (nmL.zip fmL).length ≤ j := by simpa using h
      have h3 : (nmL.zip fmL).length = 20 := rfl
      omega
    subst this
    rw [ref30_Form_l1, show (decide (((20 : Nat) : Int) < (nmL.length : Int))) = false from rfl]
    simp only [ifF, hK, List.find?_nil]
  | x :: r, j, q+1, h, hj, hq => by
    obtain ⟨e1, e2, e3⟩ := getDrop h
    have hz : nmL[j]? = some x.1 ∧ fmL[j]? = some x.2 := by
      rw [List.getElem?_zip_eq_some] at e1
      exact e1
    have h3 : (nmL.zip fmL).length = 20 := rfl
    rw [ref30_Form_l1, show (decide ((j : Int) < (nmL.length : Int))) = true from by simp; show j < 20; omega, ifT, lAt_nat hz.1, bindS, lAt_nat hz.2, bindS, cks (by omega), bindS, List.find?_cons]
    cases hb : x.1 == name with
    | true => rw [ifT]
    | false =>
      rw [ifF]
      exact ref_form_l name K hK r (j+1) q e2 (by omega) (by simp at hq; omega)
  | _, _, 0, _, _, hq => by omega
theorem ref_form (name : Str) : ref30_Form name = some (formF name) := by
  unfold ref30_Form
  rw [names_eq, bindS, letK_e]
  exact ref_form_l name _ rfl (nmL.zip fmL) 0 fuel rfl (by omega) (by decide)

theorem form_other (name : Str) (h : ∀ n, n ∈ nmL → (name == n) = false) : script_Form name = some ([], false) := by
  have h0 := h [108, 101, 118, 101, 108, 115] (by decide)
  have h1 := h [99, 104, 97, 110] (by decide)
  have h2 := h [115, 116, 97, 114, 116] (by decide)
  have h3 := h [114, 111, 111, 116] (by decide)
  have h4 := h [115, 101, 110, 100] (by decide)
  have h5 := h [97, 114, 114, 97, 121] (by decide)
  have h6 := h [111, 98, 106, 101, 99, 116] (by decide)
  have h7 := h [116, 101, 120, 116] (by decide)
  have h8 := h [115, 101, 109] (by decide)
  have h9 := h [99, 108, 97, 115, 115] (by decide)
  have h10 := h [105, 110] (by decide)
  have h11 := h [116, 105, 99, 107, 115] (by decide)
  have h12 := h [102, 117, 101, 108] (by decide)
  have h13 := h [112, 108, 97, 121] (by decide)
  have h14 := h [98, 101, 103, 105, 110] (by decide)
  have h15 := h [115, 116, 101, 112, 115] (by decide)
  have h16 := h [97, 103, 97, 105, 110] (by decide)
  have h17 := h [115, 101, 101, 110] (by decide)
  have h18 := h [109, 97, 115, 107] (by decide)
  have h19 := h [112, 114, 105, 110, 116] (by decide)
  unfold script_Form
  simp only [h0, h1, h2, h3, h4, h5, h6, h7, h8, h9, h10, h11, h12, h13, h14, h15, h16, h17, h18, h19, ifF, bindS]
theorem script_form (name : Str) : script_Form name = some (formF name) := by
  by_cases h : name ∈ nmL
  · simp only [nmL, List.mem_cons, List.not_mem_nil, or_false] at h
    rcases h with rfl | rfl | rfl | rfl | rfl | rfl | rfl | rfl | rfl | rfl | rfl | rfl | rfl | rfl | rfl | rfl | rfl | rfl | rfl | rfl <;> rfl
  · have h1 : ∀ n, n ∈ nmL → (name == n) = false := fun n hn => by
      have hne : name ≠ n := fun e => h (by rw [e]; exact hn)
      simpa using hne
    rw [form_other name h1]
    have : (nmL.zip fmL).find? (fun p => p.1 == name) = none := by
      rw [List.find?_eq_none]; intro p hp e
      have := (List.of_mem_zip hp).1
      exact h ((eq_of_beq e) ▸ this)
    unfold formF; rw [this]
end Go.Cq

