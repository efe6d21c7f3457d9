import Derived.Test.YteeokchpojaaoaaGreatDoorEx4
set_option linter.unusedSectionVars false
set_option linter.unusedVariables false
set_option linter.unusedSimpArgs false
set_option maxRecDepth 100000
set_option linter.unusedVariables false
set_option linter.unusedSimpArgs false
namespace Go.Cq
open Go Go.Av

/-! ### Loops over a list, by the list itself -/
section
variable {α σ ρ : Type}
def loopI (g : Nat → α → σ → (σ → Option ρ) → Option ρ) (K : σ → Option ρ) : Nat → List α → σ → Option ρ
  | _, [], s => K s
  | j, x :: r, s => g j x s (loopI g K (j+1) r)
theorem getDrop {l : List α} {j : Nat} {x : α} {r : List α} (h : l.drop j = x :: r) : l[j]? = some x ∧ l.drop (j + 1) = r ∧ j < l.length := by
  have h1 : l[j]? = some x := by
    have := congrArg (·[0]?) h
    simpa using this
  refine ⟨h1, ?_, (List.getElem?_eq_some_iff.1 h1).1⟩
  have := congrArg (List.drop 1) h
  simpa [List.drop_drop, Nat.add_comm] using this
theorem loopI_eq {F : Nat → σ → Int → Option ρ} {g : Nat → α → σ → (σ → Option ρ) → Option ρ} {K : σ → Option ρ} {l : List α}
    (h1 : ∀ q s (j : Nat) x, l[j]? = some x → j < l.length → F (q+1) s (j : Int) = g j x s (fun s' => F q s' ((j+1 : Nat) : Int))) (h0 : ∀ q s, F (q+1) s (l.length : Int) = K s) :
    ∀ (r : List α) (j q : Nat) (s : σ), l.drop j = r → j ≤ l.length → r.length < q → F q s (j : Int) = loopI g K j r s
  | [], j, q+1, s, h, hj, _ => by
    have : j = l.length := by have : l.length ≤ j := by simpa using h
                              omega
    subst this; rw [h0]; rfl
  | x :: r, j, q+1, s, h, hj, hq => by
    obtain ⟨e1, e2, e3⟩ := getDrop h
    rw [h1 q s j x e1 e3]
    show _ = g j x s (loopI g K (j+1) r)
    congr 1
    funext s'
    exact loopI_eq h1 h0 r (j+1) q s' e2 e3 (by simp at hq; omega)
  | _, _, 0, _, _, _, hq => by omega
theorem loopI_run {F : Nat → σ → Int → Option ρ} {g : Nat → α → σ → (σ → Option ρ) → Option ρ} {K : σ → Option ρ} {l : List α}
    (h1 : ∀ q s (j : Nat) x, l[j]? = some x → j < l.length → F (q+1) s (j : Int) = g j x s (fun s' => F q s' ((j+1 : Nat) : Int))) (h0 : ∀ q s, F (q+1) s (l.length : Int) = K s) (s : σ) (hl : l.length < fuel) :
    F fuel s 0 = loopI g K 0 l s := loopI_eq h1 h0 l 0 fuel s rfl (Nat.zero_le _) hl
end
theorem letK_e {Y Z ρ : Type} {K : Y → Z} {body : (Y → Z) → ρ} : letK K body = body K := .trans rfl rfl
theorem ifF {α : Type} {a b : α} {d : Decidable (false = true)} : (@ite α (false = true) d a b) = b := if_neg (by simp)
theorem ifT {α : Type} {a b : α} {d : Decidable (true = true)} : (@ite α (true = true) d a b) = a := if_pos rfl
theorem ifFa {α : Type} {a b : α} {d : Decidable False} : (@ite α False d a b) = b := if_neg id
theorem ifTr {α : Type} {a b : α} {d : Decidable True} : (@ite α True d a b) = a := if_pos trivial
theorem bindS {α β : Type} {a : α} {f : α → Option β} : (some a).bind f = f a := .trans rfl rfl
theorem lAt_nat {α : Type} {l : List α} {j : Nat} {x : α} (h : l[j]? = some x) : lAt l (j : Int) = some x := by
  unfold lAt; rw [if_pos (by omega)]; simpa using h
theorem ckn {n : Nat} (h : n ≤ 9000000000000000000) : ck (n : Int) = some (n : Int) := by
  unfold ck; rw [if_pos (by omega)]
theorem cks {n : Nat} (h : n ≤ 8000000000000000000) : ck ((n : Int) + 1) = some ((n + 1 : Nat) : Int) := by
  unfold ck; rw [if_pos (by omega)]; rfl
theorem ck_of {n : Int} (h1 : -9223372036854775808 ≤ n) (h2 : n ≤ 9223372036854775807) : ck n = some n := by
  unfold ck; rw [if_pos ⟨h1, h2⟩]
theorem app_of {α : Type} {b : Nat} {l m : List α} (h1 : l.length + m.length ≤ 140737488355328) (h2 : (l.length + m.length) * b ≤ 140737488355328) : app b l m = some (l ++ m) := by
  unfold app maxB; rw [if_pos ⟨h1, h2⟩]
theorem cat_of {s t : List UInt8} (h : s.length + t.length ≤ 140737488355328) : cat s t = some (s ++ t) := by
  unfold cat maxB; rw [if_pos h]
theorem lt_len {α : Type} {l : List α} {j : Nat} (h : j < l.length) : decide ((j : Int) < (l.length : Int)) = true := by simpa using h
theorem ge_len {α : Type} {l : List α} : decide ((l.length : Int) < (l.length : Int)) = false := by simp
end Go.Cq

