import Derived.Test.YtmedpledgchipaaGreatDoorRo2
set_option linter.unusedSectionVars false
set_option linter.unusedVariables false
set_option linter.unusedSimpArgs false
set_option linter.unnecessarySimpa false
namespace Go.Av
open Go
def TyE (P : Program) (t : TypeId) (cs : List AV) : Prop := ∃ d, TyD P d t cs
section
variable {P : Program} {t e : TypeId} {cs : List AV}
theorem tye_int {k : IntKind} (hu : P.underlying t = some (.int k)) (h : TyE P t cs) : ∃ n, cs = [.int k n] ∧ k.min ≤ n ∧ n ≤ k.max := by
 obtain ⟨d, h⟩ := h
 cases d with
 | zero => exact h.elim
 | succ d => unfold TyD at h; rw [hu] at h; exact h
theorem tye_str (hu : P.underlying t = some .string) (h : TyE P t cs) : ∃ s, cs = [.str s] ∧ s.length ≤ reachBytes := by
 obtain ⟨d, h⟩ := h
 cases d with
 | zero => exact h.elim
 | succ d => unfold TyD at h; rw [hu] at h; exact h
theorem tye_slice (hu : P.underlying t = some (.slice e)) (h : TyE P t cs) : ∃ l, cs = [.sl none l] ∧ l.length * P.bytesOf e ≤ reachBytes ∧ ∀ x, x ∈ l → TyE P e x.cells ∧ (bif isStr P e then ∃ c, x = .agg c else x.cells = [x]) := by
 obtain ⟨d, h⟩ := h
 cases d with
 | zero => exact h.elim
 | succ d =>
  unfold TyD at h; rw [hu] at h
  obtain ⟨l, h1, h2, h3⟩ := h
  exact ⟨l, h1, h2, fun x hx => ⟨⟨d, (h3 x hx).1⟩, (h3 x hx).2⟩⟩
theorem tye_struct {fs : Array Field} {n : Nat} (hu : P.underlying t = some (.struct fs)) (hn : P.cellsOf t = n) (h : TyE P t cs) : cs.length = n ∧
  ∀ (k : Nat) (f : Field) (o s : Nat) (ft : TypeId), fs.toList[k]? = some f → f.offset = o → f.type = ft → P.cellsOf ft = s → TyE P ft ((cs.drop o).take s) := by
 obtain ⟨d, h⟩ := h
 cases d with
 | zero => exact h.elim
 | succ d =>
  unfold TyD at h; rw [hu] at h
  refine ⟨h.1.trans hn, fun k f o s ft h1 h2 h3 h4 => ?_⟩
  subst h2 h3 h4
  exact ⟨d, h.2 f (List.mem_of_getElem? h1)⟩
theorem tye_arr {n : Nat} {k : IntKind} (hu : P.underlying t = some (.array n e)) (he : P.underlying e = some (.int k)) (h : TyE P t cs) : cs.length = n ∧ ∀ c, c ∈ cs → ∃ z, c = .int k z ∧ k.min ≤ z ∧ z ≤ k.max := by
 obtain ⟨d, h⟩ := h
 cases d with
 | zero => exact h.elim
 | succ d =>
  unfold TyD at h; rw [hu] at h
  refine ⟨h.1, fun c hc => ?_⟩
  obtain ⟨k', z, q1, q2, q3, q4⟩ := h.2 c hc
  rw [he] at q1; cases q1
  exact ⟨z, q2, q3, q4⟩
theorem list_enc {α : Type} {ok : α → Prop} {enc : α → AV} : ∀ {l : List AV}, (∀ x, x ∈ l → ∃ a, x = enc a ∧ ok a) → ∃ l', l = List.map enc l' ∧ ∀ a, a ∈ l' → ok a
 | [], _ => ⟨[], rfl, by simp⟩
 | x :: l, h => by
  obtain ⟨a, rfl, h1⟩ := h x (by simp)
  obtain ⟨l', rfl, h2⟩ := list_enc (l := l) fun y hy => h y (by simp [hy])
  refine ⟨a :: l', rfl, fun b hb => ?_⟩
  rcases List.mem_cons.1 hb with rfl | hb
  ·exact h1
  ·exact h2 b hb
theorem one_eq' {x y : AV} (h : x.cells = [x]) (h2 : x.cells = [y]) : x = y := by
 rw [h] at h2; simpa using h2
end
end Go.Av

