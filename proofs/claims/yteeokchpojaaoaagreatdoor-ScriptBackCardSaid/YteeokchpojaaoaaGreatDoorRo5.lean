import Derived.Test.YteeokchpojaaoaaGreatDoorRo3
import Derived.Test.YteeokchpojaaoaaGreatDoorRo4
import Derived.LaidLaws
import Derived.Lib.LaidTab
set_option linter.unusedSectionVars false
set_option linter.unusedVariables false
set_option linter.unusedSimpArgs false
set_option linter.unusedVariables false
namespace Go.Av
open Go Go.RowKit Go.WideShapes Go.ChangeShapes
/-! ### What a listed variable's datum tells of its cells -/
theorem laidVars_get {P : Program} {W : World} : ∀ {l : List (String × DataW Unit)} {ps : List MemPlace}, DataW.LaidVars P W l ps → ∀ {n : String} {d : DataW Unit}, (n, d) ∈ l →
    ∃ g t cs fuel p, P.globalNamed n = some g ∧ (P.globals[g]?).map (·.type) = some t ∧ W.var? P n = some cs ∧ DataW.trod (fun _ => ()) P W 0 (fun _ => true) false fuel t cs.toList = some (d, p)
  | [], _, _, _, _, hm => by simp at hm
  | (n', d') :: r, ps, ⟨g, t, cs, fuel, p, q, h1, h2, h3, h4, h5, _⟩, n, d, hm => by
    rcases List.mem_cons.1 hm with e | hm
    · injection e with e1 e2; subst e1; subst e2; exact ⟨g, t, cs, fuel, p, h1, h2, h3, h4⟩
    · exact laidVars_get h5 hm
theorem laid_tab {P : Program} {W : World} {l : List (String × DataW Unit)} (h : laidMet P l W) {n : String} {k : IntKind} {zs : List Int} (hm : (n, Lib.tabData k zs) ∈ l) {g : Nat} {t e : TypeId} {m : Nat}
    (hg : P.globalNamed n = some g) (hty : (P.globals[g]?).map (·.type) = some t) (ht : P.underlying t = some (.array m e)) (he : P.underlying e = some (.int k)) (hce : P.cellsOf e = 1) (hct : P.cellsOf t = m) :
    (∀ (j : Nat) z, zs[j]? = some z → W.cell? ⟨g, j, none⟩ = some (.int k z)) ∧ SizeOk W g zs.length := by
  obtain ⟨ps, hv, _⟩ := h
  obtain ⟨g', t', cs, fuel, p, h1, h2, h3, h4⟩ := laidVars_get hv hm
  obtain rfl := Option.some.inj (hg.symm.trans h1)
  obtain rfl := Option.some.inj (hty.symm.trans h2)
  have hcs := Lib.cells_of_tab ht he hce hct h4
  refine ⟨fun j z hz => ?_, ?_⟩
  · rw [World.var?_cell hg h3 j, ← Array.getElem?_toList, hcs, List.getElem?_map, hz]; rfl
  · simp only [World.var?, hg, Option.bind_some] at h3
    split at h3
    · rename_i c e' f hh
      obtain rfl := Option.some.inj h3
      exact ⟨c, e', f, hh, by rw [← Array.length_toList, hcs, List.length_map]⟩
    · cases h3
theorem laid_iface {P : Program} {W : World} {l : List (String × DataW Unit)} (h : laidMet P l W) {n nm : String} {d : DataW Unit} (hm : (n, .iface nm d) ∈ l) {g : Nat} {t : TypeId} {ms : Array (String × TypeId)}
    (hg : P.globalNamed n = some g) (hty : (P.globals[g]?).map (·.type) = some t) (ht : P.underlying t = some (.interface ms)) : ∃ u v, W.cell? ⟨g, 0, none⟩ = some (.iface u v) := by
  obtain ⟨ps, hv, _⟩ := h
  obtain ⟨g', t', cs, fuel, p, h1, h2, h3, h4⟩ := laidVars_get hv hm
  obtain rfl := Option.some.inj (hg.symm.trans h1)
  obtain rfl := Option.some.inj (hty.symm.trans h2)
  obtain ⟨f', u, v, e1, _, _⟩ := iface_of_trod ht h4
  refine ⟨u, v, ?_⟩
  rw [World.var?_cell hg h3 0, ← Array.getElem?_toList, e1]; rfl
end Go.Av

