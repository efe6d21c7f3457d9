import Derived.Test.YtpagjhigaicfpaaDoorRo3
import Derived.Lay
import Derived.JoinedOf
import Derived.Stop.Joined
import Derived.Test.YtpagjhigaicfpaaDoorRows
import Derived.Test.YtpagjhigaicfpaaDoorCards
import Derived.Test.YtpagjhigaicfpaaDoorTie
import Derived.SevenTiedAt
set_option linter.unusedSectionVars false
set_option linter.unusedVariables false
set_option linter.unusedSimpArgs false
set_option linter.unusedVariables false
set_option maxRecDepth 100000
namespace Go.Proofs.YtpagjhigaicfpaaDoor
open Go Go.Av Go.RowKit Go.WideShapes Go.ChangeShapes
def RTv : Value := .iface 87 (.agg #[.pointer (some ⟨4, 25, none⟩)])
@[reducible] def theLay (m : Int) : Lay := ⟨fun b o v => (b = 0 ∧ o = 0 ∧ v = RTv) ∨ (b = 1 ∧ o = 0 ∧ v = .int .i64 m)⟩
theorem own : ownKnob Tryd.prog.godebug = none := by kernel_rfl
theorem et : Tryd.prog.globalNamed "errors.errorType" = some 0 := by kernel_rfl
theorem rt : (Tryd.prog.cutTypes.find? (·.1 == "internal/reflectlite.rtype")).map (·.2) = some 87 := by kernel_rfl
theorem oneRow : ((List.range 144).filter fun t => Tryd.prog.rowNamed t [101, 114, 114, 111, 114]) = [25] := by kernel_rfl
theorem tsize : Tryd.prog.types.size = 144 := by kernel_rfl
def laidL : List (String × DataW Unit) := [("unicode/utf8.acceptRanges", Rows.laid_unicode_utf8_acceptRanges), ("errors.errorType", Rows.laid_errors_errorType), ("unicode/utf8.first", Rows.laid_unicode_utf8_first)]
def laidD : List (String × DataW Unit) := [("unicode/utf8.acceptRanges", Rows.laid_unicode_utf8_acceptRanges), ("unicode/utf8.first", Rows.laid_unicode_utf8_first)]
theorem handle_of_laid {W : World} (h : laidMetH Tryd.prog laidL W) : W.cell? ⟨0, 0, none⟩ = some RTv := by
  have h' : laidMet Tryd.prog laidD W ∧ handlesMet Tryd.prog [("errors.errorType", Rows.laid_errors_errorType)] W := h
  obtain ⟨name, u, ty, e1, e2, e3, e4, e5⟩ := h'.2 _ (List.mem_singleton.2 rfl)
  have en : name = [101, 114, 114, 111, 114] := (Option.some.inj e1).symm
  subst en
  obtain rfl := Option.some.inj (rt.symm.trans e2)
  have hm : ty ∈ (List.range 144).filter fun t => Tryd.prog.rowNamed t [101, 114, 114, 111, 114] := List.mem_filter.2 ⟨List.mem_range.2 (by rw [← tsize]; exact e3), e4⟩
  rw [oneRow] at hm
  obtain rfl := List.mem_singleton.1 hm
  have hh : typeHandle Tryd.prog 25 = .pointer (some ⟨4, 25, none⟩) := by kernel_rfl
  rw [hh] at e5
  unfold RTv
  simpa using World.var?_cell et e5 0
noncomputable def world0 (os : Os) : World :=
  let w0 := World.holding Tryd.prog os ⟨#[], #[], []⟩
  { w0 with heap := w0.heap.modify 0 fun
      | .cells _ t frozen => .cells #[RTv] t frozen
      | o => o }
noncomputable def laidWorld (os : Os) : World := (world0 os).layVars Tryd.prog laidD
theorem laidWorld_met (os : Os) (args : Array Value) : laidMetH Tryd.prog laidL ((laidWorld os).forCall (fun _ _ => 0) ⟨#[], args, []⟩).memory := by
  refine laidMetH_of_parts ?_ (by kernel_rfl)
  have hd : laidMet Tryd.prog laidD (laidWorld os) := laidMet_layVars (w0 := world0 os) ["unicode/utf8.acceptRanges", "unicode/utf8.first"] [] (by kernel_rfl) (by kernel_rfl) (by kernel_rfl) LaidIn.none
  exact hd.of_heap (by simp [World.memory, World.forCall, Input.heap])
theorem law_lifted (os : Os) (started : os.Started) (H : Type) (enc : TypeId × Value → H) (hmain : ∀ (m : Int) (avs : List AV), TyAll Tryd.prog 8 Tryd.f6.params.toList avs → @ACall (theLay m) Tryd.prog 6 avs [] (.bool true) []) :
    ReturnsInHanded {} Tryd.checked os 6 .any (fun w args => (Rows.lexApartSpec.pre enc Tryd.prog Tryd.f6 [] false w args ∧ laidMetH Tryd.prog laidL w) ∧ sizedMet enc Tryd.prog Tryd.f6 (OpenSpec.ofChange Rows.lexApartSpec) false w args)
      (Rows.lexApartSpec.post enc Tryd.prog Tryd.f6 false true false false) := by
  refine wrapXS (C := Tryd.checked) (X := fun w _ => laidMetH Tryd.prog laidL w) (fun _ _ _ hh h => h.of_heap hh) own started (by kernel_rfl) Tryd.func6
    (ChangeSpec.witness_at (enc := enc) (C := Tryd.checked) (os := os) (X := fun w _ => laidMetH Tryd.prog laidL w) false (laidWorld os) #[.string ⟨#[]⟩, .int .i64 0, .int .u8 0] 8 (World.layVars_os _ _ _) (by kernel_rfl) (by kernel_rfl) (by kernel_rfl) (by kernel_rfl) (by kernel_rfl) (laidWorld_met os _)) ?_
  intro W base args ds gs before hval0 hW hwt hL hsh
  obtain ⟨m, hm⟩ := cell_of_shapedOpen_int (P := Tryd.prog) (g := 1) (t := 3) (zero := #[.int .i64 0]) hsh (of_decide_eq_true (by kernel_rfl)) (by kernel_rfl) rfl (by kernel_rfl) (by kernel_rfl) Tryd.underlying3
  letI := theLay m
  refine law_contract (d := 8) (bt := 4) Tryd.func6 (enters_of (n := 1) Tryd.func6 (by kernel_rfl)) (by kernel_rfl) Tryd.underlying4 (by kernel_rfl) (by kernel_rfl) (fun ds hl => ?_) rfl (hmain m) (fun b o v h => ?_) hval0 hW hwt
  · match ds, hl with
    | [d0, d1, d2], _ => simp [Rows.lexApartSpec]
  · rcases h with ⟨rfl, rfl, rfl⟩ | ⟨rfl, rfl, rfl⟩
    · exact handle_of_laid hL
    · exact hm
theorem said (hmain : ∀ (m : Int) (avs : List AV), TyAll Tryd.prog 8 Tryd.f6.params.toList avs → @ACall (theLay m) Tryd.prog 6 avs [] (.bool true) []) : Rows.LexApartSaid :=
  OpenClaim.holds_of_wide 6 Tryd.f6 rfl rfl rfl rfl rfl rfl rfl ⟨rfl, rfl, rfl, rfl, rfl⟩ rfl rfl rfl rfl rfl (by kernel_rfl) Tryd.func6 (by kernel_rfl)
    (of_decide_eq_true (by kernel_rfl)) (by unfold Func.isWrapper; rw [if_neg (of_decide_eq_false (by kernel_rfl))]; exact ⟨rfl, rfl⟩)
    (fun os started H enc _ => law_lifted os started H enc hmain)
theorem card (hmain : ∀ (m : Int) (avs : List AV), TyAll Tryd.prog 8 Tryd.f6.params.toList avs → @ACall (theLay m) Tryd.prog 6 avs [] (.bool true) []) : Rows.LexApartCardSaid :=
  Claim7.holds_tied_plain_at .later [] [.data, .handle, .pinned] true (true, "61d15545de3c5095fbfc5d488cb58120629c6be1b64ce887bc155ad96a86f6cd") true
    (said hmain) (fun _ h => by cases h) (by kernel_rfl) (fun _ h => by cases h) lexApart_row_tie rfl ⟨rfl, rfl⟩ (by kernel_rfl) rfl
    (fun f fn hf hfn => by
      obtain rfl : f = 6 := Option.some.inj ((show Tryd.prog.funcNamed "colloquy/colloquylaw13.LexApart" = some 6 by kernel_rfl).symm.trans hf) |>.symm
      obtain rfl : fn = Tryd.f6 := (Option.some.inj (Tryd.func6.symm.trans hfn)).symm
      refine ⟨by kernel_rfl, fun j t ht => ?_⟩
      have hall : (Tryd.f6.params.toList.all fun t => !Tryd.prog.wantsStandIn t) = true := by kernel_rfl
      have hm : t ∈ Tryd.f6.params.toList := by
        have := Array.mem_of_getElem? ht
        simpa using this
      have hw : Tryd.prog.wantsStandIn t = false := by simpa using List.all_eq_true.1 hall t hm
      exact hw)
    (by kernel_rfl)
end Go.Proofs.YtpagjhigaicfpaaDoor

