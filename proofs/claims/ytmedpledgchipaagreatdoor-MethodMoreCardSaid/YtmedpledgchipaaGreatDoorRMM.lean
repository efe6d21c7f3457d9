import Derived.Test.YtmedpledgchipaaGreatDoorRo5
import Derived.Test.YtmedpledgchipaaGreatDoorMHa
import Derived.Lay
import Derived.JoinedOf
import Derived.Stop.Joined
import Derived.Test.YtmedpledgchipaaGreatDoorRows
import Derived.Test.YtmedpledgchipaaGreatDoorCards
import Derived.Test.YtmedpledgchipaaGreatDoorTie
import Derived.SevenTiedAt
set_option linter.unusedSectionVars false
set_option linter.unusedVariables false
set_option linter.unusedSimpArgs false
set_option linter.unnecessarySimpa false
set_option maxRecDepth 100000
namespace Go.Proofs.YtmedpledgchipaaGreatDoor
open Go Go.Av Go.RowKit Go.WideShapes Go.ChangeShapes
def RTv : Value := .iface 179 (.agg #[.pointer (some ⟨4, 32, none⟩)])
@[reducible] def theLay (W : World) : Lay := ⟨fun b o v => W.cell? ⟨b, o, none⟩ = some v, fun b n => SizeOk W b n, fun _ _ => False⟩
theorem own : ownKnob Tryz.prog.godebug = none := by kernel_rfl
theorem et : Tryz.prog.globalNamed "errors.errorType" = some 0 := by kernel_rfl
theorem rt : (Tryz.prog.cutTypes.find? (·.1 == "internal/reflectlite.rtype")).map (·.2) = some 179 := by kernel_rfl
theorem oneRow : ((List.range 282).filter fun t => Tryz.prog.rowNamed t [101, 114, 114, 111, 114]) = [32] := by kernel_rfl
theorem tsize : Tryz.prog.types.size = 282 := by kernel_rfl
def laidL : List (String × DataW Unit) := [("unicode/utf8.acceptRanges", Rows.laid_unicode_utf8_acceptRanges), ("errors.errorType", Rows.laid_errors_errorType), ("unicode/utf8.first", Rows.laid_unicode_utf8_first)]
def laidD : List (String × DataW Unit) := [("unicode/utf8.acceptRanges", Rows.laid_unicode_utf8_acceptRanges), ("unicode/utf8.first", Rows.laid_unicode_utf8_first)]
theorem handle_of_laid {W : World} (h : laidMetH Tryz.prog laidL W) : W.cell? ⟨0, 0, none⟩ = some RTv := by
 have h' : laidMet Tryz.prog laidD W ∧ handlesMet Tryz.prog [("errors.errorType", Rows.laid_errors_errorType)] W := h
 obtain ⟨name, u, ty, e1, e2, e3, e4, e5⟩ := h'.2 _ (List.mem_singleton.2 rfl)
 have en : name = [101, 114, 114, 111, 114] := (Option.some.inj e1).symm
 subst en
 obtain rfl := Option.some.inj (rt.symm.trans e2)
 have hm : ty ∈ (List.range 282).filter fun t => Tryz.prog.rowNamed t [101, 114, 114, 111, 114] := List.mem_filter.2 ⟨List.mem_range.2 (by rw [← tsize]; exact e3), e4⟩
 rw [oneRow] at hm
 obtain rfl := List.mem_singleton.1 hm
 have hh : typeHandle Tryz.prog 32 = .pointer (some ⟨4, 32, none⟩) := by kernel_rfl
 rw [hh] at e5
 unfold RTv
 simpa using World.var?_cell et e5 0
theorem data_of_laid {W : World} (h : laidMetH Tryz.prog laidL W) : laidMet Tryz.prog laidD W := by
 have h' : laidMet Tryz.prog laidD W ∧ handlesMet Tryz.prog [("errors.errorType", Rows.laid_errors_errorType)] W := h
 exact h'.1
theorem seat_of {W : World} (hL : laidMetH Tryz.prog laidL W) (hsh : W.ShapedOpen Tryz.prog) : @Cq.SeatLay (theLay W) := by
 have hD := data_of_laid hL
 have f3 := cell_of_shapedOpen_int (P := Tryz.prog) (g := 3) (t := 3) (zero := #[.int .i64 0]) hsh (of_decide_eq_true (by kernel_rfl)) (by kernel_rfl) rfl (by kernel_rfl) (by kernel_rfl) Tryz.underlying3
 exact @Cq.SeatLay.mk (theLay W) (f3) (handle_of_laid hL)
noncomputable def world0 (os : Os) : World :=
 let w0 := World.holding Tryz.prog os ⟨#[], #[], []⟩
 { w0 with heap := w0.heap.modify 0 fun
   | .cells _ t frozen => .cells #[RTv] t frozen
   | o => o }
noncomputable def laidWorld (os : Os) : World := (world0 os).layVars Tryz.prog laidD
theorem laidWorld_met (os : Os) (args : Array Value) : laidMetH Tryz.prog laidL ((laidWorld os).forCall (fun _ _ => 0) ⟨#[], args, []⟩).memory := by
  refine laidMetH_of_parts ?_ (by kernel_rfl)
  have hd : laidMet Tryz.prog laidD (laidWorld os) := laidMet_layVars (w0 := world0 os) ["unicode/utf8.acceptRanges", "unicode/utf8.first"] [] (by kernel_rfl) (by kernel_rfl) (by kernel_rfl) LaidIn.none
  exact hd.of_heap (by simp [World.memory, World.forCall, Input.heap])
theorem law_lifted (os : Os) (started : os.Started) (H : Type) (enc : TypeId × Value → H) (hmain : ∀ (W : World), @Cq.SeatLay (theLay W) → ∀ (avs : List AV), TyAll Tryz.prog 8 Tryz.f5.params.toList avs → @ACall (theLay W) Tryz.prog 5 avs [] (.bool true) []) :
  ReturnsInHanded {} Tryz.checked os 5 .any (fun w args => (Rows.methodMoreSpec.pre enc Tryz.prog Tryz.f5 [] false w args ∧ laidMetH Tryz.prog laidL w) ∧ sizedMet enc Tryz.prog Tryz.f5 (OpenSpec.ofChange Rows.methodMoreSpec) false w args)
   (Rows.methodMoreSpec.post enc Tryz.prog Tryz.f5 false true false false) := by
 refine wrapXS (C := Tryz.checked) (X := fun w _ => laidMetH Tryz.prog laidL w) (fun _ _ _ hh h => h.of_heap hh) own started (by kernel_rfl) Tryz.func5
  (ChangeSpec.witness_at (enc := enc) (C := Tryz.checked) (os := os) (X := fun w _ => laidMetH Tryz.prog laidL w) false (laidWorld os) #[.agg #[.string ⟨#[]⟩, .slice none 0 0, .slice none 0 0], .agg #[.int .u8 0, .int .u8 0], .agg #[.int .u8 0, .int .u8 0]] 8 (World.layVars_os _ _ _) (by kernel_rfl) (by kernel_rfl) (by kernel_rfl) (by kernel_rfl) (by kernel_rfl) (laidWorld_met os _)) ?_
 intro W base args ds gs before hval0 hW hwt hL hsh
 letI := theLay W
 refine law_contract (d := 8) (bt := 4) Tryz.func5 (Av.enters_of (n := 1) Tryz.func5 (by kernel_rfl)) (by kernel_rfl) Tryz.underlying4 (by kernel_rfl) (by kernel_rfl) (fun ds hl => ?_) rfl (hmain W (seat_of hL hsh)) (fun b o v h => h) (fun b n h => h) (fun b o h => h) hval0 hW hwt
 match ds, hl with
 | [d0, d1, d2], _ => simp [Rows.methodMoreSpec]
theorem f_laid : laidOutB Tryz.checked.prog = true := by kernel_rfl
theorem f_inpl : (Rows.methodMoreRow.inPlace == Tryz.checked.prog.inPlace 5) = true := by kernel_rfl
theorem f_unf : (Rows.methodMoreRow.unfollowed == Tryz.checked.prog.unfollowed 5) = true := by kernel_rfl
theorem f_rec : (Rows.methodMoreRow.recurses == Tryz.checked.prog.recurses 5) = true := by kernel_rfl
theorem f_named : (Rows.methodMoreRow.named == Tryz.checked.prog.varsNamed 5) = true := by kernel_rfl
theorem f_lift : (Rows.methodMoreRow.lifted == Tryz.checked.prog.liftsFinal) = true := by kernel_rfl
theorem f_make : (Tryz.checked.prog.make == some Rows.methodMoreRow.make) = true := by kernel_rfl
theorem f_enter : Tryz.checked.prog.mayEnter = true := by kernel_rfl
theorem f_stops : Tryz.checked.prog.stopsHeard = true := by kernel_rfl
theorem f_maps : mapsRowed Tryz.checked.prog = true := by kernel_rfl
theorem f_keys : (Rows.methodMoreRow.plainKeys == Tryz.checked.prog.plainKeys) = true := by kernel_rfl
theorem f_all : joinedFacts Tryz.checked.prog 5 Tryz.f5 Rows.methodMoreSpec Rows.methodMoreRow = true := by
 unfold joinedFacts
 rw [f_laid, f_inpl, f_unf, f_rec, f_named, f_lift, f_make, f_enter, f_stops, f_maps, f_keys]
 kernel_rfl
theorem f_text : Rows.methodMoreRow.wfByText (OpenSpec.ofChange Rows.methodMoreSpec) = true := by kernel_rfl
theorem f_main : Tryz.pinned.checked.prog.mainIs = some (true, "ebef5597fa2f8c91f656c39860e74aaa744c8b09caeb368d815de3520bfe89c7".toList) := by kernel_rfl
theorem f_looks : true = Tryz.pinned.checked.prog.looks [] := by kernel_rfl
theorem f_goes : false = Rows.methodMoreRow.goesBy Tryz.pinned.checked.prog := by kernel_rfl
theorem f_fn : Tryz.prog.funcNamed "colloquy/colloquylaw09.MethodMore" = some 5 := by kernel_rfl
theorem said (hmain : ∀ (W : World), @Cq.SeatLay (theLay W) → ∀ (avs : List AV), TyAll Tryz.prog 8 Tryz.f5.params.toList avs → @ACall (theLay W) Tryz.prog 5 avs [] (.bool true) []) : Rows.MethodMoreSaid :=
 OpenClaim.holds_of_wide 5 Tryz.f5 rfl rfl rfl rfl rfl rfl rfl ⟨rfl, rfl, rfl, rfl, rfl⟩ rfl rfl rfl rfl rfl f_fn Tryz.func5 f_all
  (of_decide_eq_true (by kernel_rfl)) (by unfold Func.isWrapper; rw [if_neg (of_decide_eq_false (by kernel_rfl))]; exact ⟨rfl, rfl⟩)
  (fun os started H enc _ => law_lifted os started H enc hmain)
theorem card (hmain : ∀ (W : World), @Cq.SeatLay (theLay W) → ∀ (avs : List AV), TyAll Tryz.prog 8 Tryz.f5.params.toList avs → @ACall (theLay W) Tryz.prog 5 avs [] (.bool true) []) : Rows.MethodMoreCardSaid :=
 Claim7.holds_tied_plain_at .later [] [.data, .handle, .pinned] true (true, "ebef5597fa2f8c91f656c39860e74aaa744c8b09caeb368d815de3520bfe89c7") true
  (said hmain) (fun _ h => by cases h) f_text (fun _ h => by cases h) methodMore_row_tie rfl ⟨rfl, rfl⟩ f_main rfl
  (fun f fn hf hfn => by
   obtain rfl : f = 5 := Option.some.inj (f_fn.symm.trans hf) |>.symm
   obtain rfl : fn = Tryz.f5 := (Option.some.inj (Tryz.func5.symm.trans hfn)).symm
   refine ⟨f_looks, fun j t ht => ?_⟩
   have hall : (Tryz.f5.params.toList.all fun t => !Tryz.prog.wantsStandIn t) = true := by kernel_rfl
   have hm : t ∈ Tryz.f5.params.toList := by
    have := Array.mem_of_getElem? ht
    simpa using this
   have hw : Tryz.prog.wantsStandIn t = false := by simpa using List.all_eq_true.1 hall t hm
   exact hw)
  f_goes
end Go.Proofs.YtmedpledgchipaaGreatDoor

