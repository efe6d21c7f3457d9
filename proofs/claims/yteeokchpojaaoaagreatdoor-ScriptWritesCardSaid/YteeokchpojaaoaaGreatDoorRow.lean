import Derived.Test.YteeokchpojaaoaaGreatDoorRo5
import Derived.Test.YteeokchpojaaoaaGreatDoorSHa
import Derived.Lay
import Derived.JoinedOf
import Derived.Stop.Joined
import Derived.Test.YteeokchpojaaoaaGreatDoorRows
import Derived.Test.YteeokchpojaaoaaGreatDoorCards
import Derived.Test.YteeokchpojaaoaaGreatDoorTie
import Derived.SevenTiedAt
set_option linter.unusedSectionVars false
set_option linter.unusedVariables false
set_option linter.unusedSimpArgs false
set_option linter.unusedVariables false
set_option maxRecDepth 100000
namespace Go.Proofs.YteeokchpojaaoaaGreatDoor
open Go Go.Av Go.RowKit Go.WideShapes Go.ChangeShapes
def RTv : Value := .iface 111 (.agg #[.pointer (some ⟨9, 25, none⟩)])
/-- What a world's first variables hold. -/
@[reducible] def theLay (W : World) : Lay := ⟨fun b o v => W.cell? ⟨b, o, none⟩ = some v, fun b n => SizeOk W b n, fun _ _ => False⟩
theorem own : ownKnob Tryz.prog.godebug = none := by kernel_rfl
theorem et : Tryz.prog.globalNamed "errors.errorType" = some 0 := by kernel_rfl
theorem rt : (Tryz.prog.cutTypes.find? (·.1 == "internal/reflectlite.rtype")).map (·.2) = some 111 := by kernel_rfl
theorem oneRow : ((List.range 206).filter fun t => Tryz.prog.rowNamed t [101, 114, 114, 111, 114]) = [25] := by kernel_rfl
theorem tsize : Tryz.prog.types.size = 206 := by kernel_rfl
def laidL : List (String × DataW Unit) := [("math/bits.deBruijn32tab", Rows.laid_math_bits_deBruijn32tab), ("math/bits.deBruijn64tab", Rows.laid_math_bits_deBruijn64tab), ("internal/strconv.uint64pow10", Rows.laid_internal_strconv_uint64pow10), ("unicode/utf8.acceptRanges", Rows.laid_unicode_utf8_acceptRanges), ("errors.errorType", Rows.laid_errors_errorType), ("strconv.ErrRange", Rows.laid_strconv_ErrRange), ("strconv.ErrSyntax", Rows.laid_strconv_ErrSyntax), ("unicode/utf8.first", Rows.laid_unicode_utf8_first)]
def laidD : List (String × DataW Unit) := [("math/bits.deBruijn32tab", Rows.laid_math_bits_deBruijn32tab), ("math/bits.deBruijn64tab", Rows.laid_math_bits_deBruijn64tab), ("internal/strconv.uint64pow10", Rows.laid_internal_strconv_uint64pow10), ("unicode/utf8.acceptRanges", Rows.laid_unicode_utf8_acceptRanges), ("strconv.ErrRange", Rows.laid_strconv_ErrRange), ("strconv.ErrSyntax", Rows.laid_strconv_ErrSyntax), ("unicode/utf8.first", Rows.laid_unicode_utf8_first)]
theorem handle_of_laid {W : World} (h : laidMetH Tryz.prog laidL W) : W.cell? ⟨0, 0, none⟩ = some RTv := by
  have h' : laidMet Tryz.prog laidD W ∧ handlesMet Tryz.prog [("errors.errorType", Rows.laid_errors_errorType)] W := h
  obtain ⟨name, u, ty, e1, e2, e3, e4, e5⟩ := h'.2 _ (List.mem_singleton.2 rfl)
  have en : name = [101, 114, 114, 111, 114] := (Option.some.inj e1).symm
  subst en
  obtain rfl := Option.some.inj (rt.symm.trans e2)
  have hm : ty ∈ (List.range 206).filter fun t => Tryz.prog.rowNamed t [101, 114, 114, 111, 114] := List.mem_filter.2 ⟨List.mem_range.2 (by rw [← tsize]; exact e3), e4⟩
  rw [oneRow] at hm
  obtain rfl := List.mem_singleton.1 hm
  have hh : typeHandle Tryz.prog 25 = .pointer (some ⟨9, 25, none⟩) := by kernel_rfl
  rw [hh] at e5
  unfold RTv
  simpa using World.var?_cell et e5 0
theorem data_of_laid {W : World} (h : laidMetH Tryz.prog laidL W) : laidMet Tryz.prog laidD W := by
  have h' : laidMet Tryz.prog laidD W ∧ handlesMet Tryz.prog [("errors.errorType", Rows.laid_errors_errorType)] W := h
  exact h'.1
theorem seat_of {W : World} (hL : laidMetH Tryz.prog laidL W) (hsh : W.ShapedOpen Tryz.prog) : @Cq.SeatLay (theLay W) := by
  have hD := data_of_laid hL
  have f1 := cell_of_shapedOpen_int (P := Tryz.prog) (g := 1) (t := 3) (zero := #[.int .i64 0]) hsh (of_decide_eq_true (by kernel_rfl)) (by kernel_rfl) rfl (by kernel_rfl) (by kernel_rfl) Tryz.underlying3
  have f2 := laid_tab hD (n := "internal/strconv.uint64pow10") (k := .u64) (zs := Lib.pow10Tab) (g := 2) (t := 149) (e := 109) (m := 20) (by unfold laidD; rw [show Lib.tabData .u64 Lib.pow10Tab = Rows.laid_internal_strconv_uint64pow10 by kernel_rfl]; simp) (by kernel_rfl) (by kernel_rfl) (by kernel_rfl) (by kernel_rfl) (by kernel_rfl) (by kernel_rfl)
  have f7 := laid_iface hD (n := "strconv.ErrSyntax") (nm := "*errors.errorString") (d := _) (g := 7) (t := 25) (by unfold laidD; exact List.mem_of_getElem? (i := 5) rfl) (by kernel_rfl) (by kernel_rfl) Tryz.underlying25
  have f8 := laid_iface hD (n := "strconv.ErrRange") (nm := "*errors.errorString") (d := _) (g := 8) (t := 25) (by unfold laidD; exact List.mem_of_getElem? (i := 4) rfl) (by kernel_rfl) (by kernel_rfl) Tryz.underlying25
  exact @Cq.SeatLay.mk (theLay W) (f1) (handle_of_laid hL) (f2.2) (f2.1) (f7) (f8)
noncomputable def world0 (os : Os) : World :=
  let w0 := World.holding Tryz.prog os ⟨#[], #[], []⟩
  { w0 with heap := w0.heap.modify 0 fun
      | .cells _ t frozen => .cells #[RTv] t frozen
      | o => o }
noncomputable def laidWorld (os : Os) : World := (world0 os).layVars Tryz.prog laidD
theorem laidWorld_met (os : Os) (args : Array Value) : laidMetH Tryz.prog laidL ((laidWorld os).forCall (fun _ _ => 0) ⟨#[], args, []⟩).memory := by
  refine laidMetH_of_parts ?_ (by kernel_rfl)
  have hd : laidMet Tryz.prog laidD (laidWorld os) := laidMet_layVars (w0 := world0 os) ["math/bits.deBruijn32tab", "math/bits.deBruijn64tab", "internal/strconv.uint64pow10", "unicode/utf8.acceptRanges", "strconv.ErrRange", "strconv.ErrSyntax", "unicode/utf8.first"] [] (by kernel_rfl) (by kernel_rfl) (by kernel_rfl) LaidIn.none
  exact hd.of_heap (by simp [World.memory, World.forCall, Input.heap])
theorem law_lifted (os : Os) (started : os.Started) (H : Type) (enc : TypeId × Value → H) (hmain : ∀ (W : World), @Cq.SeatLay (theLay W) → ∀ (avs : List AV), TyAll Tryz.prog 8 Tryz.f4.params.toList avs → @ACall (theLay W) Tryz.prog 4 avs [] (.bool true) []) :
    ReturnsInHanded {} Tryz.checked os 4 .any (fun w args => (Rows.scriptWritesSpec.pre enc Tryz.prog Tryz.f4 [] false w args ∧ laidMetH Tryz.prog laidL w) ∧ sizedMet enc Tryz.prog Tryz.f4 (OpenSpec.ofChange Rows.scriptWritesSpec) false w args)
      (Rows.scriptWritesSpec.post enc Tryz.prog Tryz.f4 false true false false) := by
  refine wrapXS (C := Tryz.checked) (X := fun w _ => laidMetH Tryz.prog laidL w) (fun _ _ _ hh h => h.of_heap hh) own started (by kernel_rfl) Tryz.func4
    (ChangeSpec.witness_at (enc := enc) (C := Tryz.checked) (os := os) (X := fun w _ => laidMetH Tryz.prog laidL w) false (laidWorld os) #[.agg #[.string ⟨#[]⟩, .slice none 0 0, .slice none 0 0, .string ⟨#[]⟩, .string ⟨#[]⟩], .agg #[.int .u8 0, .int .i64 0, .int .i64 0]] 8 (World.layVars_os _ _ _) (by kernel_rfl) (by kernel_rfl) (by kernel_rfl) (by kernel_rfl) (by kernel_rfl) (laidWorld_met os _)) ?_
  intro W base args ds gs before hval0 hW hwt hL hsh
  letI := theLay W
  refine law_contract (d := 8) (bt := 4) Tryz.func4 (Av.enters_of (n := 1) Tryz.func4 (by kernel_rfl)) (by kernel_rfl) Tryz.underlying4 (by kernel_rfl) (by kernel_rfl) (fun ds hl => ?_) rfl (hmain W (seat_of hL hsh)) (fun b o v h => h) (fun b n h => h) (fun b o h => h) hval0 hW hwt
  match ds, hl with
  | [d0, d1], _ => simp [Rows.scriptWritesSpec]
theorem said (hmain : ∀ (W : World), @Cq.SeatLay (theLay W) → ∀ (avs : List AV), TyAll Tryz.prog 8 Tryz.f4.params.toList avs → @ACall (theLay W) Tryz.prog 4 avs [] (.bool true) []) : Rows.ScriptWritesSaid :=
  OpenClaim.holds_of_wide 4 Tryz.f4 rfl rfl rfl rfl rfl rfl rfl ⟨rfl, rfl, rfl, rfl, rfl⟩ rfl rfl rfl rfl rfl (by kernel_rfl) Tryz.func4 (by kernel_rfl)
    (of_decide_eq_true (by kernel_rfl)) (by unfold Func.isWrapper; rw [if_neg (of_decide_eq_false (by kernel_rfl))]; exact ⟨rfl, rfl⟩)
    (fun os started H enc _ => law_lifted os started H enc hmain)
theorem card (hmain : ∀ (W : World), @Cq.SeatLay (theLay W) → ∀ (avs : List AV), TyAll Tryz.prog 8 Tryz.f4.params.toList avs → @ACall (theLay W) Tryz.prog 4 avs [] (.bool true) []) : Rows.ScriptWritesCardSaid :=
  Claim7.holds_tied_plain_at .later [] [.data, .data, .data, .data, .handle, .sentinel, .sentinel, .pinned] true (true, "6711a34749b768d2fa52627e8b1dc853d36692707e52c3c87be0d65b1a33d5dc") true
    (said hmain) (fun _ h => by cases h) (by kernel_rfl) (fun _ h => by cases h) scriptWrites_row_tie rfl ⟨rfl, rfl⟩ (by kernel_rfl) rfl
    (fun f fn hf hfn => by
      obtain rfl : f = 4 := Option.some.inj ((show Tryz.prog.funcNamed "colloquy/colloquylaw30.ScriptWrites" = some 4 by kernel_rfl).symm.trans hf) |>.symm
      obtain rfl : fn = Tryz.f4 := (Option.some.inj (Tryz.func4.symm.trans hfn)).symm
      refine ⟨by kernel_rfl, fun j t ht => ?_⟩
      have hall : (Tryz.f4.params.toList.all fun t => !Tryz.prog.wantsStandIn t) = true := by kernel_rfl
      have hm : t ∈ Tryz.f4.params.toList := by
        have := Array.mem_of_getElem? ht
        simpa using this
      have hw : Tryz.prog.wantsStandIn t = false := by simpa using List.all_eq_true.1 hall t hm
      exact hw)
    (by kernel_rfl)
end Go.Proofs.YteeokchpojaaoaaGreatDoor

