import Derived.Test.YtmedpledgchipaaGreatDoorAv4
import Derived.Lib.Replace
import Derived.Lib.Join
set_option linter.unusedSectionVars false
set_option linter.unusedVariables false
set_option linter.unusedSimpArgs false
set_option linter.unnecessarySimpa false
namespace Go.Av
open Go Go.RowKit
section
variable [Lay] {P : Program} {f : FuncId} {fn : Func}
theorem acall_ans {args : List AV} {r : AV} (hn : noRef r = true) (hm : Meek r) (he : ∀ vs w, (callFunc f vs).run P w = .ok (.enter f vs) w)
  (h : ∀ (g : Gh) (w : World) (vs : Array Value), LayOk g w → Rel g args [] vs w → vs.size = args.length → Calls P f vs w fun e w' => ∃ v, e = .returned v ∧ VR g.out r v ∧ Below w.heap.size w w') : ACall P f args [] r [] :=
 acall_plain hn hm fun g w vs hL hr hs => .inl ⟨he vs w, h g w vs hL hr hs⟩
theorem vs1 {vs : Array Value} (h : vs.size = 1) : vs = #[vs.getD 0 undef] := by
 obtain ⟨l⟩ := vs
 match l, h with
 | [x], _ => rfl
theorem vs2 {vs : Array Value} (h : vs.size = 2) : vs = #[vs.getD 0 undef, vs.getD 1 undef] := by
 obtain ⟨l⟩ := vs
 match l, h with
 | [x, y], _ => rfl
theorem bytes_eta {b : ByteArray} {s : List UInt8} (h : b.data.toList = s) : b = ⟨s.toArray⟩ := by
 apply ByteArray.ext; subst h; simp
theorem flat_str (xs : List (List UInt8)) : (xs.map AV.str).flatMap AV.cells = xs.map AV.str := by
 induction xs with
 | nil => rfl
 | cons x xs ih => simp only [List.map_cons, List.flatMap_cons, ih]; rfl
end
end Go.Av

