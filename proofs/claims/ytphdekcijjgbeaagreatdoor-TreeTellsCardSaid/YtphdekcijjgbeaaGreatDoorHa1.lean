import Derived.Test.YtphdekcijjgbeaaGreatDoorAv4
import Derived.Lib.Replace
import Derived.Lib.Join
set_option linter.unusedSectionVars false
set_option linter.unusedVariables false
set_option linter.unusedSimpArgs false
set_option linter.unnecessarySimpa false
namespace Go.Av
open Go Go.RowKit
section
variable [Lay] {P : Program} {f : FuncId} {fn : Func}
theorem acall_ans {args : List AV} {r : AV} (hn : noRef r = true) (hm : Meek r) (he : ∀ vs w, (callFunc f vs).run P w = .ok (.enter f vs) w)
  (h : ∀ (g : Gh) (w : World) (vs : Array Value), LayOk g w → Rel g args [] vs w → vs.size = args.length → Calls P f vs w fun e w' => ∃ v, e = .returned v ∧ VR g.out r v ∧ Below w.heap.size w w') : ACall P f args [] r [] :=
 acall_plain hn hm fun g w vs hL hr hs => .inl ⟨he vs w, h g w vs hL hr hs⟩
theorem acall_vac {args : List AV} {r : AV} (hn : noRef r = true) (hm : Meek r)
  (h : ∀ (g : Gh) (w : World) (vs : Array Value), Rel g args [] vs w → vs.size = args.length → False) : ACall P f args [] r [] :=
 acall_plain hn hm fun g w vs _ hr hs => (h g w vs hr hs).elim
theorem vs1 {vs : Array Value} (h : vs.size = 1) : vs = #[vs.getD 0 undef] := by
 obtain ⟨l⟩ := vs
 match l, h with
 | [x], _ => rfl
theorem vs2 {vs : Array Value} (h : vs.size = 2) : vs = #[vs.getD 0 undef, vs.getD 1 undef] := by
 obtain ⟨l⟩ := vs
 match l, h with
 | [x, y], _ => rfl
theorem bytes_eta {b : ByteArray} {s : List UInt8} (h : b.data.toList = s) : b = ⟨s.toArray⟩ := by
 apply ByteArray.ext; subst h; simp
theorem acall_idxByte (hf : P.funcs[f]? = some fn) (hname : (fn.name == "runtime.NumGoroutine") = false) (hb : fn.body.isNone = true) (hn : Extern.findNext fn = none) (he : Extern.find fn = some Extern.BytealgIndexByte.indexByte) (s : List UInt8) (c : Int) :
  ACall P f [.str s, .int .u8 c] [] (.int .i64 (idxB s (UInt8.ofNat c.toNat))) [] := by
 by_cases h : s.length ≤ maxB ∧ 0 ≤ c ∧ c ≤ 255
 ·obtain ⟨h1, h2, h3⟩ := h
  have e : ((UInt8.ofNat c.toNat).toNat : Int) = c := by
   have : c.toNat < 256 := by omega
   simp [UInt8.toNat_ofNat', Nat.mod_eq_of_lt this]; omega
  have := acall_indexByteString hf hname hb hn he s (UInt8.ofNat c.toNat) h1
  rwa [e] at this
 ·refine acall_vac rfl (by intro l; simp) fun g w vs hr hs => h ?_
  obtain ⟨_, _, _, h1⟩ := str_inv (hr.slots 0).1
  obtain ⟨_, h2, h3⟩ := int_inv (hr.slots 1).1
  exact ⟨h1, h2, h3⟩
theorem flat_str (xs : List (List UInt8)) : (xs.map AV.str).flatMap AV.cells = xs.map AV.str := by
 induction xs with
 | nil => rfl
 | cons x xs ih => simp only [List.map_cons, List.flatMap_cons, ih]; rfl
end
end Go.Av

