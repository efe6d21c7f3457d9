import Derived.Test.YtiboeelbmgnbgaaGreatDoorEx5
import Derived.Test.YtiboeelbmgnbgaaGreatDoorHa2
import Derived.Lib.OthersKept
set_option linter.unusedSectionVars false
set_option linter.unusedVariables false
set_option linter.unusedSimpArgs false
set_option linter.unnecessarySimpa false
set_option linter.unusedVariables false
set_option linter.unusedSimpArgs false
namespace Go.Av
open Go Go.RowKit
/-! ### A range over a string -/
/-- More is told of the memory. -/
structure Lay.Le (L L' : Lay) : Prop where
  l : ∀ b o v, L.L b o v → L'.L b o v
  s : ∀ b n, L.S b n → L'.S b n
  o : ∀ b x, L.O b x → L'.O b x
@[reducible] def Lay.put (L : Lay) (b : Nat) (x : Obj) : Lay := ⟨L.L, L.S, fun b' x' => (b' ≠ b ∧ L.O b' x') ∨ (b' = b ∧ x' = x)⟩
theorem LayOk.le {L L' : Lay} (h : L.Le L') {g : Gh} {w : World} (hk : @LayOk L' g w) : @LayOk L g w :=
  ⟨fun b o v hv => hk.1 b o v (h.l _ _ _ hv), fun b n hn => hk.2.1 b n (h.s _ _ hn), fun b x hx => hk.2.2 b x (h.o _ _ hx)⟩
theorem ACall.ext {L L' : Lay} (h : L.Le L') {P : Program} {f : FuncId} {args : List AV} {hp hp' : Heap} {r : AV} (hA : @ACall L P f args hp r hp') : @ACall L' P f args hp r hp' :=
  ⟨hA.1, hA.2.1, hA.2.2.1, fun g w vs hL hr hs => hA.2.2.2 g w vs (hL.le h) hr hs⟩
def Rt.plus (R : Rt) (b : Nat) : Rt := ⟨R.R, fun x => R.X x ∨ x = b⟩
theorem W0.ext {L L' : Lay} (h : L.Le L') {P : Program} {nb : Nat} {R : Rt} {k : List Item} {tm : List AV} {hp : Heap} (b : Nat) (hw : @W0 L P nb R k tm hp) : @W0 L' P nb (R.plus b) k tm hp := by
  intro g a w fr cs hL hr hn
  obtain ⟨a', w', g', tm', hp', todo, q1, q2, q3, q4⟩ := hw g a w fr cs (hL.le h) hr hn
  exact ⟨a', w', g', tm', hp', todo, q1, q2, q3.weak fun x hx => .inl (.inl hx), q4⟩
section
variable {g : Gh} {tm : List AV} {hp : Heap} {a : Array Value} {w : World}
end
section
variable {P : Program} {nb : Nat} {R : Rt} {k : List Item} {tm : List AV} {hp : Heap}
end
end Go.Av

