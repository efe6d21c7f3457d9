import Derived.Test.YtmedpledgchipaaGreatDoorHa6
import Derived.Lib.SlTrimSet
import Derived.Lib.SliceRun
set_option linter.unusedSectionVars false
set_option linter.unusedVariables false
set_option linter.unusedSimpArgs false
set_option linter.unnecessarySimpa false
namespace Go.Av
open Go Go.RowKit
section
variable [Lay] {P : Program} {f : FuncId} {fn : Func}
def trimAS (s cs : List UInt8) : Option (List UInt8) := if cs.length < 4294967281 ∧ cs.all (fun b => decide (b.toNat < 128)) = true then some (Lib.trimS s cs) else none
theorem trimS_le (l cs : List UInt8) : (Lib.trimS l cs).length ≤ l.length := by
 have hd : ∀ (p : UInt8 → Bool) (l : List UInt8), (l.dropWhile p).length ≤ l.length := fun p l => (List.dropWhile_suffix p).length_le
 unfold Lib.trimS Lib.trimLeftS Lib.trimRightS
 refine Nat.le_trans (hd _ _) ?_
 rw [List.length_reverse]
 refine Nat.le_trans (hd _ _) ?_
 rw [List.length_reverse]
 exact Nat.le_refl _
theorem acall_trim (he : ∀ vs w, (callFunc f vs).run P w = .ok (.enter f vs) w)
  (hx : ∀ (s cs : ByteArray) (w : World), s.size ≤ 9223372036854775807 → cs.size < 4294967281 → (∀ (j : Nat) b, cs.data.toList[j]? = some b → b.toNat < 128) →
   Calls P f #[.string s, .string cs] w fun e w' => e = .returned (.string ⟨(Lib.trimS s.data.toList cs.data.toList).toArray⟩) ∧ Below w.heap.size w w')
  {s cs r : List UInt8} (h : trimAS s cs = some r) : ACall P f [.str s, .str cs] [] (.str r) [] := by
 unfold trimAS at h
 split at h
 ·rename_i hc
  obtain ⟨c1, c2⟩ := hc
  obtain rfl := Option.some.inj h
  refine acall_ans rfl (by intro oe l; simp) he fun g w vs hLg hr hs => ?_
  obtain ⟨b0, e0, f0, g0⟩ := str_inv (hr.slots 0).1
  obtain ⟨b1, e1, f1, _⟩ := str_inv (hr.slots 1).1
  rw [vs2 hs, e0, e1]
  obtain rfl := bytes_eta f0
  obtain rfl := bytes_eta f1
  refine (hx _ _ w (by simp [ByteArray.size]; unfold maxB at g0; omega) (by simpa [ByteArray.size] using c1) (fun j b hb => of_decide_eq_true (List.all_eq_true.1 c2 b (List.mem_of_getElem? hb)))).mono ?_
  rintro e w' ⟨rfl, hb⟩
  have hl := trimS_le s cs
  exact ⟨_, rfl, .str rfl (by omega), hb⟩
 ·cases h
end
end Go.Av

