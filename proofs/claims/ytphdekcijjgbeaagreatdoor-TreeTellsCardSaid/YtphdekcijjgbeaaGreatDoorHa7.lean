import Derived.Test.YtphdekcijjgbeaaGreatDoorHa6
import Derived.Lib.SlTrimSet
import Derived.Lib.SliceRun
set_option linter.unusedSectionVars false
set_option linter.unusedVariables false
set_option linter.unusedSimpArgs false
set_option linter.unnecessarySimpa false
namespace Go.Av
open Go Go.RowKit
section
variable [Lay] {P : Program} {f : FuncId} {fn : Func}
def trimAS (s cs : List UInt8) : Option (List UInt8) := if cs.length < 4294967281 ∧ cs.all (fun b => decide (b.toNat < 128)) = true then some (Lib.trimS s cs) else none
theorem trimS_le (l cs : List UInt8) : (Lib.trimS l cs).length ≤ l.length := by
 have hd : ∀ (p : UInt8 → Bool) (l : List UInt8), (l.dropWhile p).length ≤ l.length := fun p l => (List.dropWhile_suffix p).length_le
 unfold Lib.trimS Lib.trimLeftS Lib.trimRightS
 refine Nat.le_trans (hd _ _) ?_
 rw [List.length_reverse]
 refine Nat.le_trans (hd _ _) ?_
 rw [List.length_reverse]
 exact Nat.le_refl _
theorem acall_trim (he : ∀ vs w, (callFunc f vs).run P w = .ok (.enter f vs) w)
  (hx : ∀ (s cs : ByteArray) (w : World), s.size ≤ 9223372036854775807 → cs.size < 4294967281 → (∀ (j : Nat) b, cs.data.toList[j]? = some b → b.toNat < 128) →
   Calls P f #[.string s, .string cs] w fun e w' => e = .returned (.string ⟨(Lib.trimS s.data.toList cs.data.toList).toArray⟩) ∧ Below w.heap.size w w')
  {s cs r : List UInt8} (h : trimAS s cs = some r) : ACall P f [.str s, .str cs] [] (.str r) [] := by
 unfold trimAS at h
 split at h
 ·rename_i hc
  obtain ⟨c1, c2⟩ := hc
  obtain rfl := Option.some.inj h
  refine acall_ans rfl (by intro oe l; simp) he fun g w vs hLg hr hs => ?_
  obtain ⟨b0, e0, f0, g0⟩ := str_inv (hr.slots 0).1
  obtain ⟨b1, e1, f1, _⟩ := str_inv (hr.slots 1).1
  rw [vs2 hs, e0, e1]
  obtain rfl := bytes_eta f0
  obtain rfl := bytes_eta f1
  refine (hx _ _ w (by simp [ByteArray.size]; unfold maxB at g0; omega) (by simpa [ByteArray.size] using c1) (fun j b hb => of_decide_eq_true (List.all_eq_true.1 c2 b (List.mem_of_getElem? hb)))).mono ?_
  rintro e w' ⟨rfl, hb⟩
  have hl := trimS_le s cs
  exact ⟨_, rfl, .str rfl (by omega), hb⟩
 ·cases h
def growNil {α : Type} (n : Int) : Option (List α) := if 0 ≤ n ∧ n ≤ 4294967296 then some [] else none
theorem own0_inv {g : Gh} {v : Value} (h : VR g (.sl (some none) []) v) : ∃ a, v = .slice a 0 0 ∧ (a = none ∨ ∃ b o, a = some ⟨b, o, none⟩ ∧ ∃ e, g.fz b = some e) := by
 cases h with
 | sl hl hc hb b o es vs ha hes h0 hn hi hv hq =>
  obtain ⟨q1, q2⟩ := hq rfl rfl
  subst hl
  subst q1
  exact ⟨_, rfl, q2⟩
theorem acallO_grow {T : TypeId} {i0 : TypeInfo} {z : Value} (hz : z.cells.size = i0.size) (h0 : 0 < i0.size) (hby : i0.bytes ≤ 32768)
  (he : ∀ vs w, (callFunc f vs).run P w = .ok (.enter f vs) w)
  (hroom : ∀ (a : Option Addr) (w : World), Calls P f #[.slice a 0 0, .int .i64 0] w fun e w' => e = .returned (.slice a 0 0) ∧ w' = w)
  (hgrow : ∀ (a : Option Addr) (n : Nat) (w : World), 0 < n → n * i0.bytes ≤ 140737488355328 → n ≤ 4611686018427387904 →
   Calls P f #[.slice a 0 0, .int .i64 n] w fun e w' => e = .returned (.slice (some ⟨w.heap.size, 0, none⟩) 0 (grownCap w n 0 T)) ∧
    w' = w.drew.alloc (.cells (#[] ++ Builtin.zeroCells z.cells n ++ Builtin.zeroCells z.cells (grownCap w n 0 T - n)) T))
  {n : Int} {α : Type} {r : List α} {enc : α → AV} (h : growNil n = some r) : ACallO P f [.sl (some none) [], .int .i64 n] (.sl (some (some (T, i0.size))) (r.map enc)) := by
 unfold growNil at h
 split at h
 ·rename_i hc
  obtain rfl := Option.some.inj h
  refine ⟨rfl, fun g w vs hLg hr hs => .inl ⟨he vs w, ?_⟩⟩
  obtain ⟨a, e0, ha⟩ := own0_inv (hr.slots 0).1
  obtain ⟨e1, _, _⟩ := int_inv (hr.slots 1).1
  rw [vs2 hs, e0, e1]
  by_cases hn : n = 0
  ·subst hn
   refine (hroom a w).mono ?_
   rintro e w' ⟨rfl, rfl⟩
   have hvr : VR g (.sl (some (some (T, i0.size))) []) (.slice a 0 0) := .sl rfl (Nat.le_refl _) (Nat.zero_le _) 0 0 1 (fun _ => undef) (fun h => absurd rfl h) (fun x hx => by cases hx) Nat.one_pos (fun x hx => by cases hx) (fun j av hj => by simp at hj) (fun j av hj => by simp at hj) (fun q _ => by cases q)
   refine ⟨_, g, rfl, ⟨by simp, fun t => ?_, hr.heap, hr.locs, hr.imms, hr.owns, hr.fzs⟩, .refl _ _ _⟩
   match t with
   | 0 => exact ⟨hvr, .inl ⟨rfl, rfl, ha⟩⟩
   | t+1 => exact ⟨by simp [lget]; exact .any _, trivial⟩
  ·obtain ⟨k, rfl⟩ := Int.eq_ofNat_of_zero_le hc.1
   have hk : 0 < k := by omega
   have hk2 : k ≤ 4294967296 := by omega
   have hb : k * i0.bytes ≤ 140737488355328 := Nat.le_trans (Nat.mul_le_mul hk2 hby) (by decide)
   refine (hgrow a k w hk hb (by omega)).mono ?_
   rintro e w' ⟨rfl, rfl⟩
   have hge := grownCap_ge w k 0 T
   have hsz : (#[] ++ Builtin.zeroCells z.cells k ++ Builtin.zeroCells z.cells (grownCap w k 0 T - k)).size = grownCap w k 0 T * i0.size := by
    simp only [Array.size_append, size_zeroCells, hz, Array.size_empty, Nat.zero_add]
    rw [← Nat.add_mul]; congr 1; omega
   obtain ⟨g', q1, q2, q3, q4⟩ := Rel.newSlice (oe := some (T, i0.size)) hr.drew 0 [] i0.size h0 (fun x hx => by cases hx) (fun x hx => by cases hx) _ T (0, 0) (grownCap w k 0 T) (by simp) (Nat.le_of_eq hsz.symm) (fun o ho => by simp) (fun j av hj => by simp at hj) (Nat.zero_le _) (.slot 0) (fun v => by simp) rfl (fun e' he => by cases he; exact ⟨rfl, .inr rfl⟩)
   have hh : ([] : List AV) ≠ [] ∨ grownCap w k 0 T = ([] : List AV).length ∨ ∃ e', some (T, i0.size) = some e' ∧ 0 < e'.2 := .inr (.inr ⟨_, rfl, h0⟩)
   refine ⟨_, g', rfl, ⟨by simp, fun t => ?_, q1.heap, q1.locs, q1.imms, q1.owns, q1.fzs⟩, (Stp.drew _ g w).trans q2⟩
   match t with
   | 0 => exact ⟨q3 hh, q4 hh⟩
   | t+1 => exact ⟨by simp [lget]; exact .any _, trivial⟩
 ·cases h
end
end Go.Av

