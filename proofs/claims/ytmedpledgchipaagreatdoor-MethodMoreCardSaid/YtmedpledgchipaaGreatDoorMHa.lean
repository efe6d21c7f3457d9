import Derived.Test.YtmedpledgchipaaGreatDoorMEn
import Derived.Test.YtmedpledgchipaaGreatDoorHa9
import Derived.Shelf.Strings.SlTrimAscii
import Derived.Test.YtmedpledgchipaaGreatDoorRng
import Derived.Test.YtmedpledgchipaaGreatDoorHaB
import Derived.Test.YtmedpledgchipaaGreatDoorMRe
import Derived.Test.YtmedpledgchipaaGreatDoorEx9
import Derived.Test.YtmedpledgchipaaGreatDoorMCl
import Derived.Test.YtmedpledgchipaaGreatDoorShf
import Derived.Test.YtmedpledgchipaaGreatDoorNu3
set_option linter.unusedSectionVars false
set_option linter.unusedVariables false
set_option linter.unusedSimpArgs false
set_option linter.unnecessarySimpa false
set_option maxRecDepth 100000
namespace Go.Cq
open Go Go.Av Go.Proofs
class SeatLay [Lay] : Prop where
 ml : ∃ m, Lay.L 3 0 (.int .i64 m)
 rt : Lay.L 0 0 (NumTry.RT 32)
variable [Lay] [SeatLay]
theorem en (n : Nat) {fn : Func} {c : Code} (hf : Tryz.prog.funcs[n]? = some fn) (hname : (fn.name == "runtime.NumGoroutine") = false) (hb : fn.body = some c) : ∀ vs w, (callFunc n vs).run Tryz.prog w = .ok (.enter n vs) w := Go.Proofs.enters_of hf hname hb
theorem w_strings_Split {s sep : Str} {r : List Str} (h : strings_Split s sep = some r) : ACall Tryz.prog 47 [.str s, .str sep] [] (.sl none (List.map AV.str r)) [] := by
 obtain ⟨m, hm⟩ := SeatLay.ml
 exact acall_split hm (en 47 Tryz.func47 (by kernel_rfl) rfl) (fun s sep w h1 h2 h3 => Tryz.strings_Split s sep m w h1 h2 h3) h
theorem w_strings_Trim {s cs : Str} {r : Str} (h : strings_Trim s cs = some r) : ACall Tryz.prog 45 [.str s, .str cs] [] (.str r) [] :=
 acall_trim (en 45 Tryz.func45 (by kernel_rfl) rfl) (fun s cs w h1 h2 h3 => Any.strings_Trim_laid Tryz.lays160 (by kernel_rfl) s cs w h1 h2 h3) h
theorem w_slices_Sort_int {l r : List Int} {n : Nat} {ag full : Bool} (h : slices_Sort_int l = some r) (hn : l.length = n) : ACall Tryz.prog 145 [.rs 0 0 n 1 ag full] [some (l.map (AV.int .i64))] (.tup []) [some (r.map (AV.int .i64))] := by
 obtain rfl := Option.some.inj h
 exact acall_sortI (en 145 Tryz.func145 (by kernel_rfl) rfl) (fun blk off cap l w h1 h2 h3 => Tryz.slices_Sort_int blk off cap l w h1 h2 h3) (fun p cap w => Tryz.slices_Sort_int_none p cap w) hn
theorem w_slices_Compact_int {l r : List Int} {n : Nat} {ag full : Bool} (h : slices_Compact_int l = some r) (hn : l.length = n) : ACall Tryz.prog 146 [.rs 0 0 n 1 ag full] [some (l.map (AV.int .i64))] (.rs 0 0 r.length 1 false false) [some ((zerosI l).map (AV.int .i64))] := by
 obtain rfl := Option.some.inj h
 exact acall_compactI (en 146 Tryz.func146 (by kernel_rfl) rfl) (fun blk off cap l w h1 h2 h3 => Tryz.slices_Compact_int blk off cap l w h1 h2 h3) (fun p cap w => Tryz.slices_Compact_int_empty p cap w) hn
theorem w_slices_Clone_byte {l r : List Int} (h : slices_Clone_byte l = some r) : ACallO Tryz.prog 59 [.sl none (l.map (AV.int .u8))] (.sl (some (some (5, 1))) (r.map (AV.int .u8))) := by
 obtain rfl := Option.some.inj h
 exact acallO_clone (en 59 Tryz.func59 (by kernel_rfl) rfl) (fun b off n c zs w h1 h2 h3 => clone_some b off n c zs w h1 h2 h3) (fun n c w => clone_none n c w) (fun a c w => clone_zero a c w)
theorem w_slices_Repeat_int {o : Option (Option ETy)} {l r : List Int} {n : Int} (h : slices_Repeat_int l n = some r) : ACallB Tryz.prog 132 [.sl o (l.map (AV.int .i64)), .int .i64 n] (.rs 0 0 r.length 1 false false) (r.map (AV.int .i64)) :=
 acallB_repeat (T := 3) (en 132 Tryz.func132 (by kernel_rfl) rfl) (fun b off c n x w hx hn => by
  have fin : ∀ {e : Ending} {w' : World}, RepPost w n x e w' → e = .returned (.slice (some ⟨w.heap.size, 0, none⟩) n n) ∧ (∃ c : Array Value, w'.heap[w.heap.size]? = some (.cells c 3 (0, 0)) ∧ c.size = n ∧ ∀ i, i < n → c[i]? = some (.int .i64 x)) ∧ RowKit.Below w.heap.size w w' := by
   rintro e w' ⟨h1, F, ⟨c, q1, q2, q3⟩, q4, q5⟩
   exact ⟨h1, ⟨c, q1, q2, fun i hi => by rw [q3 i hi, q4 i hi]⟩, q5⟩
  by_cases h0 : 0 < n
  ·exact (repeat_pos b off c n x w hx h0 hn).mono fun e w' h => fin h
  ·obtain rfl : n = 0 := by omega
   exact (repeat_zero b off c x w).mono fun e w' h => fin h) h
theorem iface_inv {g : Gh} {t : TypeId} {a : AV} {v : Value} (h : VR g (.iface t a) v) : ∃ u, v = .iface t u ∧ VR g a u := by cases h; exact ⟨_, rfl, by assumption⟩
theorem nilI_inv {g : Gh} {v : Value} (h : VR g .nilI v) : v = .nilIface := by cases h; rfl
theorem w_law_num {e : Option Int} {r : Int} (h : law_num e = some r) : ACall Tryz.prog 16 [encE 66 e] [] (.int .i64 r) [] := by
 refine acall_ans rfl (by intro oe l; simp) (en 16 Tryz.func16 (by kernel_rfl) rfl) fun g w vs hL hr hs => ?_
 have hg := hr.imms _ _ _ (hL.1 _ _ _ SeatLay.rt)
 have h0 : 0 < w.heap.size := hr.lt (b := 0) (o := 0) (by rw [hL.1 _ _ _ SeatLay.rt]; simp)
 have hv := (hr.slots 0).1
 rw [vs1 hs]
 cases e with
 | none =>
  obtain rfl := Option.some.inj h
  have e0 : vs.getD 0 undef = .nilIface := nilI_inv hv
  rw [e0]
  refine (NumTry.num_0 w).mono ?_
  rintro e w' ⟨rfl, hb⟩
  exact ⟨_, rfl, .int (by decide) (by decide), hb⟩
 | some n =>
  obtain rfl := Option.some.inj h
  obtain ⟨u, e0, hu⟩ := iface_inv (a := .int .i64 n) hv
  obtain ⟨rfl, h1, h2⟩ := int_inv hu
  rw [e0]
  refine (NumTry.num_w n w hg h0).mono ?_
  rintro e w' ⟨rfl, hb⟩
  exact ⟨_, rfl, .int h1 h2, hb⟩
end Go.Cq

