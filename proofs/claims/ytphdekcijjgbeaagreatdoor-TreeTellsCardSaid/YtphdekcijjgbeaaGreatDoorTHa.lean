import Derived.Test.YtphdekcijjgbeaaGreatDoorTEn
import Derived.Test.YtphdekcijjgbeaaGreatDoorHa8
import Derived.Test.YtphdekcijjgbeaaGreatDoorTSo
import Derived.Shelf.Strings.SlTrimAscii
import Derived.Test.YtphdekcijjgbeaaGreatDoorRng
import Derived.Test.YtphdekcijjgbeaaGreatDoorShf
import Derived.Test.YtphdekcijjgbeaaGreatDoorSh2
import Derived.Test.YtphdekcijjgbeaaGreatDoorNu3
set_option linter.unusedSectionVars false
set_option linter.unusedVariables false
set_option linter.unusedSimpArgs false
set_option linter.unnecessarySimpa false
set_option maxRecDepth 100000
namespace Go.Cq
open Go Go.Av Go.Proofs
class SeatLay [Lay] : Prop where
 ml : ∃ m, Lay.L 1 0 (.int .i64 m)
 rt : Lay.L 0 0 (NumTry.RT 34)
variable [Lay] [SeatLay]
theorem en (n : Nat) {fn : Func} {c : Code} (hf : Tryz.prog.funcs[n]? = some fn) (hname : (fn.name == "runtime.NumGoroutine") = false) (hb : fn.body = some c) : ∀ vs w, (callFunc n vs).run Tryz.prog w = .ok (.enter n vs) w := Go.Proofs.enters_of hf hname hb
theorem w_bytealg_idx {s : Str} {c r : Int} (h : bytealg_idx s c = some r) : ACall Tryz.prog 130 [.str s, .int .u8 c] [] (.int .i64 r) [] := by
 obtain rfl := Option.some.inj h
 exact acall_idxByte Tryz.func130 (by kernel_rfl) (by kernel_rfl) (by kernel_rfl) (by kernel_rfl) s c
theorem w_strings_Split {s sep : Str} {r : List Str} (h : strings_Split s sep = some r) : ACall Tryz.prog 69 [.str s, .str sep] [] (.sl none (List.map AV.str r)) [] := by
 obtain ⟨m, hm⟩ := SeatLay.ml
 exact acall_split hm (en 69 Tryz.func69 (by kernel_rfl) rfl) (fun s sep w h1 h2 h3 => Tryz.strings_Split s sep m w h1 h2 h3) h
theorem w_strings_Trim {s cs : Str} {r : Str} (h : strings_Trim s cs = some r) : ACall Tryz.prog 67 [.str s, .str cs] [] (.str r) [] :=
 acall_trim (en 67 Tryz.func67 (by kernel_rfl) rfl) (fun s cs w h1 h2 h3 => Any.strings_Trim_laid Tryz.lays160 (by kernel_rfl) s cs w h1 h2 h3) h
theorem w_slices_Grow {n : Int} {r : List Str} (h : slices_Grow n = some r) : ACallO Tryz.prog 43 [.sl (some none) [], .int .i64 n] (.sl (some (some (9, 1))) (List.map AV.str r)) := by
 have h9 : (Tryz.prog.info? 9).map (fun i => (i.bytes, i.size, i.zero)) = some (16, 1, some (.string ⟨#[]⟩)) := by kernel_rfl
 obtain ⟨i0, hi0, e9⟩ := Option.map_eq_some_iff.1 h9
 simp only [Prod.mk.injEq] at e9
 obtain ⟨hb, hs, hz⟩ := e9
 have := acallO_grow (P := Tryz.prog) (f := 43) (T := 9) (i0 := i0) (z := .string ⟨#[]⟩) (by rw [hs]; rfl) (by omega) (by omega) (en 43 Tryz.func43 (by kernel_rfl) rfl)
  (fun a w => (Any8.slices_Grow_room Tryz.laysGrow a 0 0 0 w (by omega) (by omega) (by omega) (by omega)))
  (fun a n w h1 h2 h3 => (Any8.slices_Grow_grow Tryz.laysGrow i0 (.string ⟨#[]⟩) hi0 hz (by omega) a 0 0 n [] w (by omega) (by omega) (by simpa using h2) (by omega) (by simp) (fun _ => rfl) (fun _ _ _ _ h => by simp at h)).mono fun e w' ⟨h1, h2⟩ => by
   simp only [Nat.zero_add, Nat.sub_zero] at h1 h2
   exact ⟨h1, h2⟩) (enc := AV.str) h
 rw [hs] at this
 exact this
theorem srt_mem (ss : List (List UInt8)) (x : List UInt8) (h : x ∈ srt ss) : x ∈ ss := by
 unfold srt Lib.compact Lib.compactUpTo at h
 obtain ⟨j, hj, rfl⟩ := List.mem_map.1 h
 have hj := List.mem_range.1 (List.mem_filter.1 hj).1
 have : (ss.mergeSort fun x y => decide (x ≤ y)).toArray[j]! ∈ (ss.mergeSort fun x y => decide (x ≤ y)) := by
  rw [getElem!_pos (ss.mergeSort fun x y => decide (x ≤ y)).toArray j (by simpa using hj)]
  simp
 exact (List.mem_mergeSort).1 this
theorem srt_le (ss : List (List UInt8)) : (srt ss).length ≤ ss.length := by
 unfold srt
 have := Lib.compact_length_le (ss.mergeSort fun x y => decide (x ≤ y))
 rwa [List.length_mergeSort] at this
theorem w_tree_sorted {l r : List Str} {n : Nat} {ag full : Bool} (h : tree_sorted l = some r) (hn : l.length = n) : ACall Tryz.prog 36 [.rs 0 0 n 1 ag full] [some (l.map AV.str)] (.sl none (List.map AV.str r)) [none] := by
 obtain rfl := Option.some.inj h
 exact acall_sorted (S := srt) srt_le srt_mem (en 36 Tryz.func36 (by kernel_rfl) rfl) (fun b o c ss w h1 h2 h3 h4 => sorted_some b o c ss w h1 h2 h3 h4) (fun p c w => sorted_none p c w) hn
theorem iface_inv {g : Gh} {t : TypeId} {a : AV} {v : Value} (h : VR g (.iface t a) v) : ∃ u, v = .iface t u ∧ VR g a u := by cases h; exact ⟨_, rfl, by assumption⟩
theorem nilI_inv {g : Gh} {v : Value} (h : VR g .nilI v) : v = .nilIface := by cases h; rfl
theorem w_law_num {e : Option Int} {r : Int} (h : law_num e = some r) : ACall Tryz.prog 10 [encE 54 e] [] (.int .i64 r) [] := by
 refine acall_ans rfl (by intro oe l; simp) (en 10 Tryz.func10 (by kernel_rfl) rfl) fun g w vs hL hr hs => ?_
 have hg := hr.imms _ _ _ (hL.1 _ _ _ SeatLay.rt)
 have h0 : 0 < w.heap.size := hr.lt (b := 0) (o := 0) (by rw [hL.1 _ _ _ SeatLay.rt]; simp)
 have hv := (hr.slots 0).1
 rw [vs1 hs]
 cases e with
 | none =>
  obtain rfl := Option.some.inj h
  have e0 : vs.getD 0 undef = .nilIface := nilI_inv hv
  rw [e0]
  refine (NumTry.num_0 w).mono ?_
  rintro e w' ⟨rfl, hb⟩
  exact ⟨_, rfl, .int (by decide) (by decide), hb⟩
 | some n =>
  obtain rfl := Option.some.inj h
  obtain ⟨u, e0, hu⟩ := iface_inv (a := .int .i64 n) hv
  obtain ⟨rfl, h1, h2⟩ := int_inv hu
  rw [e0]
  refine (NumTry.num_w n w hg h0).mono ?_
  rintro e w' ⟨rfl, hb⟩
  exact ⟨_, rfl, .int h1 h2, hb⟩
end Go.Cq

