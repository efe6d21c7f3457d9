import Derived.Test.YtiboeelbmgnbgaaGreatDoorEnc
import Derived.Test.YtiboeelbmgnbgaaGreatDoorHa7
import Derived.Shelf.Strings.SlTrimAscii
import Derived.Test.YtiboeelbmgnbgaaGreatDoorRng
import Derived.Test.YtiboeelbmgnbgaaGreatDoorShf
import Derived.Test.YtiboeelbmgnbgaaGreatDoorSf2
import Derived.Test.YtiboeelbmgnbgaaGreatDoorSf5
import Derived.Test.YtiboeelbmgnbgaaGreatDoorNu3
set_option linter.unusedSectionVars false
set_option linter.unusedVariables false
set_option linter.unusedSimpArgs false
set_option linter.unnecessarySimpa false
set_option maxRecDepth 100000
namespace Go.Cq
open Go Go.Av Go.Proofs
class SeatLay [Lay] : Prop where
 ml : ∃ m, Lay.L 1 0 (.int .i64 m)
 rt : Lay.L 0 0 (NumTry.RT 30)
variable [Lay] [SeatLay]
theorem en (n : Nat) {fn : Func} {c : Code} (hf : Tryz.prog.funcs[n]? = some fn) (hname : (fn.name == "runtime.NumGoroutine") = false) (hb : fn.body = some c) : ∀ vs w, (callFunc n vs).run Tryz.prog w = .ok (.enter n vs) w := Go.Proofs.enters_of hf hname hb
theorem zKo {s : Str} {c r : Int} (h : zFF s c = some r) : zAe Tryz.prog 195 [.str s, .int .u8 c] [] (.int .i64 r) [] := by
 obtain rfl := Option.some.inj h
 exact zKN Tryz.func195 (by kernel_rfl) (by kernel_rfl) (by kernel_rfl) (by kernel_rfl) s c
theorem zEv {s sep : Str} {r : List Str} (h : strings_Split s sep = some r) : zAe Tryz.prog 162 [.str s, .str sep] [] (.sl none (List.map AV.str r)) [] := by
 obtain ⟨m, hm⟩ := SeatLay.ml
 exact zMl hm (en 162 Tryz.func162 (by kernel_rfl) rfl) (fun s sep w h1 h2 h3 => Tryz.strings_Split s sep m w h1 h2 h3) h
theorem zCz {s cs : Str} {r : Str} (h : zA2 s cs = some r) : zAe Tryz.prog 174 [.str s, .str cs] [] (.str r) [] :=
 zOf (en 174 Tryz.func174 (by kernel_rfl) rfl) (fun s cs w h1 h2 h3 => Any.strings_Trim_laid Tryz.lays160 (by kernel_rfl) s cs w h1 h2 h3) h
theorem zJY {n : Int} {r : List Str} (h : zFL n = some r) : zGG Tryz.prog 117 [.sl (some none) [], .int .i64 n] (.sl (some (some (9, 1))) (List.map AV.str r)) := by
 have h9 : (Tryz.prog.info? 9).map (fun i => (i.bytes, i.size, i.zero)) = some (16, 1, some (.string ⟨#[]⟩)) := by kernel_rfl
 obtain ⟨i0, hi0, e9⟩ := Option.map_eq_some_iff.1 h9
 simp only [Prod.mk.injEq] at e9
 obtain ⟨hb, hs, hz⟩ := e9
 have := zIN (P := Tryz.prog) (f := 117) (T := 9) (i0 := i0) (z := .string ⟨#[]⟩) (by rw [hs]; rfl) (by omega) (by omega) (en 117 Tryz.func117 (by kernel_rfl) rfl)
  (fun a w => (Any8.slices_Grow_room Tryz.laysGrow a 0 0 0 w (by omega) (by omega) (by omega) (by omega)))
  (fun a n w h1 h2 h3 => (Any8.slices_Grow_grow Tryz.laysGrow i0 (.string ⟨#[]⟩) hi0 hz (by omega) a 0 0 n [] w (by omega) (by omega) (by simpa using h2) (by omega) (by simp) (fun _ => rfl) (fun _ _ _ _ h => by simp at h)).mono fun e w' ⟨h1, h2⟩ => by
   simp only [Nat.zero_add, Nat.sub_zero] at h1 h2
   exact ⟨h1, h2⟩) (enc := AV.str) h
 rw [hs] at this
 exact this
theorem zJv {n : Int} {r : List lWd} (h : zEQ n = some r) : zGG Tryz.prog 116 [.sl (some none) [], .int .i64 n] (.sl (some (some (74, 3))) (List.map zAv r)) := by
 have h9 : (Tryz.prog.info? 74).map (fun i => (i.bytes, i.size, i.zero)) = some (32, 3, some (.agg #[.int .u8 0, .string ⟨#[]⟩, .int .i64 0])) := by kernel_rfl
 obtain ⟨i0, hi0, e9⟩ := Option.map_eq_some_iff.1 h9
 simp only [Prod.mk.injEq] at e9
 obtain ⟨hb, hs, hz⟩ := e9
 have := zIN (P := Tryz.prog) (f := 116) (T := 74) (i0 := i0) (z := .agg #[.int .u8 0, .string ⟨#[]⟩, .int .i64 0]) (by rw [hs]; rfl) (by omega) (by omega) (en 116 Tryz.func116 (by kernel_rfl) rfl)
  (fun a w => (Any8.slices_Grow_room Tryz.laysGrowW a 0 0 0 w (by omega) (by omega) (by omega) (by omega)))
  (fun a n w h1 h2 h3 => (Any8.slices_Grow_grow Tryz.laysGrowW i0 (.agg #[.int .u8 0, .string ⟨#[]⟩, .int .i64 0]) hi0 hz (by omega) a 0 0 n [] w (by omega) (by omega) (by simpa using h2) (by omega) (by simp) (fun _ => rfl) (fun _ _ _ _ h => by simp at h)).mono fun e w' ⟨h1, h2⟩ => by
   simp only [Nat.zero_add, Nat.sub_zero] at h1 h2
   exact ⟨h1, h2⟩) (enc := zAv) h
 rw [hs] at this
 exact this
theorem zGt {s o n r : Str} (h : strings_ReplaceAll s o n = some r) : zAe Tryz.prog 157 [.str s, .str o, .str n] [] (.str r) [] := by
 obtain ⟨m, hm⟩ := SeatLay.ml
 exact zIc hm (en 157 Tryz.func157 (by kernel_rfl) rfl) (fun s old new w h1 h2 h3 h4 => Tryz.strings_ReplaceAll s old new m w h1 h2 h3 h4) h
theorem zJq {xs : List Str} {sep r : Str} (h : strings_Join xs sep = some r) : zAe Tryz.prog 104 [.sl none (List.map AV.str xs), .str sep] [] (.str r) [] :=
 zOe (en 104 Tryz.func104 (by kernel_rfl) rfl) (fun a c sep w => Tryz.strings_Join_none a c sep w) (fun bk o c xs sep w h1 h2 h3 h4 h5 => Tryz.strings_Join bk o c xs sep w h1 h2 h3 h4 h5) h
theorem zPD {g : Gh} {t : TypeId} {a : AV} {v : Value} (h : VR g (.iface t a) v) : ∃ u, v = .iface t u ∧ VR g a u := by cases h; exact ⟨_, rfl, by assumption⟩
theorem nilI_inv {g : Gh} {v : Value} (h : VR g .nilI v) : v = .nilIface := by cases h; rfl
theorem zLp {e : Option Int} {r : Int} (h : zIY e = some r) : zAe Tryz.prog 18 [encE 86 e] [] (.int .i64 r) [] := by
 refine zG3 rfl (by intro oe l; simp) (en 18 Tryz.func18 (by kernel_rfl) rfl) fun g w vs hL hr hs => ?_
 have hg := hr.imms _ _ _ (hL.1 _ _ _ SeatLay.rt)
 have h0 : 0 < w.heap.size := hr.lt (b := 0) (o := 0) (by rw [hL.1 _ _ _ SeatLay.rt]; simp)
 have hv := (hr.slots 0).1
 rw [vs1 hs]
 cases e with
 | none =>
  obtain rfl := Option.some.inj h
  have e0 : vs.getD 0 undef = .nilIface := nilI_inv hv
  rw [e0]
  refine (NumTry.num_0 w).mono ?_
  rintro e w' ⟨rfl, hb⟩
  exact ⟨_, rfl, .int (by decide) (by decide), hb⟩
 | some n =>
  obtain rfl := Option.some.inj h
  obtain ⟨u, e0, hu⟩ := zPD (a := .int .i64 n) hv
  obtain ⟨rfl, h1, h2⟩ := zCo hu
  rw [e0]
  refine (NumTry.num_w n w hg h0).mono ?_
  rintro e w' ⟨rfl, hb⟩
  exact ⟨_, rfl, .int h1 h2, hb⟩
end Go.Cq

