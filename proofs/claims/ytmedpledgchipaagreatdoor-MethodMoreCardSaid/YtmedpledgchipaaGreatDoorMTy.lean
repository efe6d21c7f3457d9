import Derived.Test.YtmedpledgchipaaGreatDoorMEn
import Derived.Test.YtmedpledgchipaaGreatDoorRo4
import Derived.KernelRfl
set_option linter.unusedSectionVars false
set_option linter.unusedVariables false
set_option linter.unusedSimpArgs false
set_option linter.unnecessarySimpa false
set_option maxRecDepth 100000
set_option maxHeartbeats 4000000
namespace Go.Cq
open Go Go.Av Go.Proofs
theorem ty9 {cs : List AV} (h : TyE Tryz.prog 9 cs) : ∃ x : Str, cs = [.str x] ∧ (x.length ≤ 140737488351232) := tye_str Tryz.underlying9 h
theorem ty5 {cs : List AV} (h : TyE Tryz.prog 5 cs) : ∃ x : Int, cs = [.int .u8 x] ∧ ((0 : Int) ≤ x ∧ x ≤ 255) := by
 obtain ⟨n, h1, h2, h3⟩ := tye_int Tryz.underlying5 h
 exact ⟨n, h1, h2, h3⟩
def ok_ref09_Lit (x : ref09_Lit) : Prop := ((0 : Int) ≤ x.K ∧ x.K ≤ 255) ∧ (x.S.length ≤ 140737488351232)
theorem ty59 {cs : List AV} (h : TyE Tryz.prog 59 cs) : ∃ x : ref09_Lit, cs = [.int .u8 x.K, .str x.S] ∧ ok_ref09_Lit x := by
 obtain ⟨hl, hf⟩ := tye_struct Tryz.underlying59 (n := 2) (by kernel_rfl) h
 match cs, hl with
 | [c0, c1], _ =>
  have h0 : TyE Tryz.prog 5 [c0] := hf 0 _ 0 1 5 rfl rfl rfl (by kernel_rfl)
  obtain ⟨x0, e0, k0⟩ := ty5 h0
  have h1 : TyE Tryz.prog 9 [c1] := hf 1 _ 1 1 9 rfl rfl rfl (by kernel_rfl)
  obtain ⟨x1, e1, k1⟩ := ty9 h1
  simp only [List.cons.injEq, and_true] at e0 e1
  obtain rfl := e0
  obtain rfl := e1
  exact ⟨⟨x0, x1⟩, rfl, k0, k1⟩
theorem ty22 {cs : List AV} (h : TyE Tryz.prog 22 cs) : ∃ x : (List ref09_Lit), cs = [.sl none (List.map enc_ref09_Lit x)] ∧ (x.length * 24 ≤ 140737488351232 ∧ ∀ z, z ∈ x → ok_ref09_Lit z) := by
 obtain ⟨l, h1, h2, h3⟩ := tye_slice Tryz.underlying22 h
 have hs : isStr Tryz.prog 59 = true := by kernel_rfl
 rw [show Tryz.prog.bytesOf 59 = 24 by kernel_rfl] at h2
 obtain ⟨l2, rfl, h4⟩ := list_enc (enc := enc_ref09_Lit) (ok := fun z => ok_ref09_Lit z) (l := l) fun x hx => by
  obtain ⟨h5, h6⟩ := h3 x hx
  rw [hs] at h6
  obtain ⟨y, e1, k1⟩ := ty59 h5
  obtain ⟨c, rfl⟩ := h6
  refine ⟨y, ?_, k1⟩
  simp only [AV.cells] at e1
  subst e1; rfl
 rw [List.length_map] at h2
 exact ⟨l2, h1, h2, h4⟩
theorem ty3 {cs : List AV} (h : TyE Tryz.prog 3 cs) : ∃ x : Int, cs = [.int .i64 x] ∧ ((-9223372036854775808 : Int) ≤ x ∧ x ≤ 9223372036854775807) := by
 obtain ⟨n, h1, h2, h3⟩ := tye_int Tryz.underlying3 h
 exact ⟨n, h1, h2, h3⟩
theorem ty26 {cs : List AV} (h : TyE Tryz.prog 26 cs) : ∃ x : (List Int), cs = [.sl none (List.map (AV.int .u8) x)] ∧ (x.length * 1 ≤ 140737488351232 ∧ ∀ z, z ∈ x → ((0 : Int) ≤ z ∧ z ≤ 255)) := by
 obtain ⟨l, h1, h2, h3⟩ := tye_slice Tryz.underlying26 h
 have hs : isStr Tryz.prog 5 = false := by kernel_rfl
 rw [show Tryz.prog.bytesOf 5 = 1 by kernel_rfl] at h2
 obtain ⟨l2, rfl, h4⟩ := list_enc (enc := (AV.int .u8)) (ok := fun z => ((0 : Int) ≤ z ∧ z ≤ 255)) (l := l) fun x hx => by
  obtain ⟨h5, h6⟩ := h3 x hx
  rw [hs] at h6
  obtain ⟨y, e1, k1⟩ := ty5 h5
  exact ⟨y, one_eq' h6 e1, k1⟩
 rw [List.length_map] at h2
 exact ⟨l2, h1, h2, h4⟩
def ok_ref09_Part (x : ref09_Part) : Prop := ((-9223372036854775808 : Int) ≤ x.Outer ∧ x.Outer ≤ 9223372036854775807) ∧ ((-9223372036854775808 : Int) ≤ x.Args ∧ x.Args ≤ 9223372036854775807) ∧ ((-9223372036854775808 : Int) ≤ x.Temps ∧ x.Temps ≤ 9223372036854775807) ∧ (x.Code.length * 1 ≤ 140737488351232 ∧ ∀ z, z ∈ x.Code → ((0 : Int) ≤ z ∧ z ≤ 255))
theorem ty61 {cs : List AV} (h : TyE Tryz.prog 61 cs) : ∃ x : ref09_Part, cs = [.int .i64 x.Outer, .int .i64 x.Args, .int .i64 x.Temps, .sl none (List.map (AV.int .u8) x.Code)] ∧ ok_ref09_Part x := by
 obtain ⟨hl, hf⟩ := tye_struct Tryz.underlying61 (n := 4) (by kernel_rfl) h
 match cs, hl with
 | [c0, c1, c2, c3], _ =>
  have h0 : TyE Tryz.prog 3 [c0] := hf 0 _ 0 1 3 rfl rfl rfl (by kernel_rfl)
  obtain ⟨x0, e0, k0⟩ := ty3 h0
  have h1 : TyE Tryz.prog 3 [c1] := hf 1 _ 1 1 3 rfl rfl rfl (by kernel_rfl)
  obtain ⟨x1, e1, k1⟩ := ty3 h1
  have h2 : TyE Tryz.prog 3 [c2] := hf 2 _ 2 1 3 rfl rfl rfl (by kernel_rfl)
  obtain ⟨x2, e2, k2⟩ := ty3 h2
  have h3 : TyE Tryz.prog 26 [c3] := hf 3 _ 3 1 26 rfl rfl rfl (by kernel_rfl)
  obtain ⟨x3, e3, k3⟩ := ty26 h3
  simp only [List.cons.injEq, and_true] at e0 e1 e2 e3
  obtain rfl := e0
  obtain rfl := e1
  obtain rfl := e2
  obtain rfl := e3
  exact ⟨⟨x0, x1, x2, x3⟩, rfl, k0, k1, k2, k3⟩
theorem ty23 {cs : List AV} (h : TyE Tryz.prog 23 cs) : ∃ x : (List ref09_Part), cs = [.sl none (List.map enc_ref09_Part x)] ∧ (x.length * 48 ≤ 140737488351232 ∧ ∀ z, z ∈ x → ok_ref09_Part z) := by
 obtain ⟨l, h1, h2, h3⟩ := tye_slice Tryz.underlying23 h
 have hs : isStr Tryz.prog 61 = true := by kernel_rfl
 rw [show Tryz.prog.bytesOf 61 = 48 by kernel_rfl] at h2
 obtain ⟨l2, rfl, h4⟩ := list_enc (enc := enc_ref09_Part) (ok := fun z => ok_ref09_Part z) (l := l) fun x hx => by
  obtain ⟨h5, h6⟩ := h3 x hx
  rw [hs] at h6
  obtain ⟨y, e1, k1⟩ := ty61 h5
  obtain ⟨c, rfl⟩ := h6
  refine ⟨y, ?_, k1⟩
  simp only [AV.cells] at e1
  subst e1; rfl
 rw [List.length_map] at h2
 exact ⟨l2, h1, h2, h4⟩
def ok_ref09_Method (x : ref09_Method) : Prop := (x.Sel.length ≤ 140737488351232) ∧ (x.Lits.length * 24 ≤ 140737488351232 ∧ ∀ z, z ∈ x.Lits → ok_ref09_Lit z) ∧ (x.Parts.length * 48 ≤ 140737488351232 ∧ ∀ z, z ∈ x.Parts → ok_ref09_Part z)
theorem ty25 {cs : List AV} (h : TyE Tryz.prog 25 cs) : ∃ x : ref09_Method, cs = [.str x.Sel, .sl none (List.map enc_ref09_Lit x.Lits), .sl none (List.map enc_ref09_Part x.Parts)] ∧ ok_ref09_Method x := by
 obtain ⟨hl, hf⟩ := tye_struct Tryz.underlying25 (n := 3) (by kernel_rfl) h
 match cs, hl with
 | [c0, c1, c2], _ =>
  have h0 : TyE Tryz.prog 9 [c0] := hf 0 _ 0 1 9 rfl rfl rfl (by kernel_rfl)
  obtain ⟨x0, e0, k0⟩ := ty9 h0
  have h1 : TyE Tryz.prog 22 [c1] := hf 1 _ 1 1 22 rfl rfl rfl (by kernel_rfl)
  obtain ⟨x1, e1, k1⟩ := ty22 h1
  have h2 : TyE Tryz.prog 23 [c2] := hf 2 _ 2 1 23 rfl rfl rfl (by kernel_rfl)
  obtain ⟨x2, e2, k2⟩ := ty23 h2
  simp only [List.cons.injEq, and_true] at e0 e1 e2
  obtain rfl := e0
  obtain rfl := e1
  obtain rfl := e2
  exact ⟨⟨x0, x1, x2⟩, rfl, k0, k1, k2⟩
def ok_St53 (x : St53) : Prop := ((0 : Int) ≤ x.e0 ∧ x.e0 ≤ 255) ∧ ((0 : Int) ≤ x.e1 ∧ x.e1 ≤ 255)
theorem ty53 {cs : List AV} (h : TyE Tryz.prog 53 cs) : ∃ x : St53, cs = [.int .u8 x.e0, .int .u8 x.e1] ∧ ok_St53 x := by
 obtain ⟨hl, hf⟩ := tye_arr Tryz.underlying53 Tryz.underlying5 h
 match cs, hl, hf with
 | [c0, c1], _, hf =>
  obtain ⟨x0, rfl, k0⟩ := hf c0 (by simp)
  obtain ⟨x1, rfl, k1⟩ := hf c1 (by simp)
  exact ⟨⟨x0, x1⟩, rfl, k0, k1⟩
theorem args_law09_MethodMore {d : Nat} {avs : List AV} (h : TyAll Tryz.prog d Tryz.f5.params.toList avs) : ∃ (x0 : ref09_Method) (x1 : St53) (x2 : St53), avs = [enc_ref09_Method x0, enc_St53 x1, enc_St53 x2] ∧ ok_ref09_Method x0 ∧ ok_St53 x1 ∧ ok_St53 x2 := by
 rw [show Tryz.f5.params.toList = [25, 53, 53] by kernel_rfl] at h
 match avs, h with
 | [a0, a1, a2], h =>
  obtain ⟨⟨d0, s0⟩, ⟨d1, s1⟩, ⟨d2, s2⟩, _⟩ := h
  rw [show isStr Tryz.prog 25 = true by kernel_rfl] at s0
  obtain ⟨y0, e0, k0⟩ := ty25 ⟨_, d0⟩
  obtain ⟨c0, rfl⟩ := s0
  simp only [AV.cells] at e0
  subst e0
  rw [show isStr Tryz.prog 53 = true by kernel_rfl] at s1
  obtain ⟨y1, e1, k1⟩ := ty53 ⟨_, d1⟩
  obtain ⟨c1, rfl⟩ := s1
  simp only [AV.cells] at e1
  subst e1
  rw [show isStr Tryz.prog 53 = true by kernel_rfl] at s2
  obtain ⟨y2, e2, k2⟩ := ty53 ⟨_, d2⟩
  obtain ⟨c2, rfl⟩ := s2
  simp only [AV.cells] at e2
  subst e2
  exact ⟨y0, y1, y2, rfl, k0, k1, k2⟩
end Go.Cq

