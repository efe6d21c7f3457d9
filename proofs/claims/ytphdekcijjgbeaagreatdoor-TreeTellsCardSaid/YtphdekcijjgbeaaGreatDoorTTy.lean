import Derived.Test.YtphdekcijjgbeaaGreatDoorTEn
import Derived.Test.YtphdekcijjgbeaaGreatDoorRo4
import Derived.KernelRfl
set_option linter.unusedSectionVars false
set_option linter.unusedVariables false
set_option linter.unusedSimpArgs false
set_option linter.unnecessarySimpa false
set_option maxRecDepth 100000
set_option maxHeartbeats 4000000
namespace Go.Cq
open Go Go.Av Go.Proofs
theorem ty9 {cs : List AV} (h : TyE Tryz.prog 9 cs) : ∃ x : Str, cs = [.str x] ∧ (x.length ≤ 140737488351232) := tye_str Tryz.underlying9 h
theorem ty22 {cs : List AV} (h : TyE Tryz.prog 22 cs) : ∃ x : (List Str), cs = [.sl none (List.map AV.str x)] ∧ (x.length * 16 ≤ 140737488351232 ∧ ∀ z, z ∈ x → (z.length ≤ 140737488351232)) := by
 obtain ⟨l, h1, h2, h3⟩ := tye_slice Tryz.underlying22 h
 have hs : isStr Tryz.prog 9 = false := by kernel_rfl
 rw [show Tryz.prog.bytesOf 9 = 16 by kernel_rfl] at h2
 obtain ⟨l2, rfl, h4⟩ := list_enc (enc := AV.str) (ok := fun z => (z.length ≤ 140737488351232)) (l := l) fun x hx => by
  obtain ⟨h5, h6⟩ := h3 x hx
  rw [hs] at h6
  obtain ⟨y, e1, k1⟩ := ty9 h5
  exact ⟨y, one_eq' h6 e1, k1⟩
 rw [List.length_map] at h2
 exact ⟨l2, h1, h2, h4⟩
theorem ty5 {cs : List AV} (h : TyE Tryz.prog 5 cs) : ∃ x : Int, cs = [.int .u8 x] ∧ ((0 : Int) ≤ x ∧ x ≤ 255) := by
 obtain ⟨n, h1, h2, h3⟩ := tye_int Tryz.underlying5 h
 exact ⟨n, h1, h2, h3⟩
theorem ty3 {cs : List AV} (h : TyE Tryz.prog 3 cs) : ∃ x : Int, cs = [.int .i64 x] ∧ ((-9223372036854775808 : Int) ≤ x ∧ x ≤ 9223372036854775807) := by
 obtain ⟨n, h1, h2, h3⟩ := tye_int Tryz.underlying3 h
 exact ⟨n, h1, h2, h3⟩
theorem ty24 {cs : List AV} (h : TyE Tryz.prog 24 cs) : ∃ x : (List Int), cs = [.sl none (List.map (AV.int .i64) x)] ∧ (x.length * 8 ≤ 140737488351232 ∧ ∀ z, z ∈ x → ((-9223372036854775808 : Int) ≤ z ∧ z ≤ 9223372036854775807)) := by
 obtain ⟨l, h1, h2, h3⟩ := tye_slice Tryz.underlying24 h
 have hs : isStr Tryz.prog 3 = false := by kernel_rfl
 rw [show Tryz.prog.bytesOf 3 = 8 by kernel_rfl] at h2
 obtain ⟨l2, rfl, h4⟩ := list_enc (enc := (AV.int .i64)) (ok := fun z => ((-9223372036854775808 : Int) ≤ z ∧ z ≤ 9223372036854775807)) (l := l) fun x hx => by
  obtain ⟨h5, h6⟩ := h3 x hx
  rw [hs] at h6
  obtain ⟨y, e1, k1⟩ := ty3 h5
  exact ⟨y, one_eq' h6 e1, k1⟩
 rw [List.length_map] at h2
 exact ⟨l2, h1, h2, h4⟩
def ok_ref14_Node (x : ref14_Node) : Prop := ((0 : Int) ≤ x.K ∧ x.K ≤ 255) ∧ (x.S.length ≤ 140737488351232) ∧ ((-9223372036854775808 : Int) ≤ x.N ∧ x.N ≤ 9223372036854775807) ∧ (x.L.length * 16 ≤ 140737488351232 ∧ ∀ z, z ∈ x.L → (z.length ≤ 140737488351232)) ∧ (x.Kids.length * 8 ≤ 140737488351232 ∧ ∀ z, z ∈ x.Kids → ((-9223372036854775808 : Int) ≤ z ∧ z ≤ 9223372036854775807))
theorem ty45 {cs : List AV} (h : TyE Tryz.prog 45 cs) : ∃ x : ref14_Node, cs = [.int .u8 x.K, .str x.S, .int .i64 x.N, .sl none (List.map AV.str x.L), .sl none (List.map (AV.int .i64) x.Kids)] ∧ ok_ref14_Node x := by
 obtain ⟨hl, hf⟩ := tye_struct Tryz.underlying45 (n := 5) (by kernel_rfl) h
 match cs, hl with
 | [c0, c1, c2, c3, c4], _ =>
  have h0 : TyE Tryz.prog 5 [c0] := hf 0 _ 0 1 5 rfl rfl rfl (by kernel_rfl)
  obtain ⟨x0, e0, k0⟩ := ty5 h0
  have h1 : TyE Tryz.prog 9 [c1] := hf 1 _ 1 1 9 rfl rfl rfl (by kernel_rfl)
  obtain ⟨x1, e1, k1⟩ := ty9 h1
  have h2 : TyE Tryz.prog 3 [c2] := hf 2 _ 2 1 3 rfl rfl rfl (by kernel_rfl)
  obtain ⟨x2, e2, k2⟩ := ty3 h2
  have h3 : TyE Tryz.prog 22 [c3] := hf 3 _ 3 1 22 rfl rfl rfl (by kernel_rfl)
  obtain ⟨x3, e3, k3⟩ := ty22 h3
  have h4 : TyE Tryz.prog 24 [c4] := hf 4 _ 4 1 24 rfl rfl rfl (by kernel_rfl)
  obtain ⟨x4, e4, k4⟩ := ty24 h4
  simp only [List.cons.injEq, and_true] at e0 e1 e2 e3 e4
  obtain rfl := e0
  obtain rfl := e1
  obtain rfl := e2
  obtain rfl := e3
  obtain rfl := e4
  exact ⟨⟨x0, x1, x2, x3, x4⟩, rfl, k0, k1, k2, k3, k4⟩
theorem ty23 {cs : List AV} (h : TyE Tryz.prog 23 cs) : ∃ x : (List ref14_Node), cs = [.sl none (List.map enc_ref14_Node x)] ∧ (x.length * 80 ≤ 140737488351232 ∧ ∀ z, z ∈ x → ok_ref14_Node z) := by
 obtain ⟨l, h1, h2, h3⟩ := tye_slice Tryz.underlying23 h
 have hs : isStr Tryz.prog 45 = true := by kernel_rfl
 rw [show Tryz.prog.bytesOf 45 = 80 by kernel_rfl] at h2
 obtain ⟨l2, rfl, h4⟩ := list_enc (enc := enc_ref14_Node) (ok := fun z => ok_ref14_Node z) (l := l) fun x hx => by
  obtain ⟨h5, h6⟩ := h3 x hx
  rw [hs] at h6
  obtain ⟨y, e1, k1⟩ := ty45 h5
  obtain ⟨c, rfl⟩ := h6
  refine ⟨y, ?_, k1⟩
  simp only [AV.cells] at e1
  subst e1; rfl
 rw [List.length_map] at h2
 exact ⟨l2, h1, h2, h4⟩
def ok_ref14_Method (x : ref14_Method) : Prop := (x.Sel.length ≤ 140737488351232) ∧ (x.Args.length * 16 ≤ 140737488351232 ∧ ∀ z, z ∈ x.Args → (z.length ≤ 140737488351232)) ∧ (x.Temps.length * 16 ≤ 140737488351232 ∧ ∀ z, z ∈ x.Temps → (z.length ≤ 140737488351232)) ∧ (x.Nodes.length * 80 ≤ 140737488351232 ∧ ∀ z, z ∈ x.Nodes → ok_ref14_Node z) ∧ (x.Body.length * 8 ≤ 140737488351232 ∧ ∀ z, z ∈ x.Body → ((-9223372036854775808 : Int) ≤ z ∧ z ≤ 9223372036854775807))
theorem ty26 {cs : List AV} (h : TyE Tryz.prog 26 cs) : ∃ x : ref14_Method, cs = [.str x.Sel, .sl none (List.map AV.str x.Args), .sl none (List.map AV.str x.Temps), .sl none (List.map enc_ref14_Node x.Nodes), .sl none (List.map (AV.int .i64) x.Body)] ∧ ok_ref14_Method x := by
 obtain ⟨hl, hf⟩ := tye_struct Tryz.underlying26 (n := 5) (by kernel_rfl) h
 match cs, hl with
 | [c0, c1, c2, c3, c4], _ =>
  have h0 : TyE Tryz.prog 9 [c0] := hf 0 _ 0 1 9 rfl rfl rfl (by kernel_rfl)
  obtain ⟨x0, e0, k0⟩ := ty9 h0
  have h1 : TyE Tryz.prog 22 [c1] := hf 1 _ 1 1 22 rfl rfl rfl (by kernel_rfl)
  obtain ⟨x1, e1, k1⟩ := ty22 h1
  have h2 : TyE Tryz.prog 22 [c2] := hf 2 _ 2 1 22 rfl rfl rfl (by kernel_rfl)
  obtain ⟨x2, e2, k2⟩ := ty22 h2
  have h3 : TyE Tryz.prog 23 [c3] := hf 3 _ 3 1 23 rfl rfl rfl (by kernel_rfl)
  obtain ⟨x3, e3, k3⟩ := ty23 h3
  have h4 : TyE Tryz.prog 24 [c4] := hf 4 _ 4 1 24 rfl rfl rfl (by kernel_rfl)
  obtain ⟨x4, e4, k4⟩ := ty24 h4
  simp only [List.cons.injEq, and_true] at e0 e1 e2 e3 e4
  obtain rfl := e0
  obtain rfl := e1
  obtain rfl := e2
  obtain rfl := e3
  obtain rfl := e4
  exact ⟨⟨x0, x1, x2, x3, x4⟩, rfl, k0, k1, k2, k3, k4⟩
theorem args_law14_TreeTells {d : Nat} {avs : List AV} (h : TyAll Tryz.prog d Tryz.f3.params.toList avs) : ∃ (x0 : ref14_Method) (x1 : ref14_Method), avs = [enc_ref14_Method x0, enc_ref14_Method x1] ∧ ok_ref14_Method x0 ∧ ok_ref14_Method x1 := by
 rw [show Tryz.f3.params.toList = [26, 26] by kernel_rfl] at h
 match avs, h with
 | [a0, a1], h =>
  obtain ⟨⟨d0, s0⟩, ⟨d1, s1⟩, _⟩ := h
  rw [show isStr Tryz.prog 26 = true by kernel_rfl] at s0
  obtain ⟨y0, e0, k0⟩ := ty26 ⟨_, d0⟩
  obtain ⟨c0, rfl⟩ := s0
  simp only [AV.cells] at e0
  subst e0
  rw [show isStr Tryz.prog 26 = true by kernel_rfl] at s1
  obtain ⟨y1, e1, k1⟩ := ty26 ⟨_, d1⟩
  obtain ⟨c1, rfl⟩ := s1
  simp only [AV.cells] at e1
  subst e1
  exact ⟨y0, y1, rfl, k0, k1⟩
end Go.Cq

