import Derived.Test.YtiboeelbmgnbgaaGreatDoorEnc
import Derived.Test.YtiboeelbmgnbgaaGreatDoorRo4
import Derived.KernelRfl
set_option linter.unusedSectionVars false
set_option linter.unusedVariables false
set_option linter.unusedSimpArgs false
set_option linter.unnecessarySimpa false
set_option maxRecDepth 100000
set_option maxHeartbeats 4000000
namespace Go.Cq
open Go Go.Av Go.Proofs
theorem ty9 {cs : List AV} (h : TyE Tryz.prog 9 cs) : ∃ x : Str, cs = [.str x] ∧ (x.length ≤ 140737488351232) := tye_str Tryz.underlying9 h
theorem ty22 {cs : List AV} (h : TyE Tryz.prog 22 cs) : ∃ x : (List Str), cs = [.sl none (List.map AV.str x)] ∧ (x.length * 16 ≤ 140737488351232 ∧ ∀ z, z ∈ x → (z.length ≤ 140737488351232)) := by
 obtain ⟨l, h1, h2, h3⟩ := zF2 Tryz.underlying22 h
 have hs : zF8 Tryz.prog 9 = false := by kernel_rfl
 rw [show Tryz.prog.bytesOf 9 = 16 by kernel_rfl] at h2
 obtain ⟨l2, rfl, h4⟩ := zGi (enc := AV.str) (ok := fun z => (z.length ≤ 140737488351232)) (l := l) fun x hx => by
  obtain ⟨h5, h6⟩ := h3 x hx
  rw [hs] at h6
  obtain ⟨y, e1, k1⟩ := ty9 h5
  exact ⟨y, zMm h6 e1, k1⟩
 rw [List.length_map] at h2
 exact ⟨l2, h1, h2, h4⟩
theorem ty5 {cs : List AV} (h : TyE Tryz.prog 5 cs) : ∃ x : Int, cs = [.int .u8 x] ∧ ((0 : Int) ≤ x ∧ x ≤ 255) := by
 obtain ⟨n, h1, h2, h3⟩ := zRd Tryz.underlying5 h
 exact ⟨n, h1, h2, h3⟩
theorem ty3 {cs : List AV} (h : TyE Tryz.prog 3 cs) : ∃ x : Int, cs = [.int .i64 x] ∧ ((-9223372036854775808 : Int) ≤ x ∧ x ≤ 9223372036854775807) := by
 obtain ⟨n, h1, h2, h3⟩ := zRd Tryz.underlying3 h
 exact ⟨n, h1, h2, h3⟩
theorem ty24 {cs : List AV} (h : TyE Tryz.prog 24 cs) : ∃ x : (List Int), cs = [.sl none (List.map (AV.int .i64) x)] ∧ (x.length * 8 ≤ 140737488351232 ∧ ∀ z, z ∈ x → ((-9223372036854775808 : Int) ≤ z ∧ z ≤ 9223372036854775807)) := by
 obtain ⟨l, h1, h2, h3⟩ := zF2 Tryz.underlying24 h
 have hs : zF8 Tryz.prog 3 = false := by kernel_rfl
 rw [show Tryz.prog.bytesOf 3 = 8 by kernel_rfl] at h2
 obtain ⟨l2, rfl, h4⟩ := zGi (enc := (AV.int .i64)) (ok := fun z => ((-9223372036854775808 : Int) ≤ z ∧ z ≤ 9223372036854775807)) (l := l) fun x hx => by
  obtain ⟨h5, h6⟩ := h3 x hx
  rw [hs] at h6
  obtain ⟨y, e1, k1⟩ := ty3 h5
  exact ⟨y, zMm h6 e1, k1⟩
 rw [List.length_map] at h2
 exact ⟨l2, h1, h2, h4⟩
def zNE (x : rNd) : Prop := ((0 : Int) ≤ x.K ∧ x.K ≤ 255) ∧ (x.S.length ≤ 140737488351232) ∧ ((-9223372036854775808 : Int) ≤ x.N ∧ x.N ≤ 9223372036854775807) ∧ (x.L.length * 16 ≤ 140737488351232 ∧ ∀ z, z ∈ x.L → (z.length ≤ 140737488351232)) ∧ (x.Kids.length * 8 ≤ 140737488351232 ∧ ∀ z, z ∈ x.Kids → ((-9223372036854775808 : Int) ≤ z ∧ z ≤ 9223372036854775807))
theorem ty78 {cs : List AV} (h : TyE Tryz.prog 78 cs) : ∃ x : rNd, cs = [.int .u8 x.K, .str x.S, .int .i64 x.N, .sl none (List.map AV.str x.L), .sl none (List.map (AV.int .i64) x.Kids)] ∧ zNE x := by
 obtain ⟨hl, hf⟩ := zHD Tryz.underlying78 (n := 5) (by kernel_rfl) h
 match cs, hl with
 | [c0, c1, c2, c3, c4], _ =>
  have h0 : TyE Tryz.prog 5 [c0] := hf 0 _ 0 1 5 rfl rfl rfl (by kernel_rfl)
  obtain ⟨x0, e0, k0⟩ := ty5 h0
  have h1 : TyE Tryz.prog 9 [c1] := hf 1 _ 1 1 9 rfl rfl rfl (by kernel_rfl)
  obtain ⟨x1, e1, k1⟩ := ty9 h1
  have h2 : TyE Tryz.prog 3 [c2] := hf 2 _ 2 1 3 rfl rfl rfl (by kernel_rfl)
  obtain ⟨x2, e2, k2⟩ := ty3 h2
  have h3 : TyE Tryz.prog 22 [c3] := hf 3 _ 3 1 22 rfl rfl rfl (by kernel_rfl)
  obtain ⟨x3, e3, k3⟩ := ty22 h3
  have h4 : TyE Tryz.prog 24 [c4] := hf 4 _ 4 1 24 rfl rfl rfl (by kernel_rfl)
  obtain ⟨x4, e4, k4⟩ := ty24 h4
  simp only [List.cons.injEq, and_true] at e0 e1 e2 e3 e4
  obtain rfl := e0
  obtain rfl := e1
  obtain rfl := e2
  obtain rfl := e3
  obtain rfl := e4
  exact ⟨⟨x0, x1, x2, x3, x4⟩, rfl, k0, k1, k2, k3, k4⟩
theorem ty23 {cs : List AV} (h : TyE Tryz.prog 23 cs) : ∃ x : (List rNd), cs = [.sl none (List.map zCk x)] ∧ (x.length * 80 ≤ 140737488351232 ∧ ∀ z, z ∈ x → zNE z) := by
 obtain ⟨l, h1, h2, h3⟩ := zF2 Tryz.underlying23 h
 have hs : zF8 Tryz.prog 78 = true := by kernel_rfl
 rw [show Tryz.prog.bytesOf 78 = 80 by kernel_rfl] at h2
 obtain ⟨l2, rfl, h4⟩ := zGi (enc := zCk) (ok := fun z => zNE z) (l := l) fun x hx => by
  obtain ⟨h5, h6⟩ := h3 x hx
  rw [hs] at h6
  obtain ⟨y, e1, k1⟩ := ty78 h5
  obtain ⟨c, rfl⟩ := h6
  refine ⟨y, ?_, k1⟩
  simp only [AV.cells] at e1
  subst e1; rfl
 rw [List.length_map] at h2
 exact ⟨l2, h1, h2, h4⟩
def zNA (x : rMt) : Prop := (x.Sel.length ≤ 140737488351232) ∧ (x.Args.length * 16 ≤ 140737488351232 ∧ ∀ z, z ∈ x.Args → (z.length ≤ 140737488351232)) ∧ (x.Temps.length * 16 ≤ 140737488351232 ∧ ∀ z, z ∈ x.Temps → (z.length ≤ 140737488351232)) ∧ (x.Nodes.length * 80 ≤ 140737488351232 ∧ ∀ z, z ∈ x.Nodes → zNE z) ∧ (x.Body.length * 8 ≤ 140737488351232 ∧ ∀ z, z ∈ x.Body → ((-9223372036854775808 : Int) ≤ z ∧ z ≤ 9223372036854775807))
theorem ty26 {cs : List AV} (h : TyE Tryz.prog 26 cs) : ∃ x : rMt, cs = [.str x.Sel, .sl none (List.map AV.str x.Args), .sl none (List.map AV.str x.Temps), .sl none (List.map zCk x.Nodes), .sl none (List.map (AV.int .i64) x.Body)] ∧ zNA x := by
 obtain ⟨hl, hf⟩ := zHD Tryz.underlying26 (n := 5) (by kernel_rfl) h
 match cs, hl with
 | [c0, c1, c2, c3, c4], _ =>
  have h0 : TyE Tryz.prog 9 [c0] := hf 0 _ 0 1 9 rfl rfl rfl (by kernel_rfl)
  obtain ⟨x0, e0, k0⟩ := ty9 h0
  have h1 : TyE Tryz.prog 22 [c1] := hf 1 _ 1 1 22 rfl rfl rfl (by kernel_rfl)
  obtain ⟨x1, e1, k1⟩ := ty22 h1
  have h2 : TyE Tryz.prog 22 [c2] := hf 2 _ 2 1 22 rfl rfl rfl (by kernel_rfl)
  obtain ⟨x2, e2, k2⟩ := ty22 h2
  have h3 : TyE Tryz.prog 23 [c3] := hf 3 _ 3 1 23 rfl rfl rfl (by kernel_rfl)
  obtain ⟨x3, e3, k3⟩ := ty23 h3
  have h4 : TyE Tryz.prog 24 [c4] := hf 4 _ 4 1 24 rfl rfl rfl (by kernel_rfl)
  obtain ⟨x4, e4, k4⟩ := ty24 h4
  simp only [List.cons.injEq, and_true] at e0 e1 e2 e3 e4
  obtain rfl := e0
  obtain rfl := e1
  obtain rfl := e2
  obtain rfl := e3
  obtain rfl := e4
  exact ⟨⟨x0, x1, x2, x3, x4⟩, rfl, k0, k1, k2, k3, k4⟩
theorem ty52 {cs : List AV} (h : TyE Tryz.prog 52 cs) : ∃ x : (List rMt), cs = [.sl none (List.map zBT x)] ∧ (x.length * 112 ≤ 140737488351232 ∧ ∀ z, z ∈ x → zNA z) := by
 obtain ⟨l, h1, h2, h3⟩ := zF2 Tryz.underlying52 h
 have hs : zF8 Tryz.prog 26 = true := by kernel_rfl
 rw [show Tryz.prog.bytesOf 26 = 112 by kernel_rfl] at h2
 obtain ⟨l2, rfl, h4⟩ := zGi (enc := zBT) (ok := fun z => zNA z) (l := l) fun x hx => by
  obtain ⟨h5, h6⟩ := h3 x hx
  rw [hs] at h6
  obtain ⟨y, e1, k1⟩ := ty26 h5
  obtain ⟨c, rfl⟩ := h6
  refine ⟨y, ?_, k1⟩
  simp only [AV.cells] at e1
  subst e1; rfl
 rw [List.length_map] at h2
 exact ⟨l2, h1, h2, h4⟩
def zNn (x : rCl) : Prop := (x.Name.length ≤ 140737488351232) ∧ (x.Super.length ≤ 140737488351232) ∧ (x.Vars.length * 16 ≤ 140737488351232 ∧ ∀ z, z ∈ x.Vars → (z.length ≤ 140737488351232)) ∧ (x.Methods.length * 112 ≤ 140737488351232 ∧ ∀ z, z ∈ x.Methods → zNA z)
theorem ty54 {cs : List AV} (h : TyE Tryz.prog 54 cs) : ∃ x : rCl, cs = [.str x.Name, .str x.Super, .sl none (List.map AV.str x.Vars), .sl none (List.map zBT x.Methods)] ∧ zNn x := by
 obtain ⟨hl, hf⟩ := zHD Tryz.underlying54 (n := 4) (by kernel_rfl) h
 match cs, hl with
 | [c0, c1, c2, c3], _ =>
  have h0 : TyE Tryz.prog 9 [c0] := hf 0 _ 0 1 9 rfl rfl rfl (by kernel_rfl)
  obtain ⟨x0, e0, k0⟩ := ty9 h0
  have h1 : TyE Tryz.prog 9 [c1] := hf 1 _ 1 1 9 rfl rfl rfl (by kernel_rfl)
  obtain ⟨x1, e1, k1⟩ := ty9 h1
  have h2 : TyE Tryz.prog 22 [c2] := hf 2 _ 2 1 22 rfl rfl rfl (by kernel_rfl)
  obtain ⟨x2, e2, k2⟩ := ty22 h2
  have h3 : TyE Tryz.prog 52 [c3] := hf 3 _ 3 1 52 rfl rfl rfl (by kernel_rfl)
  obtain ⟨x3, e3, k3⟩ := ty52 h3
  simp only [List.cons.injEq, and_true] at e0 e1 e2 e3
  obtain rfl := e0
  obtain rfl := e1
  obtain rfl := e2
  obtain rfl := e3
  exact ⟨⟨x0, x1, x2, x3⟩, rfl, k0, k1, k2, k3⟩
theorem ty40 {cs : List AV} (h : TyE Tryz.prog 40 cs) : ∃ x : (List rCl), cs = [.sl none (List.map zAV x)] ∧ (x.length * 80 ≤ 140737488351232 ∧ ∀ z, z ∈ x → zNn z) := by
 obtain ⟨l, h1, h2, h3⟩ := zF2 Tryz.underlying40 h
 have hs : zF8 Tryz.prog 54 = true := by kernel_rfl
 rw [show Tryz.prog.bytesOf 54 = 80 by kernel_rfl] at h2
 obtain ⟨l2, rfl, h4⟩ := zGi (enc := zAV) (ok := fun z => zNn z) (l := l) fun x hx => by
  obtain ⟨h5, h6⟩ := h3 x hx
  rw [hs] at h6
  obtain ⟨y, e1, k1⟩ := ty54 h5
  obtain ⟨c, rfl⟩ := h6
  refine ⟨y, ?_, k1⟩
  simp only [AV.cells] at e1
  subst e1; rfl
 rw [List.length_map] at h2
 exact ⟨l2, h1, h2, h4⟩
theorem zFs {d : Nat} {avs : List AV} (h : zLM Tryz.prog d Tryz.f4.params.toList avs) : ∃ (x0 : (List rCl)), avs = [.sl none (List.map zAV x0)] ∧ (x0.length * 80 ≤ 140737488351232 ∧ ∀ z, z ∈ x0 → zNn z) := by
 rw [show Tryz.f4.params.toList = [40] by kernel_rfl] at h
 match avs, h with
 | [a0], h =>
  obtain ⟨⟨d0, s0⟩, _⟩ := h
  rw [show zF8 Tryz.prog 40 = false by kernel_rfl] at s0
  obtain ⟨y0, e0, k0⟩ := ty40 ⟨_, d0⟩
  obtain rfl := zMm s0 e0
  exact ⟨y0, rfl, k0⟩
end Go.Cq

