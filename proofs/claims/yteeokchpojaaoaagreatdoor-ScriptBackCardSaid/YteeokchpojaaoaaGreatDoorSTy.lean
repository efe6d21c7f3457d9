import Derived.Test.YteeokchpojaaoaaGreatDoorSEn
import Derived.Test.YteeokchpojaaoaaGreatDoorRo4
import Derived.KernelRfl
set_option linter.unusedSectionVars false
set_option linter.unusedVariables false
set_option linter.unusedSimpArgs false
set_option linter.unusedVariables false
set_option linter.unusedSimpArgs false
set_option maxRecDepth 100000
set_option maxHeartbeats 4000000
set_option pp.maxSteps 400
namespace Go.Cq
open Go Go.Av Go.Proofs
theorem ty9 {cs : List AV} (h : TyE Tryz.prog 9 cs) : ∃ x : Str, cs = [.str x] ∧ (x.length ≤ 140737488351232) := tye_str Tryz.underlying9 h
theorem args_law30_ScriptReads {d : Nat} {avs : List AV} (h : TyAll Tryz.prog d Tryz.f3.params.toList avs) : ∃ (x0 : Str), avs = [.str x0] ∧ (x0.length ≤ 140737488351232) := by
  rw [show Tryz.f3.params.toList = [9] by kernel_rfl] at h
  match avs, h with
  | [a0], h =>
    obtain ⟨⟨d0, s0⟩, _⟩ := h
    rw [show isStr Tryz.prog 9 = false by kernel_rfl] at s0
    obtain ⟨y0, e0, k0⟩ := ty9 ⟨_, d0⟩
    obtain rfl := one_eq' s0 e0
    exact ⟨y0, rfl, k0⟩
theorem ty3 {cs : List AV} (h : TyE Tryz.prog 3 cs) : ∃ x : Int, cs = [.int .i64 x] ∧ ((-9223372036854775808 : Int) ≤ x ∧ x ≤ 9223372036854775807) := by
  obtain ⟨n, h1, h2, h3⟩ := tye_int Tryz.underlying3 h
  exact ⟨n, h1, h2, h3⟩
theorem ty33 {cs : List AV} (h : TyE Tryz.prog 33 cs) : ∃ x : (List Int), cs = [.sl none (List.map (AV.int .i64) x)] ∧ (x.length * 8 ≤ 140737488351232 ∧ ∀ z, z ∈ x → ((-9223372036854775808 : Int) ≤ z ∧ z ≤ 9223372036854775807)) := by
  obtain ⟨l, h1, h2, h3⟩ := tye_slice Tryz.underlying33 h
  have hs : isStr Tryz.prog 3 = false := by kernel_rfl
  rw [show Tryz.prog.bytesOf 3 = 8 by kernel_rfl] at h2
  obtain ⟨l2, rfl, h4⟩ := list_enc (enc := (AV.int .i64)) (ok := fun z => ((-9223372036854775808 : Int) ≤ z ∧ z ≤ 9223372036854775807)) (l := l) fun x hx => by
    obtain ⟨h5, h6⟩ := h3 x hx
    rw [hs] at h6
    obtain ⟨y, e1, k1⟩ := ty3 h5
    exact ⟨y, one_eq' h6 e1, k1⟩
  rw [List.length_map] at h2
  exact ⟨l2, h1, h2, h4⟩
theorem ty5 {cs : List AV} (h : TyE Tryz.prog 5 cs) : ∃ x : Int, cs = [.int .u8 x] ∧ ((0 : Int) ≤ x ∧ x ≤ 255) := by
  obtain ⟨n, h1, h2, h3⟩ := tye_int Tryz.underlying5 h
  exact ⟨n, h1, h2, h3⟩
def ok_ref11_Val (x : ref11_Val) : Prop := ((0 : Int) ≤ x.K ∧ x.K ≤ 255) ∧ ((-9223372036854775808 : Int) ≤ x.N ∧ x.N ≤ 9223372036854775807) ∧ ((-9223372036854775808 : Int) ≤ x.L ∧ x.L ≤ 9223372036854775807)
theorem ty43 {cs : List AV} (h : TyE Tryz.prog 43 cs) : ∃ x : ref11_Val, cs = [.int .u8 x.K, .int .i64 x.N, .int .i64 x.L] ∧ ok_ref11_Val x := by
  obtain ⟨hl, hf⟩ := tye_struct Tryz.underlying43 (n := 3) (by kernel_rfl) h
  match cs, hl with
  | [c0, c1, c2], _ =>
    have h0 : TyE Tryz.prog 5 [c0] := hf 0 _ 0 1 5 rfl rfl rfl (by kernel_rfl)
    obtain ⟨x0, e0, k0⟩ := ty5 h0
    have h1 : TyE Tryz.prog 3 [c1] := hf 1 _ 1 1 3 rfl rfl rfl (by kernel_rfl)
    obtain ⟨x1, e1, k1⟩ := ty3 h1
    have h2 : TyE Tryz.prog 3 [c2] := hf 2 _ 2 1 3 rfl rfl rfl (by kernel_rfl)
    obtain ⟨x2, e2, k2⟩ := ty3 h2
    simp only [List.cons.injEq, and_true] at e0 e1 e2
    obtain rfl := e0
    obtain rfl := e1
    obtain rfl := e2
    exact ⟨⟨x0, x1, x2⟩, rfl, k0, k1, k2⟩
theorem ty38 {cs : List AV} (h : TyE Tryz.prog 38 cs) : ∃ x : (List ref11_Val), cs = [.sl none (List.map enc_ref11_Val x)] ∧ (x.length * 24 ≤ 140737488351232 ∧ ∀ z, z ∈ x → ok_ref11_Val z) := by
  obtain ⟨l, h1, h2, h3⟩ := tye_slice Tryz.underlying38 h
  have hs : isStr Tryz.prog 43 = true := by kernel_rfl
  rw [show Tryz.prog.bytesOf 43 = 24 by kernel_rfl] at h2
  obtain ⟨l2, rfl, h4⟩ := list_enc (enc := enc_ref11_Val) (ok := fun z => ok_ref11_Val z) (l := l) fun x hx => by
    obtain ⟨h5, h6⟩ := h3 x hx
    rw [hs] at h6
    obtain ⟨y, e1, k1⟩ := ty43 h5
    obtain ⟨c, rfl⟩ := h6
    refine ⟨y, ?_, k1⟩
    simp only [AV.cells] at e1
    subst e1; rfl
  rw [List.length_map] at h2
  exact ⟨l2, h1, h2, h4⟩
def ok_ref30_Command (x : ref30_Command) : Prop := (x.Name.length ≤ 140737488351232) ∧ (x.N.length * 8 ≤ 140737488351232 ∧ ∀ z, z ∈ x.N → ((-9223372036854775808 : Int) ≤ z ∧ z ≤ 9223372036854775807)) ∧ (x.V.length * 24 ≤ 140737488351232 ∧ ∀ z, z ∈ x.V → ok_ref11_Val z) ∧ (x.W.length ≤ 140737488351232) ∧ (x.S.length ≤ 140737488351232)
theorem ty40 {cs : List AV} (h : TyE Tryz.prog 40 cs) : ∃ x : ref30_Command, cs = [.str x.Name, .sl none (List.map (AV.int .i64) x.N), .sl none (List.map enc_ref11_Val x.V), .str x.W, .str x.S] ∧ ok_ref30_Command x := by
  obtain ⟨hl, hf⟩ := tye_struct Tryz.underlying40 (n := 5) (by kernel_rfl) h
  match cs, hl with
  | [c0, c1, c2, c3, c4], _ =>
    have h0 : TyE Tryz.prog 9 [c0] := hf 0 _ 0 1 9 rfl rfl rfl (by kernel_rfl)
    obtain ⟨x0, e0, k0⟩ := ty9 h0
    have h1 : TyE Tryz.prog 33 [c1] := hf 1 _ 1 1 33 rfl rfl rfl (by kernel_rfl)
    obtain ⟨x1, e1, k1⟩ := ty33 h1
    have h2 : TyE Tryz.prog 38 [c2] := hf 2 _ 2 1 38 rfl rfl rfl (by kernel_rfl)
    obtain ⟨x2, e2, k2⟩ := ty38 h2
    have h3 : TyE Tryz.prog 9 [c3] := hf 3 _ 3 1 9 rfl rfl rfl (by kernel_rfl)
    obtain ⟨x3, e3, k3⟩ := ty9 h3
    have h4 : TyE Tryz.prog 9 [c4] := hf 4 _ 4 1 9 rfl rfl rfl (by kernel_rfl)
    obtain ⟨x4, e4, k4⟩ := ty9 h4
    simp only [List.cons.injEq, and_true] at e0 e1 e2 e3 e4
    obtain rfl := e0
    obtain rfl := e1
    obtain rfl := e2
    obtain rfl := e3
    obtain rfl := e4
    exact ⟨⟨x0, x1, x2, x3, x4⟩, rfl, k0, k1, k2, k3, k4⟩
theorem args_law30_ScriptWrites {d : Nat} {avs : List AV} (h : TyAll Tryz.prog d Tryz.f4.params.toList avs) : ∃ (x0 : ref30_Command) (x1 : ref11_Val), avs = [enc_ref30_Command x0, enc_ref11_Val x1] ∧ ok_ref30_Command x0 ∧ ok_ref11_Val x1 := by
  rw [show Tryz.f4.params.toList = [40, 43] by kernel_rfl] at h
  match avs, h with
  | [a0, a1], h =>
    obtain ⟨⟨d0, s0⟩, ⟨d1, s1⟩, _⟩ := h
    rw [show isStr Tryz.prog 40 = true by kernel_rfl] at s0
    obtain ⟨y0, e0, k0⟩ := ty40 ⟨_, d0⟩
    obtain ⟨c0, rfl⟩ := s0
    simp only [AV.cells] at e0
    subst e0
    rw [show isStr Tryz.prog 43 = true by kernel_rfl] at s1
    obtain ⟨y1, e1, k1⟩ := ty43 ⟨_, d1⟩
    obtain ⟨c1, rfl⟩ := s1
    simp only [AV.cells] at e1
    subst e1
    exact ⟨y0, y1, rfl, k0, k1⟩
theorem ty28 {cs : List AV} (h : TyE Tryz.prog 28 cs) : ∃ x : (List ref30_Command), cs = [.sl none (List.map enc_ref30_Command x)] ∧ (x.length * 96 ≤ 140737488351232 ∧ ∀ z, z ∈ x → ok_ref30_Command z) := by
  obtain ⟨l, h1, h2, h3⟩ := tye_slice Tryz.underlying28 h
  have hs : isStr Tryz.prog 40 = true := by kernel_rfl
  rw [show Tryz.prog.bytesOf 40 = 96 by kernel_rfl] at h2
  obtain ⟨l2, rfl, h4⟩ := list_enc (enc := enc_ref30_Command) (ok := fun z => ok_ref30_Command z) (l := l) fun x hx => by
    obtain ⟨h5, h6⟩ := h3 x hx
    rw [hs] at h6
    obtain ⟨y, e1, k1⟩ := ty40 h5
    obtain ⟨c, rfl⟩ := h6
    refine ⟨y, ?_, k1⟩
    simp only [AV.cells] at e1
    subst e1; rfl
  rw [List.length_map] at h2
  exact ⟨l2, h1, h2, h4⟩
theorem args_law30_ScriptBack {d : Nat} {avs : List AV} (h : TyAll Tryz.prog d Tryz.f5.params.toList avs) : ∃ (x0 : (List ref30_Command)) (x1 : Str), avs = [.sl none (List.map enc_ref30_Command x0), .str x1] ∧ (x0.length * 96 ≤ 140737488351232 ∧ ∀ z, z ∈ x0 → ok_ref30_Command z) ∧ (x1.length ≤ 140737488351232) := by
  rw [show Tryz.f5.params.toList = [28, 9] by kernel_rfl] at h
  match avs, h with
  | [a0, a1], h =>
    obtain ⟨⟨d0, s0⟩, ⟨d1, s1⟩, _⟩ := h
    rw [show isStr Tryz.prog 28 = false by kernel_rfl] at s0
    obtain ⟨y0, e0, k0⟩ := ty28 ⟨_, d0⟩
    obtain rfl := one_eq' s0 e0
    rw [show isStr Tryz.prog 9 = false by kernel_rfl] at s1
    obtain ⟨y1, e1, k1⟩ := ty9 ⟨_, d1⟩
    obtain rfl := one_eq' s1 e1
    exact ⟨y0, y1, rfl, k0, k1⟩
end Go.Cq

