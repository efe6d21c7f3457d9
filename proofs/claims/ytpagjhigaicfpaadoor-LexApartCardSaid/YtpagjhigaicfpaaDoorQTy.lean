import Derived.Test.YtpagjhigaicfpaaDoorQEn
import Derived.Test.YtpagjhigaicfpaaDoorRo4
import Derived.KernelRfl
set_option linter.unusedSectionVars false
set_option linter.unusedVariables false
set_option linter.unusedSimpArgs false
set_option linter.unusedVariables false
set_option linter.unusedSimpArgs false
set_option maxRecDepth 100000
set_option maxHeartbeats 4000000
set_option pp.maxSteps 400
namespace Go.Cq
open Go Go.Av Go.Proofs
theorem ty9 {cs : List AV} (h : TyE Tryd.prog 9 cs) : ∃ x : Str, cs = [.str x] ∧ (x.length ≤ 140737488351232) := tye_str Tryd.underlying9 h
theorem args_law13_LexReads {d : Nat} {avs : List AV} (h : TyAll Tryd.prog d Tryd.f3.params.toList avs) : ∃ (x0 : Str), avs = [.str x0] ∧ (x0.length ≤ 140737488351232) := by
  rw [show Tryd.f3.params.toList = [9] by kernel_rfl] at h
  match avs, h with
  | [a0], h =>
    obtain ⟨⟨d0, s0⟩, _⟩ := h
    rw [show isStr Tryd.prog 9 = false by kernel_rfl] at s0
    obtain ⟨y0, e0, k0⟩ := ty9 ⟨_, d0⟩
    obtain rfl := one_eq' s0 e0
    exact ⟨y0, rfl, k0⟩
theorem ty5 {cs : List AV} (h : TyE Tryd.prog 5 cs) : ∃ x : Int, cs = [.int .u8 x] ∧ ((0 : Int) ≤ x ∧ x ≤ 255) := by
  obtain ⟨n, h1, h2, h3⟩ := tye_int Tryd.underlying5 h
  exact ⟨n, h1, h2, h3⟩
theorem ty3 {cs : List AV} (h : TyE Tryd.prog 3 cs) : ∃ x : Int, cs = [.int .i64 x] ∧ ((-9223372036854775808 : Int) ≤ x ∧ x ≤ 9223372036854775807) := by
  obtain ⟨n, h1, h2, h3⟩ := tye_int Tryd.underlying3 h
  exact ⟨n, h1, h2, h3⟩
def ok_ref13_Word (x : ref13_Word) : Prop := ((0 : Int) ≤ x.K ∧ x.K ≤ 255) ∧ (x.S.length ≤ 140737488351232) ∧ ((-9223372036854775808 : Int) ≤ x.At ∧ x.At ≤ 9223372036854775807)
theorem ty35 {cs : List AV} (h : TyE Tryd.prog 35 cs) : ∃ x : ref13_Word, cs = [.int .u8 x.K, .str x.S, .int .i64 x.At] ∧ ok_ref13_Word x := by
  obtain ⟨hl, hf⟩ := tye_struct Tryd.underlying35 (n := 3) (by kernel_rfl) h
  match cs, hl with
  | [c0, c1, c2], _ =>
    have h0 : TyE Tryd.prog 5 [c0] := hf 0 _ 0 1 5 rfl rfl rfl (by kernel_rfl)
    obtain ⟨x0, e0, k0⟩ := ty5 h0
    have h1 : TyE Tryd.prog 9 [c1] := hf 1 _ 1 1 9 rfl rfl rfl (by kernel_rfl)
    obtain ⟨x1, e1, k1⟩ := ty9 h1
    have h2 : TyE Tryd.prog 3 [c2] := hf 2 _ 2 1 3 rfl rfl rfl (by kernel_rfl)
    obtain ⟨x2, e2, k2⟩ := ty3 h2
    simp only [List.cons.injEq, and_true] at e0 e1 e2
    obtain rfl := e0
    obtain rfl := e1
    obtain rfl := e2
    exact ⟨⟨x0, x1, x2⟩, rfl, k0, k1, k2⟩
theorem ty28 {cs : List AV} (h : TyE Tryd.prog 28 cs) : ∃ x : (List ref13_Word), cs = [.sl none (List.map enc_ref13_Word x)] ∧ (x.length * 32 ≤ 140737488351232 ∧ ∀ z, z ∈ x → ok_ref13_Word z) := by
  obtain ⟨l, h1, h2, h3⟩ := tye_slice Tryd.underlying28 h
  have hs : isStr Tryd.prog 35 = true := by kernel_rfl
  rw [show Tryd.prog.bytesOf 35 = 32 by kernel_rfl] at h2
  obtain ⟨l2, rfl, h4⟩ := list_enc (enc := enc_ref13_Word) (ok := fun z => ok_ref13_Word z) (l := l) fun x hx => by
    obtain ⟨h5, h6⟩ := h3 x hx
    rw [hs] at h6
    obtain ⟨y, e1, k1⟩ := ty35 h5
    obtain ⟨c, rfl⟩ := h6
    refine ⟨y, ?_, k1⟩
    simp only [AV.cells] at e1
    subst e1; rfl
  rw [List.length_map] at h2
  exact ⟨l2, h1, h2, h4⟩
theorem args_law13_LexWrites {d : Nat} {avs : List AV} (h : TyAll Tryd.prog d Tryd.f4.params.toList avs) : ∃ (x0 : (List ref13_Word)), avs = [.sl none (List.map enc_ref13_Word x0)] ∧ (x0.length * 32 ≤ 140737488351232 ∧ ∀ z, z ∈ x0 → ok_ref13_Word z) := by
  rw [show Tryd.f4.params.toList = [28] by kernel_rfl] at h
  match avs, h with
  | [a0], h =>
    obtain ⟨⟨d0, s0⟩, _⟩ := h
    rw [show isStr Tryd.prog 28 = false by kernel_rfl] at s0
    obtain ⟨y0, e0, k0⟩ := ty28 ⟨_, d0⟩
    obtain rfl := one_eq' s0 e0
    exact ⟨y0, rfl, k0⟩
theorem args_law13_LexBack {d : Nat} {avs : List AV} (h : TyAll Tryd.prog d Tryd.f5.params.toList avs) : ∃ (x0 : (List ref13_Word)), avs = [.sl none (List.map enc_ref13_Word x0)] ∧ (x0.length * 32 ≤ 140737488351232 ∧ ∀ z, z ∈ x0 → ok_ref13_Word z) := by
  rw [show Tryd.f5.params.toList = [28] by kernel_rfl] at h
  match avs, h with
  | [a0], h =>
    obtain ⟨⟨d0, s0⟩, _⟩ := h
    rw [show isStr Tryd.prog 28 = false by kernel_rfl] at s0
    obtain ⟨y0, e0, k0⟩ := ty28 ⟨_, d0⟩
    obtain rfl := one_eq' s0 e0
    exact ⟨y0, rfl, k0⟩
theorem args_law13_LexApart {d : Nat} {avs : List AV} (h : TyAll Tryd.prog d Tryd.f6.params.toList avs) : ∃ (x0 : Str) (x1 : Int) (x2 : Int), avs = [.str x0, .int .i64 x1, .int .u8 x2] ∧ (x0.length ≤ 140737488351232) ∧ ((-9223372036854775808 : Int) ≤ x1 ∧ x1 ≤ 9223372036854775807) ∧ ((0 : Int) ≤ x2 ∧ x2 ≤ 255) := by
  rw [show Tryd.f6.params.toList = [9, 3, 5] by kernel_rfl] at h
  match avs, h with
  | [a0, a1, a2], h =>
    obtain ⟨⟨d0, s0⟩, ⟨d1, s1⟩, ⟨d2, s2⟩, _⟩ := h
    rw [show isStr Tryd.prog 9 = false by kernel_rfl] at s0
    obtain ⟨y0, e0, k0⟩ := ty9 ⟨_, d0⟩
    obtain rfl := one_eq' s0 e0
    rw [show isStr Tryd.prog 3 = false by kernel_rfl] at s1
    obtain ⟨y1, e1, k1⟩ := ty3 ⟨_, d1⟩
    obtain rfl := one_eq' s1 e1
    rw [show isStr Tryd.prog 5 = false by kernel_rfl] at s2
    obtain ⟨y2, e2, k2⟩ := ty5 ⟨_, d2⟩
    obtain rfl := one_eq' s2 e2
    exact ⟨y0, y1, y2, rfl, k0, k1, k2⟩
end Go.Cq

