import Derived.Test.YteeokchpojaaoaaGreatDoorHa1
import Derived.Lib.UnsafeStr
set_option linter.unusedSectionVars false
set_option linter.unusedVariables false
set_option linter.unusedSimpArgs false
set_option linter.unusedVariables false
set_option linter.unusedSimpArgs false
namespace Go.Av
open Go Go.RowKit
section
variable [Lay] {P : Program} {f : FuncId} {fn : Func}

theorem Rel.slotsTo {g : Gh} {tm : List AV} {hp : Heap} {a : Array Value} {w : World} (h : Rel g tm hp a w) {r : AV} {v : Value} (hv : VR g r v) (hm : Meek r) : Rel g [r] hp #[v] w := by
  refine ⟨by simp, fun t => ?_, h.heap, h.locs, h.imms, h.owns, h.fzs⟩
  cases t with
  | zero => exact ⟨hv, Tail.meek hm⟩
  | succ t => exact ⟨.any _, Tail.meek (by intro l; simp [lget])⟩

theorem acall_copyCheck {T : TypeId} (he : ∀ vs w, (callFunc f vs).run P w = .ok (.enter f vs) w)
    (hu : ∀ (b : Nat) (w : World), w.cell? ⟨b, 0, none⟩ = some (.pointer (some ⟨b, 0, none⟩)) → Calls P f #[.pointer (some ⟨b, 0, none⟩)] w fun e w' => e = .returned (.tuple #[]) ∧ w' = w)
    (hf : ∀ (b : Nat) (w : World), w.cell? ⟨b, 0, none⟩ = some (.pointer none) → w.shape? b = some (T, 2) → w.frozen? ⟨b, 0, none⟩ = false → Calls P f #[.pointer (some ⟨b, 0, none⟩)] w fun e w' => e = .returned (.tuple #[]) ∧ w' = w.setCell ⟨b, 0, none⟩ (.pointer (some ⟨b, 0, none⟩)))
    (x : AV) : ACall P f [.ptr 0 0] [some [.bld 0 T, x]] (.tup []) [some [.bld 0 T, x]] := by
  refine ⟨by simp [ltR, ltRL], rfl, by intro oe l; simp, fun g w vs hL hr hs => .inl ⟨he vs w, ?_⟩⟩
  obtain ⟨b, base, c, hloc, hv0⟩ := ptr_inv (hr.slots 0).1
  obtain ⟨b', base', c', e1, e2, e3, e4⟩ := hr.heap 0 _ rfl
  rw [hloc] at e1
  simp only [Option.some.injEq, Prod.mk.injEq] at e1
  obtain ⟨rfl, rfl, rfl⟩ := e1
  obtain ⟨v, c1, c2, c3⟩ := e4 0 _ rfl
  have hs1 : vs = #[.pointer (some ⟨b, base, none⟩)] := by rw [vs1 hs, hv0]; rfl
  subst hs1
  have hnone : VR g (.tup []) (.tuple #[]) := .tup (by simp) (by simp)
  cases c2 with
  | bld hl2 hz hv =>
    rw [hloc] at hl2
    simp only [Option.some.injEq, Prod.mk.injEq] at hl2
    obtain ⟨rfl, rfl, rfl⟩ := hl2
    rw [Nat.add_zero] at c1
    rcases hv with rfl | rfl
    · obtain ⟨cc, lo, hi, q1, q2, q3⟩ := hr.fzs b _ hz
      have hsh : w.shape? b = some (T, 2) := by
        simp only [World.shape?, q1]
        rw [q2.2]
      have hfr : w.frozen? ⟨b, 0, none⟩ = false := by
        have := (hr.owns b 0 (by rw [show (0:Nat) = 0 + 0 by rfl, e3 0 (by omega)]; simp)).2 (by rw [show (0:Nat) = 0 + 0 by rfl, e3 0 (by omega)]; simp)
        exact this
      refine (hf b w c1 hsh hfr).mono ?_
      rintro e w' ⟨rfl, rfl⟩
      have hst := hr.store (id := 0) (off := 0) [.bld 0 T] [.pointer (some ⟨b, 0, none⟩)] rfl (by simp [hget]) (by simp) hloc (fun j y u h1 h2 => by
        cases j with
        | succ j => simp at h1
        | zero =>
          simp at h1 h2; subst h1; subst h2
          exact ⟨.bld hloc hz (.inr rfl), Tail.meek (by intro oe l; simp)⟩)
      obtain ⟨s1, s2, _, _⟩ := hst
      exact ⟨_, g, rfl, s1.slotsTo hnone (by intro oe l; simp), s2 _⟩
    · refine (hu b w c1).mono ?_
      rintro e w' ⟨rfl, rfl⟩
      exact ⟨_, g, rfl, hr.slotsTo hnone (by intro oe l; simp), .refl _ _ _⟩
end
end Go.Av

