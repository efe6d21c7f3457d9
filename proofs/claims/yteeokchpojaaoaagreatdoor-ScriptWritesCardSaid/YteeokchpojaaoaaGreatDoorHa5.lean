import Derived.Test.YteeokchpojaaoaaGreatDoorHa4
import Derived.Test.YteeokchpojaaoaaGreatDoorEx4
set_option linter.unusedSectionVars false
set_option linter.unusedVariables false
set_option linter.unusedSimpArgs false
set_option linter.unusedVariables false
set_option linter.unusedSimpArgs false
namespace Go.Av
open Go Go.RowKit Go.Proofs Go.Shelf
section
variable {g : Gh} {tm : List AV} {hp : Heap} {a : Array Value} {w : World}
theorem Rel.view (h : Rel g tm hp a w) (x : Addr) (e : TypeId) : Rel g tm hp a (w.alloc (.view x e)) ∧ ∀ m, Stp m g w g (w.alloc (.view x e)) := by
  have hne : ∀ b o, g.ow b o ≠ .free → b ≠ w.heap.size := fun b o hb e => by have := h.lt hb; omega
  have hc : ∀ b o, b ≠ w.heap.size → (w.alloc (.view x e)).cell? ⟨b, o, none⟩ = w.cell? ⟨b, o, none⟩ := fun b o hb => World.cell?_alloc_old w _ ⟨b, o, none⟩ hb
  have hf : ∀ b o, b ≠ w.heap.size → (w.alloc (.view x e)).frozen? ⟨b, o, none⟩ = w.frozen? ⟨b, o, none⟩ := fun b o hb => World.frozen?_alloc_old w _ ⟨b, o, none⟩ hb
  refine ⟨⟨h.size, h.slots, fun id cs hcs => ?_, h.locs, fun b o v hv => ?_, fun b o hv => ?_, fzs_of h.fzs (fun b c e f hb => ⟨c, ?_, rfl⟩) (fun _ _ _ h => h) rfl⟩, fun m => .of (fun _ _ _ h => h) (fun _ _ _ h => h) (fun _ _ _ h => h) (.of rfl rfl rfl (by simp) (fun b c e f hb => ⟨c, ?_, rfl, fun _ _ => rfl⟩) (fun b o hb _ => ?_)) rfl⟩
  · obtain ⟨b, base, c, e1, e2, e3, e4⟩ := h.heap id cs hcs
    refine ⟨b, base, c, e1, e2, e3, fun j av hj => ?_⟩
    have hj' : j < c := Nat.lt_of_lt_of_le (List.getElem?_eq_some_iff.1 hj).1 e2
    rw [hc _ _ (hne b (base + j) (by rw [e3 j hj']; simp))]; exact e4 j av hj
  · rw [hc _ _ (hne b o (by rw [hv]; simp))]; exact h.imms _ _ _ hv
  · rw [hc _ _ (hne b o hv), hf _ _ (hne b o hv)]; exact h.owns _ _ hv
  · rw [RowKit.Below.heap_alloc _ _ _ (Array.getElem?_eq_some_iff.1 hb).1]; exact hb
  · rw [RowKit.Below.heap_alloc _ _ _ (Array.getElem?_eq_some_iff.1 hb).1]; exact hb
  · rw [RowKit.Below.heap_alloc _ _ _ (Array.getElem?_eq_some_iff.1 hb).1]; exact hb
end

theorem flat_ints (l : List Int) : (l.map (AV.int .u8)).flatMap AV.cells = l.map (AV.int .u8) := by
  induction l with
  | nil => rfl
  | cons x l ih => simp only [List.map_cons, List.flatMap_cons, ih]; rfl

section
variable [Lay] {P : Program} {ρ : Ren}
theorem acall_String (L : Lays.n169 P ρ) (X : Builder.Extra P ρ) (he : ∀ vs w, (callFunc (ρ.f 169) vs).run P w = .ok (.enter (ρ.f 169) vs) w) {T : TypeId} (l : List Int) :
    ACall P (ρ.f 169) [.ptr 0 0] [some [.bld 0 T, .sl (some (some (ρ.t 5, 0))) (l.map (AV.int .u8))]] (.str (ofInts l)) [some [.bld 0 T, .sl (some (some (ρ.t 5, 0))) (l.map (AV.int .u8))]] := by
  refine ⟨by simp [ltR], rfl, by intro oe l; simp, fun g w vs hL hr hs => .inl ⟨he vs w, ?_⟩⟩
  obtain ⟨b, base, c, hloc, hv0⟩ := ptr_inv (hr.slots 0).1
  obtain ⟨b', base', c', e1, e2, e3, e4⟩ := hr.heap 0 _ rfl
  rw [hloc] at e1
  simp only [Option.some.injEq, Prod.mk.injEq] at e1
  obtain ⟨rfl, rfl, rfl⟩ := e1
  obtain ⟨v, c1, c2, c3⟩ := e4 0 _ rfl
  obtain ⟨u, d1, d2, d3⟩ := e4 1 _ rfl
  have hs1 : vs = #[.pointer (some ⟨b, base, none⟩)] := by rw [vs1 hs, hv0]; rfl
  subst hs1
  have hb0 : base = 0 := by
    cases c2 with
    | bld hl2 hz hv =>
      rw [hloc] at hl2
      simp only [Option.some.injEq, Prod.mk.injEq] at hl2
      exact hl2.2.1
  subst hb0
  have hlt : b < w.heap.size := hr.lt (b := b) (o := 0 + 0) (by rw [e3 0 (by simp at e2; omega)]; simp)
  obtain ⟨ad, cap, b1, o1, es, us, hve, hcap, hlm, had, hes, hp, hn, him, hvv⟩ := sl_inv d2
  subst hve
  rw [flat_ints] at him hvv
  rw [List.length_map] at d1 d3 hcap hlm
  have hmx : l.length ≤ 140737488355328 := hlm
  have hstr : VR g (.str (ofInts l)) (.string ⟨(ofInts l).toArray⟩) := .str rfl (by simpa [ofInts] using hlm)
  rw [show (0 : Nat) + 1 = 1 by rfl] at d1
  rcases d3 with ⟨hl0, hn0, ha⟩ | ⟨hne, b2, o2, es2, q1, q2, q3, q4, q5, q8⟩
  · have hl0' : l = [] := by simpa using hl0
    subst hl0'
    simp only [List.length_nil] at hn0
    subst hn0
    rcases ha with rfl | ⟨b3, o3, rfl, e3', hz⟩
    · refine (Cq.String_nil L X b w d1).mono ?_
      rintro e w' ⟨rfl, rfl⟩
      exact ⟨_, g, rfl, (hr.drew).slotsTo hstr (by intro oe l; simp), .drew _ _ _⟩
    · obtain ⟨cc, lo, hi, k1, k2, k3⟩ := hr.fzs b3 _ hz
      refine (Cq.String_noroom L X b b3 o3 (e3'.1, cc.size) w hlt d1 (by simp [World.shape?, k1])).mono ?_
      rintro e w' ⟨rfl, rfl⟩
      obtain ⟨r1, r2⟩ := hr.drew.view ⟨b3, o3, none⟩ (ρ.t 5)
      exact ⟨_, g, rfl, r1.slotsTo hstr (by intro oe l; simp), (Stp.drew _ _ _).trans (r2 _)⟩
  · obtain ⟨e', q6, q7⟩ := q8 _ rfl
    have hne0 : List.map (AV.int .u8) l ≠ [] := by
      rcases hne with h | ⟨e2, h, h'⟩
      · exact h
      · cases h; simp at h'
    have hne' : l ≠ [] := by simpa using hne0
    rw [had hne0] at q1
    simp only [Option.some.injEq, Addr.mk.injEq, and_true] at q1
    obtain ⟨rfl, rfl⟩ := q1
    subst q5
    have he' := q7.1
    obtain ⟨cc, lo, hi, k1, k2, k3⟩ := hr.fzs b1 _ q6
    rw [← he'] at k1
    have hcells : ∀ j (n : Int), l[j]? = some n → w.cell? ⟨b1, j, none⟩ = some (.int .u8 n) ∧ 0 ≤ n ∧ n ≤ 255 := fun j n hj => by
      have h1 := him j (.int .u8 n) (by simp [hj])
      have h2 := hvv j (.int .u8 n) (by simp [hj])
      obtain ⟨hh, h3, h4⟩ := int_inv h2
      have := hr.imms _ _ _ h1
      rw [hh, Nat.zero_add] at this
      exact ⟨this, h3, h4⟩
    have hlen : (ofInts l).length = l.length := by simp [ofInts]
    have hcur : l.length ≤ cc.size := by
      rcases Nat.lt_or_ge cc.size l.length with hlt' | hge
      · exfalso
        have hj : cc.size < l.length := hlt'
        have := (hcells cc.size _ (List.getElem?_eq_getElem hj)).1
        simp [World.cell?, k1] at this
      · exact hge
    have hmain := Cq.String_row L X b b1 cap cc (lo, hi) (ofInts l) w (by intro e; have := congrArg List.length e; rw [hlen] at this; simp at this; exact hne' this) (by rw [hlen]; rw [d1, had hne0]) k1 (by rw [hlen]; exact hcap) (by rw [hlen]; exact hcur) (by rw [hlen]; omega) (fun j x hj => by
      simp only [ofInts, List.getElem?_map, Option.map_eq_some_iff] at hj
      obtain ⟨n, hn, rfl⟩ := hj
      obtain ⟨r1, r2, r3⟩ := hcells j n hn
      rw [r1]
      have : n.toNat < 256 := by omega
      congr 2
      simp [UInt8.toNat_ofNat', Nat.mod_eq_of_lt this]; omega)
    refine hmain.mono ?_
    rintro e w' ⟨rfl, rfl⟩
    rw [hlen]
    obtain ⟨r1, r2⟩ := hr.drew.freeze (n := l.length) q6 (fun o ho => by
      have := him o _ (by simp only [List.getElem?_map, List.getElem?_eq_getElem ho]; rfl)
      rw [Nat.zero_add] at this
      exact ⟨_, this⟩)
    exact ⟨_, g, rfl, r1.slotsTo hstr (by intro oe l; simp), (Stp.drew _ _ _).trans (r2 _)⟩
end
end Go.Av

