import Derived.Test.YtiboeelbmgnbgaaGreatDoorL7
set_option linter.unusedSectionVars false
set_option linter.unusedVariables false
set_option linter.unusedSimpArgs false
set_option linter.unnecessarySimpa false
set_option maxRecDepth 100000
namespace Go.Cq
open Go Go.Av
theorem zMJ (l : List Str) : ∀ (r : List Str) (k q : Nat), l.drop k = r → k ≤ l.length → k ≤ 40 → 41 - k < q →
    ∃ b, zA4 l (fun _ => some (decide ((40 : Int) < (l.length : Int)))) q (k : Int) = some b ∧ (b = false → l.length ≤ 40 ∧ ∀ s, s ∈ r → s.length ≤ 1100) := by
  intro r
  induction r with
  | nil =>
    intro k q h hk h40 hq
    obtain ⟨q, rfl⟩ : ∃ q', q = q' + 1 := ⟨q - 1, by omega⟩
    have : k = l.length := by have : l.length ≤ k := by simpa using h
                              omega
    subst this
    simp only [zA4]
    rw [zAD, Bool.false_and, ifF]
    exact ⟨_, rfl, fun h => ⟨by have := of_decide_eq_false h; omega, fun s hs => by simp at hs⟩⟩
  | cons x r ih =>
    intro k q h hk h40 hq
    obtain ⟨q, rfl⟩ : ∃ q', q = q' + 1 := ⟨q - 1, by omega⟩
    obtain ⟨e1, e2, e3⟩ := zAE h
    simp only [zA4]
    rw [zAB e3, Bool.true_and]
    by_cases hk40 : k < 40
    · rw [decide_eq_true (by omega), if_pos rfl, zAf e1, zAa, cks (by omega), zAa]
      by_cases hx : x.length ≤ 1100
      · rw [decide_eq_false (by omega), ifF]
        obtain ⟨b, h1, h2⟩ := ih (k+1) q e2 (by omega) (by omega) (by omega)
        refine ⟨b, h1, fun hb => ⟨(h2 hb).1, fun s hs => ?_⟩⟩
        rcases List.mem_cons.1 hs with rfl | hs
        · exact hx
        exact (h2 hb).2 s hs
      rw [decide_eq_true (by omega), if_pos rfl]
      exact ⟨true, rfl, fun h => by cases h⟩
    rw [decide_eq_false (by omega), ifF, decide_eq_true (by omega)]
    exact ⟨true, rfl, fun h => by cases h⟩
theorem zFE (l : List Str) : ∃ b, zBo l = some b ∧ (b = false → l.length ≤ 40 ∧ ∀ s, s ∈ l → s.length ≤ 1100) := by
 unfold zBo
 rw [zBL]
 exact zMJ l l 0 fuel rfl (Nat.zero_le _) (Nat.zero_le _) (by unfold fuel; omega)
structure SmallN (n : rNd) : Prop where
 s : n.S.length ≤ 1100
 l : n.L.length ≤ 40
 k : n.Kids.length ≤ 520
 ls : ∀ s, s ∈ n.L → s.length ≤ 1100
structure Small (m : rMt) : Prop where
 s : m.Sel.length ≤ 1100
 a : m.Args.length ≤ 40
 t : m.Temps.length ≤ 40
 n : m.Nodes.length ≤ 520
 b : m.Body.length ≤ 520
 ns : ∀ n, n ∈ m.Nodes → SmallN n
 al : ∀ s, s ∈ m.Args → s.length ≤ 1100
 tl : ∀ s, s ∈ m.Temps → s.length ≤ 1100
theorem zOJ (m : rMt) (hm : m.Nodes.length ≤ 520) : ∀ (r : List rNd) (k q : Nat), m.Nodes.drop k = r → k ≤ m.Nodes.length → r.length < q →
    ∃ b, zBf m (fun _ => some false) q (k : Int) = some b ∧ (b = false → ∀ n, n ∈ r → SmallN n) := by
  intro r
  induction r with
  | nil =>
    intro k q h hk hq
    obtain ⟨q, rfl⟩ : ∃ q', q = q' + 1 := ⟨q - 1, by simp at hq; omega⟩
    have : k = m.Nodes.length := by have : m.Nodes.length ≤ k := by simpa using h
                                    omega
    subst this
    simp only [zBf]
    rw [zAD, ifF]
    exact ⟨_, rfl, fun h n hn => by simp at hn⟩
  | cons x r ih =>
    intro k q h hk hq
    obtain ⟨q, rfl⟩ : ∃ q', q = q' + 1 := ⟨q - 1, by simp at hq; omega⟩
    obtain ⟨e1, e2, e3⟩ := zAE h
    obtain ⟨b2, g1, g2⟩ := zFE x.L
    simp only [zBf]
    rw [zAB e3, if_pos rfl, zAf e1, zAa, cks (by omega), zAa, g1]
    by_cases hs : x.S.length ≤ 1100
    · rw [decide_eq_false (by omega), ifF, zAa]
      cases b2 with
      | true => rw [if_pos rfl, zAa, if_pos rfl]; exact ⟨true, rfl, fun h => by cases h⟩
      | false =>
        rw [ifF, zAa]
        by_cases hk : x.Kids.length ≤ 520
        · rw [decide_eq_false (by omega), ifF]
          obtain ⟨b, h1, h2⟩ := ih (k+1) q e2 (by omega) (by simp at hq; omega)
          refine ⟨b, h1, fun hb n hn => ?_⟩
          rcases List.mem_cons.1 hn with rfl | hn
          · exact ⟨hs, (g2 rfl).1, hk, (g2 rfl).2⟩
          exact h2 hb n hn
        rw [decide_eq_true (by omega), if_pos rfl]; exact ⟨true, rfl, fun h => by cases h⟩
    rw [decide_eq_true (by omega), if_pos rfl, zAa, if_pos rfl]; exact ⟨true, rfl, fun h => by cases h⟩
theorem zO9 (m : rMt) : ∃ b, zDw m = some b ∧ (b = false → Small m) := by
 obtain ⟨b1, g1, g2⟩ := zFE m.Args
 obtain ⟨b2, g3, g4⟩ := zFE m.Temps
 have no : ∀ {x : Option Bool}, x = some true → ∃ b, x = some b ∧ (b = false → Small m) := fun h => ⟨true, h, fun h => by cases h⟩
 unfold zDw
 rw [g1, g3]
 by_cases hs : m.Sel.length ≤ 1100
 ·rw [decide_eq_false (by omega), ifF, zAa]
  cases b1 with
  | true => exact no (by rw [if_pos rfl, zAa, if_pos rfl])
  | false =>
   rw [ifF, zAa]
   cases b2 with
   | true => exact no (by rw [if_pos rfl, zAa, if_pos rfl])
   | false =>
    rw [ifF]
    by_cases hn : m.Nodes.length ≤ 520
    ·rw [decide_eq_false (by omega), ifF, zAa]
     by_cases hb : m.Body.length ≤ 520
     ·rw [decide_eq_false (by omega), ifF, zBL]
      obtain ⟨b, h1, h2⟩ := zOJ m hn m.Nodes 0 fuel rfl (Nat.zero_le _) (by unfold fuel; omega)
      exact ⟨b, h1, fun h => ⟨hs, (g2 rfl).1, (g4 rfl).1, hn, hb, h2 h, (g2 rfl).2, (g4 rfl).2⟩⟩
     exact no (by rw [decide_eq_true (by omega), if_pos rfl])
    exact no (by rw [decide_eq_true (by omega), if_pos rfl, zAa, if_pos rfl])
 exact no (by rw [decide_eq_true (by omega), if_pos rfl, zAa, if_pos rfl])
theorem Small.fits {m : rMt} (h : Small m) : Fits m := by
 obtain ⟨h1, h2, h3, h4, h5, h6, _, _⟩ := h
 exact ⟨by omega, by omega, by omega, by omega, fun z hz => by have := (h6 z hz).l; omega, fun z hz => by have := (h6 z hz).k; omega⟩
theorem Small.nodes {m : rMt} (h : Small m) (hK : ∀ n, n ∈ m.Nodes → 0 ≤ n.K) : NodesOk (zAl m).Nodes := by
  have hm : ∀ x, x ∈ (zAl m).Nodes → ∃ n, n ∈ m.Nodes ∧ x = zAd n := fun x hx => by
    obtain ⟨n, hn, e⟩ := List.mem_map.1 hx
    exact ⟨n, hn, e.symm⟩
  refine ⟨by have := h.n; simp [zAl]; omega, fun x hx => ?_, fun x hx => ?_, fun x hx => ?_, fun x hx => ?_⟩ <;> obtain ⟨n, hn, rfl⟩ := hm x hx
  · exact hK n hn
  · have := (h.ns n hn).s; show n.S.length ≤ _; omega
  · have := (h.ns n hn).l; show n.L.length ≤ _; unfold bigN; omega
  have := (h.ns n hn).k; show n.Kids.length ≤ _; omega
def okM (m : rMt) : Bool := zEJ (zAl m) && zL6 (zAl m)
theorem Small.may {m : rMt} (h : Small m) (hK : ∀ n, n ∈ m.Nodes → 0 ≤ n.K) : zDP m = some (okM m) :=
 may14_eq m (h.nodes hK) (by have := h.b; omega) (by have := h.s; omega) (by have := h.a; omega) (by have := h.t; omega)
theorem Small.check {m : rMt} (h : Small m) (hK : ∀ n, n ∈ m.Nodes → 0 ≤ n.K) : zCC (zAl m) = some (if okM m = true then none else some 1) :=
 zQr m (h.nodes hK) (by have := h.b; omega) (by have := h.s; omega) (by have := h.a; omega) (by have := h.t; omega)
def zFb (c : rCl) : tCl := tCl.mk c.Name c.Super c.Vars (c.Methods.map zAl)
theorem giveC_l2 (c : rCl) (hm : c.Methods.length ≤ 1000) (hf : ∀ m, m ∈ c.Methods → Fits m) : ∀ (r : List rMt) (k q : Nat) (acc : List tMt), c.Methods.drop k = r → k ≤ c.Methods.length → r.length < q → acc.length = k →
    zAM c q (k : Int) acc = some (acc ++ r.map zAl) := by
  intro r
  induction r with
  | nil =>
    intro k q acc h hk hq ha
    obtain ⟨q, rfl⟩ : ∃ q', q = q' + 1 := ⟨q - 1, by simp at hq; omega⟩
    have : k = c.Methods.length := by have : c.Methods.length ≤ k := by simpa using h
                                      omega
    subst this
    simp only [zAM]
    rw [zAD, ifF]; simp
  | cons x r ih =>
    intro k q acc h hk hq ha
    obtain ⟨q, rfl⟩ : ∃ q', q = q' + 1 := ⟨q - 1, by simp at hq; omega⟩
    obtain ⟨e1, e2, e3⟩ := zAE h
    simp only [zAM]
    rw [zAB e3, if_pos rfl, zAf e1, zAa, give_eq x (hf x (List.mem_of_getElem? e1)), zAa, zDl (by simp; omega) (by simp; omega), zAa, cks (by omega), zAa, ih (k+1) q _ e2 (by omega) (by simp at hq; omega) (by simp [ha])]
    simp
structure SmallC (c : rCl) : Prop where
 v : c.Vars.length ≤ 40
 m : c.Methods.length ≤ 20
 ms : ∀ m, m ∈ c.Methods → Small m
 nm : c.Name.length ≤ 1100
 sp : c.Super.length ≤ 1100
 vs : ∀ s, s ∈ c.Vars → s.length ≤ 1100
theorem giveC_l1 (l : List rCl) (hl : l.length ≤ 1000) (hf : ∀ c, c ∈ l → SmallC c) : ∀ (r : List rCl) (k q : Nat) (acc : List tCl), l.drop k = r → k ≤ l.length → r.length < q → acc.length = k →
    zAN l q acc (k : Int) = some (acc ++ r.map zFb) := by
  intro r
  induction r with
  | nil =>
    intro k q acc h hk hq ha
    obtain ⟨q, rfl⟩ : ∃ q', q = q' + 1 := ⟨q - 1, by simp at hq; omega⟩
    have : k = l.length := by have : l.length ≤ k := by simpa using h
                              omega
    subst this
    simp only [zAN]
    rw [zAD, ifF]; simp
  | cons x r ih =>
    intro k q acc h hk hq ha
    obtain ⟨q, rfl⟩ : ∃ q', q = q' + 1 := ⟨q - 1, by simp at hq; omega⟩
    obtain ⟨e1, e2, e3⟩ := zAE h
    have hx := hf x (List.mem_of_getElem? e1)
    have hv := hx.v
    have hxm := hx.m
    have h2 := giveC_l2 x (by omega) (fun m hm => (hx.ms m hm).fits) x.Methods 0 fuel [] rfl (Nat.zero_le _) (by unfold fuel; omega) rfl
    rw [show ((0 : Nat) : Int) = 0 from rfl] at h2
    simp only [zAN]
    rw [zAB e3, if_pos rfl, zAf e1, zAa, zHI (by decide) (by omega), zAa, h2, zAa, zDl (by simp; omega) (by simp; omega), zAa, cks (by omega), zAa]
    have := ih (k+1) q (acc ++ [tCl.mk x.Name x.Super x.Vars ([] ++ x.Methods.map zAl)]) e2 (by omega) (by simp at hq; omega) (by simp [ha])
    rw [this]
    simp [zFb]
theorem giveC_eq (l : List rCl) (hl : l.length ≤ 1000) (hf : ∀ c, c ∈ l → SmallC c) : zB6 l = some (l.map zFb) := by
 unfold zB6
 have h1 := giveC_l1 l hl hf l 0 fuel [] rfl (Nat.zero_le _) (by unfold fuel; omega) rfl
 rw [show ((0 : Nat) : Int) = 0 from rfl] at h1
 rw [h1, zAa]; rfl
def okT (m : tMt) : Bool := zEJ m && zL6 m
theorem zMK (l : List rCl) (hl : l.length ≤ 70) (hf : ∀ c, c ∈ l → SmallC c) (hK : ∀ c, c ∈ l → ∀ m, m ∈ c.Methods → ∀ n, n ∈ m.Nodes → 0 ≤ n.K) :
  ∃ b : Bool, zCX (l.map zFb) = some (if b = true then none else some 1) ∧ zDi l = some b := by
 have h1 := zLP l okM (fun c hc m hm => ((hf c hc).ms m hm).may (hK c hc m hm)) (by unfold bigN; omega) (fun c hc => by have := (hf c hc).v; unfold bigN; omega) (fun c hc => by have := (hf c hc).m; unfold bigN; omega)
 have hmem : ∀ c, c ∈ l.map zFb → ∃ c0, c0 ∈ l ∧ c = zFb c0 := fun c hc => by
  obtain ⟨c0, h, e⟩ := List.mem_map.1 hc
  exact ⟨c0, h, e.symm⟩
 have h2 := zMU (l.map zFb) okT (fun c hc m hm => by
  obtain ⟨c0, hc0, rfl⟩ := hmem c hc
  obtain ⟨m0, hm0, rfl⟩ := List.mem_map.1 hm
  exact ((hf c0 hc0).ms m0 hm0).check (hK c0 hc0 m0 hm0)) (by simp; unfold bigN; omega) (fun c hc => by
   obtain ⟨c0, hc0, rfl⟩ := hmem c hc
   have := (hf c0 hc0).v; show c0.Vars.length ≤ _; unfold bigN; omega) (fun c hc => by
   obtain ⟨c0, hc0, rfl⟩ := hmem c hc
   have := (hf c0 hc0).m; show (c0.Methods.map zAl).length ≤ _; simp; unfold bigN; omega)
 refine ⟨_, ?_, h1⟩
 rw [h2]
 have : ((l.map zFb).all (zGc okT)) = l.all (zGz okM) := by
  rw [List.all_map]
  congr 1
  funext c
  show zGc okT (zFb c) = zGz okM c
  unfold zGc zGz zFb
  simp only [List.length_map, List.all_map]
  rfl
 rw [this, List.length_map]
end Go.Cq

