import Derived.Test.YtiboeelbmgnbgaaGreatDoorL7
set_option linter.unusedSectionVars false
set_option linter.unusedVariables false
set_option linter.unusedSimpArgs false
set_option linter.unnecessarySimpa false
set_option maxRecDepth 100000
set_option linter.unusedVariables false
set_option linter.unusedSimpArgs false
namespace Go.Cq
open Go Go.Av
/-! ### What is too much -/
theorem bigTexts_l1 (l : List Str) : ∀ (r : List Str) (k q : Nat), l.drop k = r → k ≤ l.length → k ≤ 40 → 41 - k < q →
    ∃ b, law14_bigTexts_l1 l (fun _ => some (decide ((40 : Int) < (l.length : Int)))) q (k : Int) = some b ∧ (b = false → l.length ≤ 40 ∧ ∀ s, s ∈ r → s.length ≤ 1100) := by
  intro r
  induction r with
  | nil =>
    intro k q h hk h40 hq
    obtain ⟨q, rfl⟩ : ∃ q', q = q' + 1 := ⟨q - 1, by omega⟩
    have : k = l.length := by have : l.length ≤ k := by simpa using h
                              omega
    subst this
    simp only [law14_bigTexts_l1]
    rw [ge_len, Bool.false_and, ifF]
    exact ⟨_, rfl, fun h => ⟨by have := of_decide_eq_false h; omega, fun s hs => by simp at hs⟩⟩
  | cons x r ih =>
    intro k q h hk h40 hq
    obtain ⟨q, rfl⟩ : ∃ q', q = q' + 1 := ⟨q - 1, by omega⟩
    obtain ⟨e1, e2, e3⟩ := getDrop h
    simp only [law14_bigTexts_l1]
    rw [lt_len e3, Bool.true_and]
    by_cases hk40 : k < 40
    · rw [decide_eq_true (by omega), if_pos rfl, lAt_nat e1, bindS, cks (by omega), bindS]
      by_cases hx : x.length ≤ 1100
      · rw [decide_eq_false (by omega), ifF]
        obtain ⟨b, h1, h2⟩ := ih (k+1) q e2 (by omega) (by omega) (by omega)
        refine ⟨b, h1, fun hb => ⟨(h2 hb).1, fun s hs => ?_⟩⟩
        rcases List.mem_cons.1 hs with rfl | hs
        · exact hx
        · exact (h2 hb).2 s hs
      · rw [decide_eq_true (by omega), if_pos rfl]
        exact ⟨true, rfl, fun h => by cases h⟩
    · rw [decide_eq_false (by omega), ifF, decide_eq_true (by omega)]
      exact ⟨true, rfl, fun h => by cases h⟩
theorem bigTexts_eq (l : List Str) : ∃ b, law14_bigTexts l = some b ∧ (b = false → l.length ≤ 40 ∧ ∀ s, s ∈ l → s.length ≤ 1100) := by
  unfold law14_bigTexts
  rw [letK_e]
  exact bigTexts_l1 l l 0 fuel rfl (Nat.zero_le _) (Nat.zero_le _) (by unfold fuel; omega)
structure SmallN (n : ref14_Node) : Prop where
  s : n.S.length ≤ 1100
  l : n.L.length ≤ 40
  k : n.Kids.length ≤ 520
structure Small (m : ref14_Method) : Prop where
  s : m.Sel.length ≤ 1100
  a : m.Args.length ≤ 40
  t : m.Temps.length ≤ 40
  n : m.Nodes.length ≤ 520
  b : m.Body.length ≤ 520
  ns : ∀ n, n ∈ m.Nodes → SmallN n
theorem bigTree_l1 (m : ref14_Method) (hm : m.Nodes.length ≤ 520) : ∀ (r : List ref14_Node) (k q : Nat), m.Nodes.drop k = r → k ≤ m.Nodes.length → r.length < q →
    ∃ b, law14_bigTree_l1 m (fun _ => some false) q (k : Int) = some b ∧ (b = false → ∀ n, n ∈ r → SmallN n) := by
  intro r
  induction r with
  | nil =>
    intro k q h hk hq
    obtain ⟨q, rfl⟩ : ∃ q', q = q' + 1 := ⟨q - 1, by simp at hq; omega⟩
    have : k = m.Nodes.length := by have : m.Nodes.length ≤ k := by simpa using h
                                    omega
    subst this
    simp only [law14_bigTree_l1]
    rw [ge_len, ifF]
    exact ⟨_, rfl, fun h n hn => by simp at hn⟩
  | cons x r ih =>
    intro k q h hk hq
    obtain ⟨q, rfl⟩ : ∃ q', q = q' + 1 := ⟨q - 1, by simp at hq; omega⟩
    obtain ⟨e1, e2, e3⟩ := getDrop h
    obtain ⟨b2, g1, g2⟩ := bigTexts_eq x.L
    simp only [law14_bigTree_l1]
    rw [lt_len e3, if_pos rfl, lAt_nat e1, bindS, cks (by omega), bindS, g1]
    by_cases hs : x.S.length ≤ 1100
    · rw [decide_eq_false (by omega), ifF, bindS]
      cases b2 with
      | true => rw [if_pos rfl, bindS, if_pos rfl]; exact ⟨true, rfl, fun h => by cases h⟩
      | false =>
        rw [ifF, bindS]
        by_cases hk : x.Kids.length ≤ 520
        · rw [decide_eq_false (by omega), ifF]
          obtain ⟨b, h1, h2⟩ := ih (k+1) q e2 (by omega) (by simp at hq; omega)
          refine ⟨b, h1, fun hb n hn => ?_⟩
          rcases List.mem_cons.1 hn with rfl | hn
          · exact ⟨hs, (g2 rfl).1, hk⟩
          · exact h2 hb n hn
        · rw [decide_eq_true (by omega), if_pos rfl]; exact ⟨true, rfl, fun h => by cases h⟩
    · rw [decide_eq_true (by omega), if_pos rfl, bindS, if_pos rfl]; exact ⟨true, rfl, fun h => by cases h⟩
theorem bigTree_eq (m : ref14_Method) : ∃ b, law14_bigTree m = some b ∧ (b = false → Small m) := by
  obtain ⟨b1, g1, g2⟩ := bigTexts_eq m.Args
  obtain ⟨b2, g3, g4⟩ := bigTexts_eq m.Temps
  have no : ∀ {x : Option Bool}, x = some true → ∃ b, x = some b ∧ (b = false → Small m) := fun h => ⟨true, h, fun h => by cases h⟩
  unfold law14_bigTree
  rw [g1, g3]
  by_cases hs : m.Sel.length ≤ 1100
  · rw [decide_eq_false (by omega), ifF, bindS]
    cases b1 with
    | true => exact no (by rw [if_pos rfl, bindS, if_pos rfl])
    | false =>
      rw [ifF, bindS]
      cases b2 with
      | true => exact no (by rw [if_pos rfl, bindS, if_pos rfl])
      | false =>
        rw [ifF]
        by_cases hn : m.Nodes.length ≤ 520
        · rw [decide_eq_false (by omega), ifF, bindS]
          by_cases hb : m.Body.length ≤ 520
          · rw [decide_eq_false (by omega), ifF, letK_e]
            obtain ⟨b, h1, h2⟩ := bigTree_l1 m hn m.Nodes 0 fuel rfl (Nat.zero_le _) (by unfold fuel; omega)
            exact ⟨b, h1, fun h => ⟨hs, (g2 rfl).1, (g4 rfl).1, hn, hb, h2 h⟩⟩
          · exact no (by rw [decide_eq_true (by omega), if_pos rfl])
        · exact no (by rw [decide_eq_true (by omega), if_pos rfl, bindS, if_pos rfl])
  · exact no (by rw [decide_eq_true (by omega), if_pos rfl, bindS, if_pos rfl])
theorem Small.fits {m : ref14_Method} (h : Small m) : Fits m := by
  obtain ⟨h1, h2, h3, h4, h5, h6⟩ := h
  exact ⟨by omega, by omega, by omega, by omega, fun z hz => by have := (h6 z hz).l; omega, fun z hz => by have := (h6 z hz).k; omega⟩
theorem Small.nodes {m : ref14_Method} (h : Small m) (hK : ∀ n, n ∈ m.Nodes → 0 ≤ n.K) : NodesOk (giveM m).Nodes := by
  have hm : ∀ x, x ∈ (giveM m).Nodes → ∃ n, n ∈ m.Nodes ∧ x = giveNode n := fun x hx => by
    obtain ⟨n, hn, e⟩ := List.mem_map.1 hx
    exact ⟨n, hn, e.symm⟩
  refine ⟨by have := h.n; simp [giveM]; omega, fun x hx => ?_, fun x hx => ?_, fun x hx => ?_, fun x hx => ?_⟩ <;> obtain ⟨n, hn, rfl⟩ := hm x hx
  · exact hK n hn
  · have := (h.ns n hn).s; show n.S.length ≤ _; omega
  · have := (h.ns n hn).l; show n.L.length ≤ _; unfold bigN; omega
  · have := (h.ns n hn).k; show n.Kids.length ≤ _; omega
def okM (m : ref14_Method) : Bool := headOk (giveM m) && machB (giveM m)
theorem Small.may {m : ref14_Method} (h : Small m) (hK : ∀ n, n ∈ m.Nodes → 0 ≤ n.K) : ref14_May m = some (okM m) :=
  may14_eq m (h.nodes hK) (by have := h.b; omega) (by have := h.s; omega) (by have := h.a; omega) (by have := h.t; omega)
theorem Small.check {m : ref14_Method} (h : Small m) (hK : ∀ n, n ∈ m.Nodes → 0 ≤ n.K) : tree_Check (giveM m) = some (if okM m = true then none else some 1) :=
  check_may m (h.nodes hK) (by have := h.b; omega) (by have := h.s; omega) (by have := h.a; omega) (by have := h.t; omega)
/-! ### The program's classes -/
def giveC (c : ref14_Class) : tree_Class := tree_Class.mk c.Name c.Super c.Vars (c.Methods.map giveM)
theorem giveC_l2 (c : ref14_Class) (hm : c.Methods.length ≤ 1000) (hf : ∀ m, m ∈ c.Methods → Fits m) : ∀ (r : List ref14_Method) (k q : Nat) (acc : List tree_Method), c.Methods.drop k = r → k ≤ c.Methods.length → r.length < q → acc.length = k →
    law14_giveClasses_l2 c q (k : Int) acc = some (acc ++ r.map giveM) := by
  intro r
  induction r with
  | nil =>
    intro k q acc h hk hq ha
    obtain ⟨q, rfl⟩ : ∃ q', q = q' + 1 := ⟨q - 1, by simp at hq; omega⟩
    have : k = c.Methods.length := by have : c.Methods.length ≤ k := by simpa using h
                                      omega
    subst this
    simp only [law14_giveClasses_l2]
    rw [ge_len, ifF]; simp
  | cons x r ih =>
    intro k q acc h hk hq ha
    obtain ⟨q, rfl⟩ : ∃ q', q = q' + 1 := ⟨q - 1, by simp at hq; omega⟩
    obtain ⟨e1, e2, e3⟩ := getDrop h
    simp only [law14_giveClasses_l2]
    rw [lt_len e3, if_pos rfl, lAt_nat e1, bindS, give_eq x (hf x (List.mem_of_getElem? e1)), bindS, app_of (by simp; omega) (by simp; omega), bindS, cks (by omega), bindS, ih (k+1) q _ e2 (by omega) (by simp at hq; omega) (by simp [ha])]
    simp
structure SmallC (c : ref14_Class) : Prop where
  v : c.Vars.length ≤ 40
  m : c.Methods.length ≤ 20
  ms : ∀ m, m ∈ c.Methods → Small m
theorem giveC_l1 (l : List ref14_Class) (hl : l.length ≤ 1000) (hf : ∀ c, c ∈ l → SmallC c) : ∀ (r : List ref14_Class) (k q : Nat) (acc : List tree_Class), l.drop k = r → k ≤ l.length → r.length < q → acc.length = k →
    law14_giveClasses_l1 l q acc (k : Int) = some (acc ++ r.map giveC) := by
  intro r
  induction r with
  | nil =>
    intro k q acc h hk hq ha
    obtain ⟨q, rfl⟩ : ∃ q', q = q' + 1 := ⟨q - 1, by simp at hq; omega⟩
    have : k = l.length := by have : l.length ≤ k := by simpa using h
                              omega
    subst this
    simp only [law14_giveClasses_l1]
    rw [ge_len, ifF]; simp
  | cons x r ih =>
    intro k q acc h hk hq ha
    obtain ⟨q, rfl⟩ : ∃ q', q = q' + 1 := ⟨q - 1, by simp at hq; omega⟩
    obtain ⟨e1, e2, e3⟩ := getDrop h
    have hx := hf x (List.mem_of_getElem? e1)
    have hv := hx.v
    have hxm := hx.m
    have h2 := giveC_l2 x (by omega) (fun m hm => (hx.ms m hm).fits) x.Methods 0 fuel [] rfl (Nat.zero_le _) (by unfold fuel; omega) rfl
    rw [show ((0 : Nat) : Int) = 0 from rfl] at h2
    simp only [law14_giveClasses_l1]
    rw [lt_len e3, if_pos rfl, lAt_nat e1, bindS, app_nil (by decide) (by omega), bindS, h2, bindS, app_of (by simp; omega) (by simp; omega), bindS, cks (by omega), bindS]
    have := ih (k+1) q (acc ++ [tree_Class.mk x.Name x.Super x.Vars ([] ++ x.Methods.map giveM)]) e2 (by omega) (by simp at hq; omega) (by simp [ha])
    rw [this]
    simp [giveC]
theorem giveC_eq (l : List ref14_Class) (hl : l.length ≤ 1000) (hf : ∀ c, c ∈ l → SmallC c) : law14_giveClasses l = some (l.map giveC) := by
  unfold law14_giveClasses
  have h1 := giveC_l1 l hl hf l 0 fuel [] rfl (Nat.zero_le _) (by unfold fuel; omega) rfl
  rw [show ((0 : Nat) : Int) = 0 from rfl] at h1
  rw [h1, bindS]; rfl
theorem Small.inj {m m' : ref14_Method} (h : giveM m = giveM m') : okM m = okM m' := by unfold okM; rw [h]
def okT (m : tree_Method) : Bool := headOk m && machB m
theorem treeAll_end (l : List ref14_Class) (hl : l.length ≤ 70) (hf : ∀ c, c ∈ l → SmallC c) (hK : ∀ c, c ∈ l → ∀ m, m ∈ c.Methods → ∀ n, n ∈ m.Nodes → 0 ≤ n.K) :
    ∃ b : Bool, tree_CheckAll (l.map giveC) = some (if b = true then none else some 1) ∧ ref14_MayAll l = some b := by
  have h1 := mayAll_eq l okM (fun c hc m hm => ((hf c hc).ms m hm).may (hK c hc m hm)) (by unfold bigN; omega) (fun c hc => by have := (hf c hc).v; unfold bigN; omega) (fun c hc => by have := (hf c hc).m; unfold bigN; omega)
  have hmem : ∀ c, c ∈ l.map giveC → ∃ c0, c0 ∈ l ∧ c = giveC c0 := fun c hc => by
    obtain ⟨c0, h, e⟩ := List.mem_map.1 hc
    exact ⟨c0, h, e.symm⟩
  have h2 := checkAll_eq (l.map giveC) okT (fun c hc m hm => by
    obtain ⟨c0, hc0, rfl⟩ := hmem c hc
    obtain ⟨m0, hm0, rfl⟩ := List.mem_map.1 hm
    exact ((hf c0 hc0).ms m0 hm0).check (hK c0 hc0 m0 hm0)) (by simp; unfold bigN; omega) (fun c hc => by
      obtain ⟨c0, hc0, rfl⟩ := hmem c hc
      have := (hf c0 hc0).v; show c0.Vars.length ≤ _; unfold bigN; omega) (fun c hc => by
      obtain ⟨c0, hc0, rfl⟩ := hmem c hc
      have := (hf c0 hc0).m; show (c0.Methods.map giveM).length ≤ _; simp; unfold bigN; omega)
  refine ⟨_, ?_, h1⟩
  rw [h2]
  have : ((l.map giveC).all (tclassB okT)) = l.all (classB okM) := by
    rw [List.all_map]
    congr 1
    funext c
    show tclassB okT (giveC c) = classB okM c
    unfold tclassB classB giveC
    simp only [List.length_map, List.all_map]
    rfl
  rw [this, List.length_map]
theorem treeAll_l2 (l : List ref14_Class) (c : ref14_Class) (i : Nat) (hi : l[i]? = some c) (K : Unit → Option Bool) (hm : c.Methods.length ≤ 1000) : ∀ (r : List ref14_Method) (k q : Nat), c.Methods.drop k = r → k ≤ c.Methods.length → r.length < q →
    law14_TreeAll_l2 l (i : Int) K q (k : Int) = some true ∨ (law14_TreeAll_l2 l (i : Int) K q (k : Int) = K () ∧ ∀ m, m ∈ r → Small m) := by
  intro r
  induction r with
  | nil =>
    intro k q h hk hq
    obtain ⟨q, rfl⟩ : ∃ q', q = q' + 1 := ⟨q - 1, by simp at hq; omega⟩
    have : k = c.Methods.length := by have : c.Methods.length ≤ k := by simpa using h
                                      omega
    subst this
    right
    simp only [law14_TreeAll_l2]
    rw [lAt_nat hi, bindS, ge_len, ifF]
    exact ⟨rfl, fun m hm => by simp at hm⟩
  | cons x r ih =>
    intro k q h hk hq
    obtain ⟨q, rfl⟩ : ∃ q', q = q' + 1 := ⟨q - 1, by simp at hq; omega⟩
    obtain ⟨e1, e2, e3⟩ := getDrop h
    obtain ⟨b, g1, g2⟩ := bigTree_eq x
    simp only [law14_TreeAll_l2]
    rw [lAt_nat hi, bindS, lt_len e3, if_pos rfl, lAt_nat e1, bindS, g1, bindS, sure_true, bindS, cks (by omega), bindS]
    cases b with
    | true => left; rw [if_pos rfl]
    | false =>
      rw [ifF]
      rcases ih (k+1) q e2 (by omega) (by simp at hq; omega) with h1 | ⟨h1, h2⟩
      · exact .inl h1
      · refine .inr ⟨h1, fun m hm => ?_⟩
        rcases List.mem_cons.1 hm with rfl | hm
        · exact g2 rfl
        · exact h2 m hm
theorem treeAll_l1 (l : List ref14_Class) (hl : l.length ≤ 1000) (K : Unit → Option Bool) : ∀ (r : List ref14_Class) (k q : Nat), l.drop k = r → k ≤ l.length → r.length < q →
    law14_TreeAll_l1 l K q (k : Int) = some true ∨ (law14_TreeAll_l1 l K q (k : Int) = K () ∧ ∀ c, c ∈ r → SmallC c) := by
  intro r
  induction r with
  | nil =>
    intro k q h hk hq
    obtain ⟨q, rfl⟩ : ∃ q', q = q' + 1 := ⟨q - 1, by simp at hq; omega⟩
    have : k = l.length := by have : l.length ≤ k := by simpa using h
                              omega
    subst this
    right
    simp only [law14_TreeAll_l1]
    rw [ge_len, ifF]
    exact ⟨rfl, fun m hm => by simp at hm⟩
  | cons x r ih =>
    intro k q h hk hq
    obtain ⟨q, rfl⟩ : ∃ q', q = q' + 1 := ⟨q - 1, by simp at hq; omega⟩
    obtain ⟨e1, e2, e3⟩ := getDrop h
    obtain ⟨b, g1, g2⟩ := bigTexts_eq x.Vars
    simp only [law14_TreeAll_l1]
    rw [lt_len e3, if_pos rfl, lAt_nat e1, bindS, g1, bindS, sure_true, letK_e, cks (by omega), bindS]
    by_cases c1 : x.Name.length ≤ 1100
    · rw [decide_eq_false (by omega), ifF]
      by_cases c2 : x.Super.length ≤ 1100
      · rw [decide_eq_false (by omega), ifF]
        cases b with
        | true => left; rw [if_pos rfl, bindS, if_pos rfl]
        | false =>
          rw [ifF, bindS]
          by_cases c3 : x.Methods.length ≤ 20
          · rw [decide_eq_false (by omega), ifF]
            have h2 := treeAll_l2 l x k e1 (fun _ => (some ((k + 1 : Nat) : Int)).bind fun v37 => law14_TreeAll_l1 l K q v37) (by omega) x.Methods 0 fuel rfl (Nat.zero_le _) (by unfold fuel; omega)
            rw [show ((0 : Nat) : Int) = 0 from rfl] at h2
            rcases h2 with h2 | ⟨h2, h3⟩
            · exact .inl h2
            · rw [h2, bindS]
              rcases ih (k+1) q e2 (by omega) (by simp at hq; omega) with h4 | ⟨h4, h5⟩
              · exact .inl h4
              · refine .inr ⟨h4, fun c hc => ?_⟩
                rcases List.mem_cons.1 hc with rfl | hc
                · exact ⟨(g2 rfl).1, c3, h3⟩
                · exact h5 c hc
          · left; rw [decide_eq_true (by omega), if_pos rfl]
      · left; rw [decide_eq_true (by omega), if_pos rfl, bindS, if_pos rfl]
    · left; rw [decide_eq_true (by omega), if_pos rfl, bindS, if_pos rfl]
theorem treeAll (l : List ref14_Class) (hK : ∀ c, c ∈ l → ∀ m, m ∈ c.Methods → ∀ n, n ∈ m.Nodes → 0 ≤ n.K) : law14_TreeAll l = some true := by
  unfold law14_TreeAll
  rw [sure_true, bindS, letK_e]
  by_cases hl : l.length ≤ 70
  · rw [decide_eq_false (by omega), ifF]
    have h1 := treeAll_l1 l (by omega) (fun _ => (law14_giveClasses l).bind fun v38 =>
      (tree_CheckAll v38).bind fun v39 =>
      (ref14_MayAll l).bind fun v40 =>
      (
        if (v39.isNone == v40) then
          if v40 then
            some true
          else
            (law_num v39).bind fun v45 =>
            if (decide (v45 = 1)) then
              some true
            else
              some false
        else
          some false
      ).bind fun y41 =>
      some y41) l 0 fuel rfl (Nat.zero_le _) (by unfold fuel; omega)
    rw [show ((0 : Nat) : Int) = 0 from rfl] at h1
    rcases h1 with h1 | ⟨h1, h2⟩
    · exact h1
    · refine h1.trans ?_
      obtain ⟨b, g1, g2⟩ := treeAll_end l hl h2 hK
      rw [giveC_eq l (by omega) h2, bindS, g1, bindS, g2, bindS]
      cases b <;> rfl
  · rw [decide_eq_true (by omega), if_pos rfl]
end Go.Cq

