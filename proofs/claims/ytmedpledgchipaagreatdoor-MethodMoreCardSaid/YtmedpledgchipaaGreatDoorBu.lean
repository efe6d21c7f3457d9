import Derived.Test.YtmedpledgchipaaGreatDoorEx5
import Derived.Laws.MakeOwn
set_option linter.unusedSectionVars false
set_option linter.unusedVariables false
set_option linter.unusedSimpArgs false
set_option linter.unnecessarySimpa false
namespace Go.Av
open Go
mutual
theorem ren_id : ∀ x : AV, ren (fun i => i) x = x
 | .any | .int _ _ | .bool _ | .str _ | .sl _ _ | .nilp | .ip _ | .nilI | .nilF | .nilM | .adr _ | .fl _ | .ptr _ _ | .rs _ _ _ _ _ _ | .bld _ _ => by simp [ren]
 | .agg cs => by simp only [ren, renL_id cs]
 | .tup cs => by simp only [ren, renL_id cs]
 | .iface _ v => by simp only [ren, ren_id v]
 | .fn _ l1 l2 => by simp only [ren, renL_id l1, renL_id l2]
theorem renL_id : ∀ l : List AV, renL (fun i => i) l = l
 | [] => rfl
 | x :: l => by simp only [renL, ren_id x, renL_id l]
end
theorem VR.but [Lay] {g g' : Gh} {p : Nat → Bool} (hi : ∀ b o v, g.ow b o = .imm v → g'.ow b o = .imm v) (hl : ∀ id l, p id = true → g.loc id = some l → g'.loc id = some l) (hz : ∀ b e, g.fz b = some e → g'.fz b = some e) {av : AV} {v : Value} (h : VR g av v) (hp : allR p av = true) : VR g' av v := by
 have := VR.ren (f := fun i => i) hi hl hz h hp
 rwa [ren_id] at this
section
variable [Lay] {P : Program} {tm : List AV} {hp : Heap} {g : Gh} {a : Array Value} {w : World}
theorem Rel.more (h : Rel g tm hp a w) {id : Nat} {cs0 : List AV} (hcs : hp[id]? = some (some cs0)) (avs : List AV) (vs : List Value) (hl : avs.length = vs.length)
  {b base c : Nat} (hloc : g.loc id = some (b, base, c)) (hb : cs0.length + avs.length ≤ c)
  (hv : ∀ (j : Nat) (x : AV) (u : Value), avs[j]? = some x → vs[j]? = some u → VR g x u ∧ Tail g (.cell id (cs0.length + j)) x u) :
  Rel g tm (hset hp id (cs0 ++ avs)) a (w.setCells b (base + cs0.length) vs) ∧ (∀ n, Stp n g w g (w.setCells b (base + cs0.length) vs)) ∧
   (∀ j, j < vs.length → (w.cell? ⟨b, base + cs0.length + j, none⟩).isSome = true) ∧ (∀ j, j < vs.length → w.frozen? ⟨b, base + cs0.length + j, none⟩ = false) := by
 obtain ⟨b', base', c', e1, e2, e3, e4⟩ := h.heap id _ hcs
 rw [hloc] at e1
 simp only [Option.some.injEq, Prod.mk.injEq] at e1
 obtain ⟨rfl, rfl, rfl⟩ := e1
 generalize hoff : cs0.length = off at *
 have hown : ∀ j, j < vs.length → g.ow b (base + off + j) = .blk id := fun j hj => by
  have := e3 (off + j) (by omega); rwa [Nat.add_assoc]
 have hc1 : ∀ j, j < vs.length → (w.cell? ⟨b, base + off + j, none⟩).isSome = true := fun j hj => by
  obtain ⟨⟨v, hv⟩, _⟩ := h.owns b (base + off + j) (by rw [hown j hj]; simp)
  simp [hv]
 have hc2 : ∀ j, j < vs.length → w.frozen? ⟨b, base + off + j, none⟩ = false := fun j hj =>
  (h.owns b (base + off + j) (by rw [hown j hj]; simp)).2 (by rw [hown j hj]; simp)
 have hout : ∀ b' o', (b' = b → o' < base + off ∨ base + off + vs.length ≤ o') → (w.setCells b (base + off) vs).cell? ⟨b', o', none⟩ = w.cell? ⟨b', o', none⟩ :=
  fun b' o' hh => World.cell?_setCells_out b vs (base + off) w ⟨b', o', none⟩ (fun hb _ => hh hb)
 have hfr : ∀ x, (w.setCells b (base + off) vs).frozen? x = w.frozen? x := fun x => World.frozen?_setCells b vs (base + off) w x
 have hnot : ∀ b' o', g.ow b' o' ≠ .blk id → (b' = b → o' < base + off ∨ base + off + vs.length ≤ o') := fun b' o' hh e => by
  subst e
  rcases Nat.lt_or_ge o' (base + off) with h' | h'
  ·exact .inl h'
  ·rcases Nat.lt_or_ge o' (base + off + vs.length) with h'' | h''
   ·exact absurd (by have := hown (o' - (base + off)) (by omega); rwa [show base + off + (o' - (base + off)) = o' by omega] at this) hh
   ·exact .inr h''
 refine ⟨⟨h.size, h.slots, fun id' cs hc => ?_, fun i hi => h.locs i (by simpa using hi), fun b' o' v hi => ?_, fun b' o' hi => ?_, fzs_of h.fzs (fun b' c e f hb => heap_setCells vs _ w b' c e f hb) (fun _ _ _ h => h) rfl⟩, fun n => Stp.setCells _ _ _ (fun j hj => by rw [hown j hj]; simp), hc1, hc2⟩
 ·rw [hset_eq] at hc
  by_cases e : id' = id
  ·subst e
   rw [List.getElem?_set] at hc
   have hlt : id' < hp.length := (List.getElem?_eq_some_iff.1 hcs).1
   simp [hlt] at hc; subst hc
   refine ⟨b, base, c, hloc, by rw [List.length_append, hoff]; exact hb, e3, fun j x hx => ?_⟩
   by_cases hj : j < off
   ·rw [List.getElem?_append_left (by omega)] at hx
    obtain ⟨v, a1, a2, a3⟩ := e4 j x hx
    refine ⟨v, ?_, a2, a3⟩
    rw [hout _ _ (fun _ => by omega)]; exact a1
   ·rw [List.getElem?_append_right (by omega), hoff] at hx
    have hjj : j - off < vs.length := by have := (List.getElem?_eq_some_iff.1 hx).1; omega
    have := hv (j - off) x vs[j - off] hx (List.getElem?_eq_getElem hjj)
    refine ⟨vs[j - off], ?_, this.1, by have := this.2; rwa [show off + (j - off) = j by omega] at this⟩
    have := World.cell?_setCells_in b vs (base + off) w hc1 (j - off) hjj
    rwa [show base + off + (j - off) = base + j by omega] at this
  ·rw [List.getElem?_set, if_neg (by omega)] at hc
   obtain ⟨b', base', c', d1, d2, d3, d4⟩ := h.heap id' cs hc
   refine ⟨b', base', c', d1, d2, d3, fun j x hx => ?_⟩
   obtain ⟨v, a1, a2, a3⟩ := d4 j x hx
   refine ⟨v, ?_, a2, a3⟩
   have hj : j < c' := Nat.lt_of_lt_of_le (List.getElem?_eq_some_iff.1 hx).1 d2
   rw [hout _ _ (hnot _ _ (by rw [d3 j hj]; simp; exact e))]; exact a1
 ·rw [hout _ _ (hnot _ _ (by rw [hi]; simp))]; exact h.imms _ _ _ hi
 ·rw [hfr]
  have := h.owns b' o' hi
  refine ⟨?_, this.2⟩
  by_cases e : b' = b ∧ base + off ≤ o' ∧ o' < base + off + vs.length
  ·obtain ⟨rfl, h1, h2⟩ := e
   have := World.cell?_setCells_in b' vs (base + off) w hc1 (o' - (base + off)) (by omega)
   rw [show base + off + (o' - (base + off)) = o' by omega] at this
   exact ⟨_, this⟩
  ·rw [hout _ _ (fun e' => by subst e'; simp at e; omega)]; exact this.1
def Gh.take (g : Gh) (n id : Nat) : Gh where
 ow := fun b o => match g.ow b o with
  | .blk i => if i = n then .blk id else if i = id then .free else .blk i
  | .cell i o' => if i = n ∨ i = id then .free else .cell i o'
  | x => x
 loc := fun i => if i = id then g.loc n else if i = n then none else g.loc i
 fz := g.fz
theorem take_imm {n id b o : Nat} {v : Value} : (g.take n id).ow b o = .imm v ↔ g.ow b o = .imm v := by
  simp only [Gh.take]
  cases e : g.ow b o with
  | blk i => simp only; split <;> (try split) <;> simp
  | cell i o' => simp only; split <;> simp
  | _ => simp
def notB (n id : Nat) (i : Nat) : Bool := i != n && i != id
theorem Tail.plain {g g' : Gh} {k k' : Owner} {x : AV} {v : Value} (hz : ∀ b e, g.fz b = some e → g'.fz b = some e) (hk : ∀ b o, g.ow b o = k → g'.ow b o = k') (h : Tail g k x v) : Tail g' k' x v := by
 cases x with
 | sl own l =>
  cases own with
  | none => exact Tail.meek (by intro l; simp)
  | some oe =>
   cases v with
   | slice a' n' cap =>
    rcases h with ⟨h1, h2, h3⟩ | ⟨h0, b, o, es, e1, e2, e3, e4, e5, e6⟩
    ·exact .inl ⟨h1, h2, h3.imp id fun ⟨b, o, e1, e, e2⟩ => ⟨b, o, e1, e, hz _ _ e2⟩⟩
    ·exact .inr ⟨h0, b, o, es, e1, e2, e3, fun j hj hj' => hk _ _ (e4 j hj hj'), e5, fun e' he => by obtain ⟨e, q1, q2⟩ := e6 e' he; exact ⟨e, hz _ _ q1, q2⟩⟩
   | _ => trivial
 | _ => exact Tail.meek (by intro l; simp)
theorem Rel.take {cs : List AV} (h : Rel g tm (hp ++ [some cs]) a w) {id : Nat} (hid : id < hp.length) (htm : ∀ t, allR (notB hp.length id) (lget tm t) = true)
  (hot : ∀ (i : Nat) cs', i ≠ id → hp[i]? = some (some cs') → ∀ x, x ∈ cs' → allR (notB hp.length id) x = true) (hcs : ∀ x, x ∈ cs → noRef x = true ∧ Meek x) :
  Rel (g.take hp.length id) tm (hset hp id cs) a w ∧ (∀ nb, nb ≤ id → Stp nb g w (g.take hp.length id) w) := by
 have hn : ∀ {i l}, notB hp.length id i = true → g.loc i = some l → (g.take hp.length id).loc i = some l := fun {i l} hi hl => by
  simp only [notB, Bool.and_eq_true, bne_iff_ne, ne_eq] at hi
  simp only [Gh.take]; rw [if_neg hi.2, if_neg hi.1]; exact hl
 have hm : ∀ {x u}, VR g x u → allR (notB hp.length id) x = true → VR (g.take hp.length id) x u := fun hv ha => hv.but (fun b o v h => take_imm.2 h) (fun i l => hn) (fun _ _ h => h) ha
 have hm0 : ∀ {x u}, VR g x u → noRef x = true → VR (g.take hp.length id) x u := fun hv ha => hv.noref (fun b o v h => take_imm.2 h) (fun _ _ h => h) ha
 have hlast : ∃ b base c, g.loc hp.length = some (b, base, c) ∧ cs.length ≤ c ∧ (∀ j, j < c → g.ow b (base + j) = .blk hp.length) ∧ ∀ (j : Nat) av, cs[j]? = some av → ∃ v, w.cell? ⟨b, base + j, none⟩ = some v ∧ VR g av v ∧ Tail g (.cell hp.length j) av v := h.heap hp.length cs (by simp)
 have hne : hp.length ≠ id := by omega
 refine ⟨⟨h.size, fun t => ⟨hm (h.slots t).1 (htm t), Tail.plain (g := g) (g' := g.take hp.length id) (k' := .slot t) (fun _ _ h => h) (fun b o e => by simp [Gh.take, e]) (h.slots t).2⟩, fun i cs' hc => ?_, fun i hi => ?_, fun b o v hv => h.imms _ _ _ (take_imm.1 hv), fun b o hv => ?_, fun b e he => ?_⟩, fun nb hnb => ⟨fun b o v hv => take_imm.2 hv, fun b o _ hv => by simp [Gh.take, hv], fun i l hi hl => ?_, .refl _ _, fun _ _ h => h, fun _ _ h => h⟩⟩
 ·rw [hset_eq, List.getElem?_set] at hc
  by_cases e : id = i
  ·subst e
   simp [hid] at hc; subst hc
   obtain ⟨b, base, c, e1, e2, e3, e4⟩ := hlast
   refine ⟨b, base, c, by simp [Gh.take, e1], e2, fun j hj => by simp [Gh.take, e3 j hj], fun j x hx => ?_⟩
   obtain ⟨v, a1, a2, _⟩ := e4 j x hx
   have := hcs x (List.mem_of_getElem? hx)
   exact ⟨v, a1, hm0 a2 this.1, Tail.meek this.2⟩
  ·rw [if_neg e] at hc
   have hilt : i < hp.length := (List.getElem?_eq_some_iff.1 hc).1
   obtain ⟨b, base, c, e1, e2, e3, e4⟩ := h.heap i cs' (by rw [List.getElem?_append_left hilt]; exact hc)
   have hni : notB hp.length id i = true := by simp [notB]; omega
   refine ⟨b, base, c, hn hni e1, e2, fun j hj => ?_, fun j x hx => ?_⟩
   ·simp only [Gh.take, e3 j hj]; rw [if_neg (by omega), if_neg (by omega)]
   ·obtain ⟨v, a1, a2, a3⟩ := e4 j x hx
    refine ⟨v, a1, hm a2 (hot i cs' (Ne.symm e) hc x (List.mem_of_getElem? hx)), Tail.plain (g := g) (g' := g.take hp.length id) (k := .cell i j) (k' := .cell i j) (fun _ _ h => h) (fun b o e9 => ?_) a3⟩
    simp only [Gh.take, e9]; rw [if_neg (by omega)]
 ·rw [length_hset] at hi
  simp only [Gh.take]; rw [if_neg (by omega)]
  split
  ·rfl
  ·exact h.locs i (by simp; omega)
 ·have hne' : g.ow b o ≠ .free := fun e => by simp [Gh.take, e] at hv
  have := h.owns b o hne'
  refine ⟨this.1, fun hi => this.2 fun v e => hi v (take_imm.2 e)⟩
 ·obtain ⟨c, lo, hi, q1, q2, q3⟩ := h.fzs b e he
  exact ⟨c, lo, hi, q1, q2, fun o ho ho' => by obtain ⟨v, hv⟩ := q3 o ho ho'; exact ⟨v, take_imm.2 hv⟩⟩
 ·have : i < hp.length := by omega
  simp only [Gh.take]; rw [if_neg (by omega), if_neg (by omega)]; exact hl
def Gh.frz (g : Gh) (w : World) (id b base n : Nat) : Gh where
 ow := fun b' o => if b' = b ∧ base ≤ o ∧ o < base + n then .imm ((w.cell? ⟨b', o, none⟩).getD undef) else match g.ow b' o with
  | .blk i => if i = id then .free else .blk i
  | .cell i o' => if i = id then .free else .cell i o'
  | x => x
 loc := fun i => if i = id then none else g.loc i
 fz := g.fz
def notI (id : Nat) (i : Nat) : Bool := i != id
theorem Rel.frz (h : Rel g tm hp a w) {id : Nat} {cs : List AV} (hc0 : hp[id]? = some (some cs)) {b base c : Nat} (hloc : g.loc id = some (b, base, c)) (htm : ∀ t, allR (notI id) (lget tm t) = true)
    (hot : ∀ (i : Nat) cs', i ≠ id → hp[i]? = some (some cs') → ∀ x, x ∈ cs' → allR (notI id) x = true) (hcs : ∀ x, x ∈ cs → noRef x = true ∧ x.cells = [x]) {hp2 : Heap} (h2 : ∀ (i : Nat) cs', hp2[i]? = some (some cs') → i ≠ id ∧ hp[i]? = some (some cs')) (h3 : ∀ i, hp2.length ≤ i → i = id ∨ hp.length ≤ i) :
    Rel (g.frz w id b base cs.length) tm hp2 a w ∧ (∀ nb, nb ≤ id → Stp nb g w (g.frz w id b base cs.length) w) ∧ ∀ cap own, cs.length ≤ cap → cs.length ≤ maxB → own ≠ some none → VR (g.frz w id b base cs.length) (.sl own cs) (.slice (some ⟨b, base, none⟩) cs.length cap) := by
  obtain ⟨b', base', c', e1, e2, e3, e4⟩ := h.heap id _ hc0
  rw [hloc] at e1
  simp only [Option.some.injEq, Prod.mk.injEq] at e1
  obtain ⟨rfl, rfl, rfl⟩ := e1
  have hin : ∀ b' o, (b' = b ∧ base ≤ o ∧ o < base + cs.length) → g.ow b' o = .blk id := by
    rintro b' o ⟨rfl, h1, h2⟩
    have := e3 (o - base) (by omega)
    rwa [show base + (o - base) = o by omega] at this
  have himm : ∀ {b' o v}, g.ow b' o = .imm v → (g.frz w id b base cs.length).ow b' o = .imm v := fun {b' o v} hv => by
    simp only [Gh.frz]; rw [if_neg (fun e => by rw [hin _ _ e] at hv; cases hv), hv]
  have hn : ∀ {i l}, notI id i = true → g.loc i = some l → (g.frz w id b base cs.length).loc i = some l := fun {i l} hi hl => by
    simp only [notI, bne_iff_ne, ne_eq] at hi
    simp only [Gh.frz]; rw [if_neg hi]; exact hl
  have hm : ∀ {x u}, VR g x u → allR (notI id) x = true → VR (g.frz w id b base cs.length) x u := fun hv ha => hv.but (fun b o v h => himm h) (fun i l => hn) (fun _ _ h => h) ha
  have hm0 : ∀ {x u}, VR g x u → noRef x = true → VR (g.frz w id b base cs.length) x u := fun hv ha => hv.noref (fun b o v h => himm h) (fun _ _ h => h) ha
  have hother : ∀ b' o k, g.ow b' o = k → (∀ i, k ≠ .blk i) → (∀ i o', k = .cell i o' → i ≠ id) → (g.frz w id b base cs.length).ow b' o = k := fun b' o k hk h1 h2 => by
    simp only [Gh.frz]; rw [if_neg (fun e => h1 id (by rw [← hk]; exact hin _ _ e)), hk]
    cases k with
    | blk i => exact absurd rfl (h1 i)
    | cell i o' => simp only; rw [if_neg (h2 i o' rfl)]
    | _ => rfl
  have hnew : ∀ j, j < cs.length → ∃ v, w.cell? ⟨b, base + j, none⟩ = some v ∧ (g.frz w id b base cs.length).ow b (base + j) = .imm v := fun j hj => by
    obtain ⟨v, hv, _⟩ := e4 j _ (List.getElem?_eq_getElem hj)
    refine ⟨v, hv, ?_⟩
    simp only [Gh.frz]; rw [if_pos (⟨True.intro, by omega, by omega⟩ : True ∧ base ≤ base + j ∧ base + j < base + cs.length), hv]; rfl
  refine ⟨⟨h.size, fun t => ⟨hm (h.slots t).1 (htm t), Tail.plain (g := g) (g' := g.frz w id b base cs.length) (k' := .slot t) (fun _ _ h => h) (fun b o e => hother _ _ _ e (by simp) (by simp)) (h.slots t).2⟩, fun i cs' hc => ?_, fun i hi => ?_, fun b' o v hv => ?_, fun b' o hv => ?_, fun b' e he => ?_⟩, fun nb hnb => ⟨fun b' o v hv => himm hv, fun b' o _ hv => hother _ _ _ hv (by simp) (by simp), fun i l hi hl => ?_, .refl _ _, fun _ _ h => h, fun _ _ h => h⟩, fun cap own hcap hmx hno => ?_⟩
  · obtain ⟨hne, hc⟩ := h2 i cs' hc
    obtain ⟨b', base', c', d1, d2, d3, d4⟩ := h.heap i cs' hc
    have hni : notI id i = true := by simp [notI]; exact hne
    refine ⟨b', base', c', hn hni d1, d2, fun j hj => ?_, fun j x hx => ?_⟩
    · simp only [Gh.frz]
      rw [if_neg (fun e => by have := hin _ _ e; rw [d3 j hj] at this; cases this; exact hne rfl), d3 j hj]
      simp only; rw [if_neg hne]
    · obtain ⟨v, a1, a2, a3⟩ := d4 j x hx
      exact ⟨v, a1, hm a2 (hot i cs' hne hc x (List.mem_of_getElem? hx)), Tail.plain (g := g) (g' := g.frz w id b base cs.length) (k' := .cell i j) (fun _ _ h => h) (fun b o e9 => hother _ _ _ e9 (by simp) (fun i' o' e => by cases e; exact hne)) a3⟩
  · simp only [Gh.frz]
    split
    · rfl
    · rename_i hne
      rcases h3 i hi with h3 | h3
      · exact absurd h3 hne
      · exact h.locs i h3
  · simp only [Gh.frz] at hv
    split at hv
    · rename_i e
      obtain ⟨rfl, h4, h5⟩ := e
      obtain ⟨v', hv', _⟩ := hnew (o - base) (by omega)
      rw [show base + (o - base) = o by omega] at hv'
      rw [hv'] at hv; cases hv; exact hv'
    · split at hv
      · split at hv <;> cases hv
      · split at hv <;> cases hv
      · exact h.imms _ _ _ hv
  · by_cases e : b' = b ∧ base ≤ o ∧ o < base + cs.length
    · obtain ⟨rfl, h4, h5⟩ := e
      obtain ⟨v', hv', hw'⟩ := hnew (o - base) (by omega)
      rw [show base + (o - base) = o by omega] at hv' hw'
      exact ⟨⟨v', hv'⟩, fun hi => absurd hw' (hi v')⟩
    · have hne' : g.ow b' o ≠ .free := fun e' => by simp [Gh.frz, e, e'] at hv
      have := h.owns b' o hne'
      exact ⟨this.1, fun hi => this.2 fun v e' => hi v (himm e')⟩
  · obtain ⟨c, lo, hi, q1, q2, q3⟩ := h.fzs b' e he
    exact ⟨c, lo, hi, q1, q2, fun o ho ho' => by obtain ⟨v, hv⟩ := q3 o ho ho'; exact ⟨v, himm hv⟩⟩
  · simp only [Gh.frz]; rw [if_neg (by omega)]; exact hl
  · have hflat : ∀ l : List AV, (∀ x, x ∈ l → x.cells = [x]) → l.flatMap AV.cells = l := by
      intro l
      induction l with
      | nil => intro _; rfl
      | cons x l ih => intro hl; rw [List.flatMap_cons, hl x (by simp), ih fun y hy => hl y (by simp [hy])]; rfl
    have hf := hflat cs fun x hx => (hcs x hx).2
    refine .sl rfl hcap hmx b base 1 (fun j => (w.cell? ⟨b, base + j, none⟩).getD undef) (fun _ => rfl) (fun x hx => by rw [(hcs x hx).2]; rfl) (by omega) (fun x hx y hy => ?_) (fun j av hj => ?_) (fun j av hj => ?_) (fun e => absurd e hno)
    · rw [(hcs x hx).2] at hy; simp at hy; subst hy; exact (hcs _ hx).1
    · rw [hf] at hj
      obtain ⟨v, q1, q2⟩ := hnew j (List.getElem?_eq_some_iff.1 hj).1
      rw [q2, q1]; rfl
    · rw [hf] at hj
      obtain ⟨v, q1, q2, _⟩ := e4 j av hj
      rw [q1]
      exact hm0 q2 (hcs av (List.mem_of_getElem? hj)).1
end
end Go.Av

namespace Go.Av
open Go
def killA (id : Nat) (x : AV) : AV := bif allR (notI id) x then x else .any
def killI (id : Nat) (tm : List AV) : List AV := tm.map (killA id)
theorem lget_killI {id : Nat} {tm : List AV} (t : Nat) : lget (killI id tm) t = killA id (lget tm t) := by
  rw [lget_eq, lget_eq, killI, List.getD_eq_getElem?_getD, List.getD_eq_getElem?_getD, List.getElem?_map]
  cases tm[t]? <;> rfl
theorem killI_len {id : Nat} {tm : List AV} : (killI id tm).length = tm.length := by simp [killI]
theorem killA_all {id : Nat} {x : AV} : allR (notI id) (killA id x) = true := by
 unfold killA
 cases h : allR (notI id) x with
 | true => exact h
 | false => rfl
mutual
theorem allR_and {p q : Nat → Bool} : ∀ {x : AV}, allR p x = true → allR q x = true → allR (fun i => p i && q i) x = true
 | .any, _, _ | .int _ _, _, _ | .bool _, _, _ | .str _, _, _ | .sl _ _, _, _ | .nilp, _, _ | .ip _, _, _ | .nilI, _, _ | .nilF, _, _ | .nilM, _, _ | .adr _, _, _ | .fl _, _, _ => by simp [allR]
 | .rs _ _ _ _ _ _, h1, h2 => by simp only [allR] at *; rw [h1, h2]; rfl
 | .ptr _ _, h1, h2 => by simp only [allR] at *; rw [h1, h2]; rfl
 | .bld _ _, h1, h2 => by simp only [allR] at *; rw [h1, h2]; rfl
 | .agg cs, h1, h2 => by simp only [allR] at *; exact allRL_and h1 h2
 | .tup cs, h1, h2 => by simp only [allR] at *; exact allRL_and h1 h2
 | .iface _ v, h1, h2 => by simp only [allR] at *; exact allR_and h1 h2
 | .fn _ l1 l2, h1, h2 => by simp only [allR, Bool.and_eq_true] at *; exact ⟨allRL_and h1.1 h2.1, allRL_and h1.2 h2.2⟩
theorem allRL_and {p q : Nat → Bool} : ∀ {l : List AV}, allRL p l = true → allRL q l = true → allRL (fun i => p i && q i) l = true
 | [], _, _ => by simp [allRL]
 | x :: l, h1, h2 => by simp only [allRL, Bool.and_eq_true] at *; exact ⟨allR_and h1.1 h2.1, allRL_and h1.2 h2.2⟩
end
theorem ltR_ne [Lay] {n : Nat} {x : AV} (h : ltR n x = true) : allR (fun i => i != n) x = true := ltR_allR (fun i hi => by simp; omega) h
section
variable [Lay] {P : Program} {tm : List AV} {hp : Heap} {g : Gh} {a : Array Value} {w : World}
theorem Rel.kill (h : Rel g tm hp a w) (id : Nat) : Rel g (killI id tm) hp a w := by
 refine ⟨by rw [killI_len]; exact h.size, fun t => ?_, h.heap, h.locs, h.imms, h.owns, h.fzs⟩
 rw [lget_killI]
 unfold killA
 cases allR (notI id) (lget tm t) with
 | true => exact h.slots t
 | false => exact ⟨.any _, Tail.meek (by intro l; simp)⟩
theorem Rel.newEmpty (h : Rel g tm hp a w) : ∃ g', Rel g' tm (hp ++ [some []]) a w ∧ (∀ nb, nb ≤ hp.length → Stp nb g w g' w) ∧ g'.loc hp.length = some (0, 0, 0) ∧ g'.fz = g.fz ∧ (∀ x u, VR g x u → VR g' x u) := by
 have hm : ∀ {x u}, VR g x u → VR { g with loc := fun i => if i = hp.length then some (0, 0, 0) else g.loc i } x u := fun hv => hv.loc (h.locs _ (Nat.le_refl _))
 refine ⟨{ g with loc := fun i => if i = hp.length then some (0, 0, 0) else g.loc i }, ⟨h.size, fun t => ⟨hm (h.slots t).1, (h.slots t).2⟩, fun id cs hc => ?_, fun id hid => ?_, h.imms, h.owns, h.fzs⟩, fun nb hnb => .of (fun _ _ _ h => h) (fun _ _ _ h => h) (fun id l hi hl => ?_) (.refl _ _) rfl, by simp, rfl, fun x u => hm⟩
 ·by_cases e : id < hp.length
  ·rw [List.getElem?_append_left e] at hc
   obtain ⟨b, base, c, e1, e2, e3, e4⟩ := h.heap id cs hc
   refine ⟨b, base, c, by simp [Nat.ne_of_lt e, e1], e2, e3, fun j av hj => ?_⟩
   obtain ⟨v, a1, a2, a3⟩ := e4 j av hj
   exact ⟨v, a1, hm a2, a3⟩
  ·rw [List.getElem?_append_right (by omega)] at hc
   cases hd : id - hp.length with
   | zero =>
    rw [hd] at hc; simp at hc; subst hc
    have : id = hp.length := by omega
    subst this
    exact ⟨0, 0, 0, by simp, by simp, fun j hj => by omega, fun j av hj => by simp at hj⟩
   | succ n => rw [hd] at hc; simp at hc
 ·simp at hid
  simp only
  rw [if_neg (by omega)]; exact h.locs id (by omega)
 ·simp only; rw [if_neg (by omega)]; exact hl
theorem opn_append {t t2 : TypeId} {r : List TypeId} {x y : Operand} {e : El} {id nb : Nat} {ag full : Bool} {cs : List AV} {dst : Option Nat} {ty : TypeId} {pos : String} {after : Array Edge} {gd : Option (Nat × Bool)}
    (h : Rel g tm hp a w) (hx : okOpd x = true) (hy : okOpd y = true) (he : elOf P t = some e) (hsz : e.sz = 1) (hxv : opv tm x = .rs id 0 cs.length 1 ag full) (hcs : hp[id]? = some (some cs)) (hc : appc e (.sl (some none) cs) (opv tm y))
    (hone : ∀ z, z ∈ elsOf (opv tm y) → z.cells = [z] ∧ Meek z) (hold : ∀ z, z ∈ cs → noRef z = true ∧ z.cells = [z] ∧ Meek z)
    (hot : ∀ (i : Nat) cs', i ≠ id → hp[i]? = some (some cs') → ∀ x, x ∈ cs' → allR (notI id) x = true) (hnb : nb ≤ id)
    (hk : kindOf P t2 = 1 ∨ kindOf P t2 = 2) {args : Array Operand} {tys : Array TypeId} (ha : args.toList = [x, y]) (ht : tys.toList = t :: t2 :: r) :
    OpN P nb ⟨dst, .call { callee := .builtin .append, args, argTypes := tys }, ty, pos, after, gd⟩ (put (killI id tm) dst (.rs id 0 (cs.length + (elsOf (opv tm y)).length) 1 ag false)) (hset hp id (cs ++ elsOf (opv tm y))) g a w := by
  have ha' : args = #[x, y] := by rw [← Array.toList_inj]; simpa using ha
  subst ha'
  have hidlt : id < hp.length := (List.getElem?_eq_some_iff.1 hcs).1
  obtain ⟨hu, hs, hag, hby, z, hz⟩ := el_of he
  obtain ⟨i, zz, hi, hzz, hok, hsz0, _⟩ := zero_of hz
  obtain ⟨ii, hii, hes⟩ := info_of_sz hs
  rw [hi] at hii; cases hii
  have hbytes : i.bytes = e.by_ := by simpa [bytesOf?, hi] using hby
  obtain ⟨oe, l, hl, hlok, hmax, hmaxb, hpos, hoe⟩ := appc_inv hc
  obtain ⟨rfl, rfl⟩ : none = oe ∧ cs = l := by simpa using hl
  clear hl
  obtain ⟨mm, news, hmm, hlen, hnews, hnl, hz1, hz2, hz3⟩ := app_src (P := P) h hy hc
  have hv := opv_VR h hx
  rw [hxv] at hv
  obtain ⟨ad, b, base, c, cap, hloc, hve, hade, h0, hcap, hf, hroomc, hlm⟩ := rs_inv hv
  simp only [Nat.add_zero, Nat.zero_add, Nat.mul_one] at hade hroomc
  rw [hsz] at hnl hnews
  simp only [Nat.mul_one] at hnl
  obtain ⟨d2, hd2, hd2n⟩ : ∃ d2, P.underlying t2 = some d2 ∧ (d2 = .string ∨ ∃ e2, d2 = .slice e2) := by
    rcases hk with hk | hk
    · exact ⟨_, kind_str hk, .inl rfl⟩
    · obtain ⟨e2, he2⟩ := kind_sl hk; exact ⟨_, he2, .inr ⟨e2, rfl⟩⟩
  have ht0 : tys[0]? = some t := by rw [← Array.getElem?_toList, ht]; rfl
  have ht1 : tys[1]? = some t2 := by rw [← Array.getElem?_toList, ht]; rfl
  have hs1 := run_sz (w := w) hs
  rw [hsz] at hs1
  have hflat : ∀ l : List AV, (∀ x, x ∈ l → x.cells = [x]) → l.flatMap AV.cells = l := by
    intro l
    induction l with
    | nil => intro _; rfl
    | cons x l ih => intro hl; rw [List.flatMap_cons, hl x (by simp), ih fun y hy => hl y (by simp [hy])]; rfl
  have hfe := hflat (elsOf (opv tm y)) fun x hx => (hone x hx).1
  rw [hfe] at hz3
  have hnewl : news.length = (elsOf (opv tm y)).length := by omega
  have hnv : ∀ (j : Nat) (x : AV) (u : Value), (elsOf (opv tm y))[j]? = some x → news[j]? = some u → VR g x u ∧ u.oneCell' = true ∧ Meek x ∧ noRef x = true := fun j x u h1 h2 => by
    obtain ⟨v, q1, q2, q3⟩ := hz3 j x h1
    rw [h2] at q1; cases q1
    have hm := List.mem_of_getElem? h1
    exact ⟨q2, q3, (hone x hm).2, by have := hz2 x hm x; rw [(hone x hm).1] at this; exact this (by simp)⟩
  have hfin : ∀ v' w' g', (Builtin.append_ tys ty #[Act.eval ⟨a, []⟩ x, Act.eval ⟨a, []⟩ y]).run P w = .ok v' w' → Rel g' (killI id tm) (hset hp id (cs ++ elsOf (opv tm y))) a w' → Stp nb g w g' w' → VR g' (.rs id 0 (cs.length + (elsOf (opv tm y)).length) 1 ag false) v' →
      OpN P nb ⟨dst, .call { callee := .builtin .append, args := #[x, y], argTypes := tys }, ty, pos, after, gd⟩ (put (killI id tm) dst (.rs id 0 (cs.length + (elsOf (opv tm y)).length) 1 ag false)) (hset hp id (cs ++ elsOf (opv tm y))) g a w := by
    intro v' w' g' hr h1 h2 h3
    refine ⟨_, v', w', g', ?_, .inl rfl, h1.put _ h3 (fun d _ => Tail.meek (by intro l; simp)), h2, by simp; omega⟩
    simp [execOp, resolve, invoke, builtin, hr]
  have hrk := h.kill id
  by_cases hroom : cs.length + mm ≤ cap
  · by_cases hm0 : mm = 0
    · have hy0 : elsOf (opv tm y) = [] := List.eq_nil_of_length_eq_zero (by omega)
      have hn0 : news = [] := List.eq_nil_of_length_eq_zero (by omega)
      have hrun : (Builtin.append_ tys ty #[Act.eval ⟨a, []⟩ x, Act.eval ⟨a, []⟩ y]).run P w = .ok (.slice ad cs.length cap) w := by
        have hnw := hnews w (fun _ => rfl)
        rw [hm0, hn0] at hnw
        rw [hm0] at hlen
        rw [hve]
        exact app_run0 ht0 ht1 hu hs1 hd2 hd2n hlen hnw hcap
      rw [hy0] at hfin ⊢
      have hset0 : hset hp id (cs ++ []) = hp := by
        rw [List.append_nil, hset_eq]
        apply List.ext_getElem?
        intro j
        rw [List.getElem?_set]
        by_cases e : id = j
        · subst e; rw [if_pos rfl, if_pos hidlt, hcs]
        · rw [if_neg e]
      rw [hset0] at hfin ⊢
      exact hfin _ w g hrun hrk (.refl _ _ _) (.rs hloc (by simpa using hade) h0 (by simpa using hcap) (by simp) (by simpa using hroomc) (by simpa using hlm))
    · obtain rfl := hade (by omega)
      obtain ⟨s1, s2, s3, s4⟩ := hrk.more hcs (elsOf (opv tm y)) news hnewl.symm hloc (by omega) (fun j x u h1 h2 => ⟨(hnv j x u h1 h2).1, Tail.meek (hnv j x u h1 h2).2.2.1⟩)
      have hrun : (Builtin.append_ tys ty #[Act.eval ⟨a, []⟩ x, Act.eval ⟨a, []⟩ y]).run P w = .ok (.slice (some ⟨b, base, none⟩) (cs.length + mm) cap) (w.setCells b (base + cs.length) news) := by
        have hnw := hnews w (fun _ => rfl)
        have hst := run_storeCells_cells (P := P) b (base + cs.length) news 0 w (fun j hj => by simpa using s3 j hj) (fun j hj => by simpa using s4 j hj) (fun v hv => by
          obtain ⟨j, hj⟩ := List.getElem?_of_mem hv
          have hjl := (List.getElem?_eq_some_iff.1 hj).1
          exact (hnv j _ v (List.getElem?_eq_getElem (by omega)) hj).2.1)
        rw [hve]
        exact app_run_room ht0 ht1 hu hs1 hd2 hd2n hlen hnw hroom (by simpa using hst)
      refine hfin _ _ g hrun s1 (s2 _) ?_
      rw [← hmm]
      exact .rs hloc (by simp) h0 hroom (by simp) (by simpa using hroomc) (by omega)
  · have hgrow : cap < cs.length + mm := by omega
    have hfit : Builtin.nextslicecap (cs.length + mm) cap * i.bytes ≤ 281474976710656 := growslice_fits hgrow (by rw [hbytes, hmm]; exact hmaxb)
    have h63 : ¬ ((9223372036854775807 : Int) < (cs.length : Int) + (mm : Int)) := by simp only [maxB] at hmax; omega
    have h48 : ¬ (281474976710656 < Builtin.nextslicecap (cs.length + mm) cap * i.bytes) := by omega
    obtain ⟨b', base', c', e1, e2, e3, e4⟩ := h.heap id cs hcs
    rw [hloc] at e1
    simp only [Option.some.injEq, Prod.mk.injEq] at e1
    obtain ⟨rfl, rfl, rfl⟩ := e1
    let olds : List Value := (List.range cs.length).map fun j => (w.cell? ⟨b, base + j, none⟩).getD undef
    have holdv : ∀ (j : Nat) (x : AV) (u : Value), cs[j]? = some x → olds[j]? = some u → VR g x u := fun j x u h1 h2 => by
      obtain ⟨v, q1, q2, _⟩ := e4 j x h1
      have hj := (List.getElem?_eq_some_iff.1 h1).1
      simp only [olds, List.getElem?_map, List.getElem?_range hj, Option.map_some, q1, Option.getD_some, Option.some.injEq] at h2
      subst h2; exact q2
    have hfirst : (Builtin.firstCells 1 cs.length (.slice ad cs.length cap)).run P w.drew = .ok olds.toArray w.drew := by
      by_cases hne : cs.length = 0
      · have : olds = [] := by simp [olds, hne]
        rw [this, hne]
        cases ad <;> simp [Builtin.firstCells, loadCells, loadCellsFrom]
      · obtain rfl := hade (by omega)
        refine run_firstCells_some w.drew 1 cs.length ⟨b, base, none⟩ _ _ _ (by simp [olds]) (fun j v hj => ?_)
        simp only [olds, List.getElem?_map, Option.map_eq_some_iff] at hj
        obtain ⟨k, hk, rfl⟩ := hj
        obtain ⟨hk3, hk4⟩ := List.getElem?_eq_some_iff.1 hk
        simp at hk3 hk4
        subst hk4
        rw [addr_add]
        obtain ⟨v, q1, _⟩ := e4 j _ (List.getElem?_eq_getElem hk3)
        have : w.drew.cell? ⟨b, base + j, none⟩ = w.cell? ⟨b, base + j, none⟩ := rfl
        rw [this, q1]; rfl
    have hnw := hnews w.drew (fun _ => rfl)
    generalize hcp : grownCap w (cs.length + mm) cap e.t = cp
    have hcple : cs.length + mm ≤ cp := by
      rw [← hcp]; unfold grownCap Question.cut; exact Nat.le_add_right _ _
    let cells : Array Value := olds.toArray ++ news.toArray ++ Builtin.zeroCells zz.cells (cp - (cs.length + mm))
    have hcsz : cells.size = cp := by
      simp only [cells, Array.size_append, List.size_toArray, size_zeroCells, hsz0, hes, hsz, Nat.mul_one, hnl]
      simp [olds]; omega
    have hrun : (Builtin.append_ tys ty #[Act.eval ⟨a, []⟩ x, Act.eval ⟨a, []⟩ y]).run P w = .ok (.slice (some ⟨w.drew.heap.size, 0, none⟩) (cs.length + mm) cp) (w.drew.alloc (.cells cells e.t)) := by
      rw [hve]
      subst hcp
      exact app_run_grow ht0 ht1 hu hs1 hd2 hd2n hi hzz hlen hnw hfirst hroom h63 h48
    have hdr := hrk.drew
    have hcell : ∀ (j : Nat) (x : AV) (u : Value), (cs ++ elsOf (opv tm y))[j]? = some x → cells[j]? = some u → VR g x u := fun j x u h1 h2 => by
      simp only [cells] at h2
      by_cases hj : j < cs.length
      · rw [List.getElem?_append_left hj] at h1
        rw [Array.getElem?_append_left (by simp [olds]; omega), Array.getElem?_append_left (by simp [olds]; exact hj)] at h2
        exact holdv j x u h1 (by simpa using h2)
      · rw [List.getElem?_append_right (by omega)] at h1
        have hj2 := (List.getElem?_eq_some_iff.1 h1).1
        rw [Array.getElem?_append_left (by simp [olds, hnl]; omega), Array.getElem?_append_right (by simp [olds]; omega)] at h2
        exact (hnv (j - cs.length) x u h1 (by simpa [olds] using h2)).1
    have hmeek : ∀ z, z ∈ cs ++ elsOf (opv tm y) → noRef z = true ∧ Meek z := fun z hz' => by
      rcases List.mem_append.1 hz' with h' | h'
      · exact ⟨(hold z h').1, (hold z h').2.2⟩
      · refine ⟨?_, (hone z h').2⟩
        have := hz2 z h' z; rw [(hone z h').1] at this; exact this (by simp)
    obtain ⟨g1, n1, n2, n3, n4, n5⟩ := hdr.newBlk (cs ++ elsOf (opv tm y)) cells e.t (by rw [hcsz]; simp [← hmm]; omega) hcell (fun j x u h1 h2 k g' hg => Tail.meek (hmeek x (List.mem_of_getElem? h1)).2)
    have hkill : ∀ t, allR (notB hp.length id) (lget (killI id tm) t) = true := fun t => by
      rw [lget_killI]
      have hvr := (hrk.slots t).1
      rw [lget_killI] at hvr
      have hlt := VR.ltR' (g := g) (n := hp.length) h.locs hvr
      have hni := killA_all (id := id) (x := lget tm t)
      generalize killA id (lget tm t) = x at hlt hni
      exact allR_and (ltR_ne hlt) hni
    have hot' : ∀ (i : Nat) cs', i ≠ id → hp[i]? = some (some cs') → ∀ x, x ∈ cs' → allR (notB hp.length id) x = true := fun i cs' hne hc' x hx => by
      obtain ⟨_, _, _, _, _, _, d4⟩ := h.heap i cs' hc'
      obtain ⟨j, hj⟩ := List.getElem?_of_mem hx
      obtain ⟨v, _, hvr, _⟩ := d4 j x hj
      exact allR_and (ltR_ne (VR.ltR' (g := g) (n := hp.length) h.locs hvr)) (hot i cs' hne hc' x hx)
    obtain ⟨t1, t2⟩ := Rel.take n1 hidlt hkill hot' hmeek
    refine hfin _ _ _ hrun t1 (((Stp.drew _ g w).trans (n2.mono (by omega))).trans (t2 nb hnb)) ?_
    have hl2 : (g1.take hp.length id).loc id = some (w.drew.heap.size, 0, cells.size) := by simp [Gh.take, n4]
    rw [← hmm]
    exact .rs hl2 (by simp) h0 hcple (by simp) (by rw [hcsz]; simp) (by omega)
end
end Go.Av

namespace Go.Av
open Go
def plainA (z : AV) : Prop := noRef z = true ∧ z.cells = [z] ∧ Meek z
theorem plain_int {k : IntKind} (n : Int) : plainA (.int k n) := ⟨rfl, rfl, by intro oe l; simp⟩
theorem plain_map {α : Type} {enc : α → AV} (he : ∀ x, plainA (enc x)) (v : List α) : ∀ z, z ∈ v.map enc → plainA z := fun z hz => by
 obtain ⟨x, _, rfl⟩ := List.mem_map.1 hz; exact he x
def hotB (id : Nat) : Nat → Heap → Bool
 | _, [] => true
 | i, none :: l => hotB id (i+1) l
 | i, some cs :: l => (bif i == id then true else allRL (notI id) cs) && hotB id (i+1) l
theorem allRL_map [Lay] {α : Type} {p : Nat → Bool} {enc : α → AV} (he : ∀ x, plainA (enc x)) (v : List α) : allRL p (v.map enc) = true := by
 induction v with
 | nil => simp [allRL]
 | cons x v ih =>
  simp only [List.map_cons, allRL, ih, Bool.and_true]
  exact ltR_allR (n := 0) (fun i hi => by omega) (he x).1
theorem hotB_spec [Lay] {id : Nat} : ∀ {l : Heap} {i0 : Nat}, hotB id i0 l = true → ∀ (i : Nat) cs, i0 + i ≠ id → l[i]? = some (some cs) → ∀ x, x ∈ cs → allR (notI id) x = true
 | [], _, _, i, cs, _, h, _, _ => by simp at h
 | none :: l, i0, hb, 0, cs, _, h, _, _ => by simp at h
 | none :: l, i0, hb, i+1, cs, hn, h, x, hx => hotB_spec (l := l) (i0 := i0 + 1) hb i cs (by omega) (by simpa using h) x hx
 | some c :: l, i0, hb, 0, cs, hn, h, x, hx => by
  simp only [hotB, Bool.and_eq_true] at hb
  simp at h; subst h
  have : (i0 == id) = false := by simpa using hn
  rw [this, cond_false] at hb
  exact allRL_mem hb.1 x hx
 | some c :: l, i0, hb, i+1, cs, hn, h, x, hx => by
  simp only [hotB, Bool.and_eq_true] at hb
  exact hotB_spec (l := l) (i0 := i0 + 1) hb.2 i cs (by omega) (by simpa using h) x hx
def killL (id : Nat) : List (Nat × AV) → List (Nat × AV)
 | [] => []
 | (t, v) :: l => (t, killA id v) :: killL id l
theorem al_killL {id : Nat} : ∀ (l : List (Nat × AV)) (j : Nat), al (killL id l) j = killA id (al l j)
  | [], _ => rfl
  | (i, v) :: l, j => by
    simp only [killL, al, al_killL l j]
    cases i == j <;> rfl
theorem killA_int {id : Nat} {k : IntKind} {n : Int} : killA id (.int k n) = .int k n := .trans rfl rfl
theorem killA_bool {id : Nat} {b : Bool} : killA id (.bool b) = .bool b := .trans rfl rfl
theorem killA_sl {id : Nat} {o : Option (Option ETy)} {l : List AV} : killA id (.sl o l) = .sl o l := .trans rfl rfl
theorem killA_ip {id : Nat} {l : List AV} : killA id (.ip l) = .ip l := .trans rfl rfl
def kA (b : Bool) (v : AV) : AV := match b with
 | true => v
 | false => .any
theorem kA_t {v : AV} : kA true v = v := .trans rfl rfl
theorem kA_f {v : AV} : kA false v = .any := .trans rfl rfl
theorem killA_ptr {id i o : Nat} : killA id (.ptr i o) = kA (i != id) (.ptr i o) := by simp only [killA, allR, notI, kA]; cases i != id <;> rfl
theorem killA_rs {id i a b c : Nat} {d e : Bool} : killA id (.rs i a b c d e) = kA (i != id) (.rs i a b c d e) := by simp only [killA, allR, notI, kA]; cases i != id <;> rfl
theorem killA_agg {id : Nat} {l : List AV} : killA id (.agg l) = kA (allRL (notI id) l) (.agg l) := by simp only [killA, allR, kA]; cases allRL (notI id) l <;> rfl
theorem killA_tup {id : Nat} {l : List AV} : killA id (.tup l) = kA (allRL (notI id) l) (.tup l) := by simp only [killA, allR, kA]; cases allRL (notI id) l <;> rfl
section
variable [Lay]
theorem killI_fr {id n : Nat} {l : List (Nat × AV)} : killI id (fr n l) = fr n (killL id l) := by
 apply lget_ext
 ·rw [killI_len, fr_len, fr_len]
 intro t
 rw [lget_killI]
 by_cases ht : t < n
 ·rw [lget_fr ht, lget_fr ht, al_killL]
 ·rw [lget_ge (by rw [fr_len]; omega), lget_ge (by rw [fr_len]; omega)]; rfl
end
def stAt {α : Type} (v : List α) (i : Int) (y : α) : Option (List α) := some (v.set i.toNat y)
section
variable {ρ : Type} {r : ρ} {G : Prop}
theorem bAt_s {α : Type} (enc : α → AV) (k : IntKind) (e : El) (h1 : e.sz = 1) (id : Nat) (ag full : Bool) {xs : List α} {n : Nat} (hn : xs.length = n) {i : Int} {A : α → Option ρ} (h : (lAt xs i).bind A = some r)
  (g : ∀ x, lAt xs i = some x → iadC e (.rs id 0 n 1 ag full) (.int k i) → iadV (.rs id 0 n 1 ag full) (.int k i) = .ptr id (0 + i.toNat * 1) → lget (xs.map enc) (0 + i.toNat * 1) = enc x → decide (0 + i.toNat * 1 < xs.length) = true → decide (0 + i.toNat * 1 + 1 ≤ xs.length) = true →
   (∀ z, lput (xs.map enc) (0 + i.toNat * 1) [enc z] = (xs.set i.toNat z).map enc) → A x = some r → G) : G := by
 subst hn
 refine bsome h fun x hx h => ?_
 unfold lAt at hx
 split at hx
 ·rename_i hi
  obtain ⟨hlt, he⟩ := List.getElem?_eq_some_iff.1 hx
  refine g x (by unfold lAt; rw [if_pos hi]; exact hx) ⟨hi, by omega, h1.symm⟩ rfl ?_ (decide_eq_true (by omega)) (decide_eq_true (by omega)) (fun z => ?_) h
  ·rw [lget_eq, List.getD_eq_getElem?_getD, List.getElem?_map, show 0 + i.toNat * 1 = i.toNat by omega, hx]; rfl
  ·rw [show 0 + i.toNat * 1 = i.toNat by omega]
   simp only [lput, lset_eq, List.map_set]
 ·cases hx
theorem stB_s {α : Type} {v : List α} {i : Int} {y : α} {A : List α → Option ρ} (h : (stAt v i y).bind A = some r)
  (g : ∀ v', v.set i.toNat y = v' → v.length = v'.length → A v' = some r → G) : G := g _ rfl (by simp) h
theorem appB_s {α : Type} (enc : α → AV) (o : Option (Option ETy)) (e : El) (hsz : ∀ x, okEl e.sz (enc x) = true) (h0 : 0 < e.sz) {b : Nat} (hb : e.by_ = b) {l m : List α} {A : List α → Option ρ} (h : (app b l m).bind A = some r)
  (g : ∀ v, appc e (.sl (some none) (l.map enc)) (.sl o (m.map enc)) → l.map enc ++ m.map enc = v.map enc → l.length + m.length = v.length → A v = some r → G) : G := by
 refine app_s enc o e hsz h0 hb h fun v hv h1 h2 h => g v h1 ?_ ?_ h
 ·simp only [appv, elsOf] at h2
  injection h2
 ·unfold app at hv
  split at hv
  ·injection hv with hv; rw [← hv, List.length_append]
  ·cases hv
end
section
variable [Lay] {P : Program} {nb : Nat} {R : Rt} {k1 k2 : List Item} {tm : List AV} {hp : Heap} {N : Nat} {l : List (Nat × AV)}
theorem W.prom {k : List Item} {t id : Nat} {ag : Bool} (hid : hp.length = id) (ht : lget tm t = .sl (some none) []) (h : W P nb R k (lset tm t (.rs id 0 0 1 ag false)) (hp ++ [some []])) : W P nb R k tm hp := by
 subst hid
 intro hk g a w b cs hL hr hn
 obtain ⟨g1, n1, n2, n3, n4, n5⟩ := hr.newEmpty
 have hv := (hr.slots t).1
 rw [ht] at hv
 obtain ⟨cap, ad, hve, hcap⟩ : ∃ cap ad, a.getD t undef = .slice ad 0 cap ∧ cap = 0 := by
  generalize a.getD t undef = v at hv
  cases hv with
  | sl hl hc hb b o es vs ha hes h0 hn hi hv' hq =>
   have := hq rfl rfl
   simp at hl; subst hl
   exact ⟨_, _, rfl, this.1.symm⟩
 subst hcap
 have hrs : VR g1 (.rs hp.length 0 0 1 ag false) (a.getD t undef) := by rw [hve]; exact .rs n3 (by omega) (by omega) (by omega) (by simp) (by omega) (by omega)
 have hr1 := n1.less t hrs (Tail.meek (by intro l; simp))
 obtain ⟨a', w', g', tm'', hp'', todo, q1, q2, q3, q4⟩ := h hk g1 a w b cs (hL.stp (n2 0 (Nat.zero_le _))) hr1 (by simp; omega)
 exact ⟨a', w', g', tm'', hp'', todo, q1, q2, (n2 nb hn).x.trans q3, q4⟩
theorem prom_blk {id : Nat} {c : Code} {hp2 : Heap} (t bi : Nat) (ag : Bool) (hid : hp.length = bi) (ht : lget (fr N l) t = .sl (some none) []) (hh : hp ++ [some []] = hp2) (h : hold P nb R (.blk id c k1 k2 (fr N ((t, .rs bi 0 0 1 ag false) :: l)) hp2)) : hold P nb R (.blk id c k1 k2 (fr N l) hp) := by
 subst hh
 exact W.prom hid ht (by rw [lset_fr]; exact h)
theorem prom_cnd {b : Bool} {x y : Code} {hp2 : Heap} (t bi : Nat) (ag : Bool) (hid : hp.length = bi) (ht : lget (fr N l) t = .sl (some none) []) (hh : hp ++ [some []] = hp2) (h : hold P nb R (.cnd b x y k1 k2 (fr N ((t, .rs bi 0 0 1 ag false) :: l)) hp2)) : hold P nb R (.cnd b x y k1 k2 (fr N l) hp) := by
 subst hh
 exact ⟨fun e => W.prom hid ht (by rw [lset_fr]; exact h.1 e), fun e => W.prom hid ht (by rw [lset_fr]; exact h.2 e)⟩
theorem opn_moveF {x : Operand} {id : Nat} {ag full : Bool} {cs : List AV} {dst : Option Nat} {ty : TypeId} {pos : String} {after : Array Edge} {gd : Option (Nat × Bool)} {g : Gh} {a : Array Value} {w : World}
    (h : Rel g tm hp a w) (hx : okOpd x = true) (hxv : opv tm x = .rs id 0 cs.length 1 ag full) (hcs : hp[id]? = some (some cs)) (hok : ∀ z, z ∈ cs → plainA z) (hot : hotB id 0 hp = true) (hnb : nb ≤ id) (hne : cs ≠ [] ∨ True) (hle : nb ≤ hp.length) :
    OpN P nb ⟨dst, .move x, ty, pos, after, gd⟩ (put (killI id tm) dst (.sl none cs)) (hsetO hp id none) g a w := by
  have hv := opv_VR h hx
  rw [hxv] at hv
  obtain ⟨ad, b, base, c, cap, hloc, hve, hade, h0, hcap, hf, hroomc, hlm⟩ := rs_inv hv
  simp only [Nat.add_zero, Nat.zero_add, Nat.mul_one] at hade hroomc
  have hidlt : id < hp.length := (List.getElem?_eq_some_iff.1 hcs).1
  obtain ⟨f1, f2, f3⟩ := Rel.frz (h.kill id) hcs hloc (fun t => by rw [lget_killI]; exact killA_all) (fun i cs' hne hc x hx => hotB_spec hot i cs' (by omega) hc x hx) (fun x hx => ⟨(hok x hx).1, (hok x hx).2.1⟩) (hp2 := hsetO hp id none) (fun i cs' hi => by
      rw [hsetO_eq, List.getElem?_set] at hi
      by_cases e : id = i
      · rw [if_pos e] at hi; split at hi <;> simp at hi
      · rw [if_neg e] at hi; exact ⟨Ne.symm e, hi⟩) (fun i hi => .inr (by rw [hsetO_eq] at hi; simpa using hi))
  have hvr : VR (g.frz w id b base cs.length) (.sl none cs) (Act.eval ⟨a, []⟩ x) := by
    rw [hve]
    by_cases hc : 0 < cap
    · rw [hade hc]; exact f3 cap none hcap hlm (by simp)
    · have hz : cs = [] := List.eq_nil_of_length_eq_zero (by omega)
      subst hz
      exact .sl rfl (by simpa using hcap) (by simp) 0 0 1 (fun _ => undef) (fun e => absurd rfl e) (by simp) (by omega) (by simp) (fun j av hj => by simp at hj) (fun j av hj => by simp at hj) (by simp)
  refine ⟨_, Act.eval ⟨a, []⟩ x, w, _, ?_, .inl rfl, f1.put _ hvr (fun d _ => Tail.meek (by intro l; simp)), f2 nb hnb, by rw [hsetO_eq]; simpa using hle⟩
  simp [execOp]
theorem mvF_ {α : Type} (n : Nat) (enc : α → AV) (he : ∀ x, plainA (enc x)) {v : List α} {x : Operand} {id : Nat} {ag full : Bool} {dst : Option Nat} {ty : TypeId} {pos : String} {after : Array Edge} {all rest : List Oper} {hp2 : Heap} {nn : Nat} (hnn : v.length = nn)
  (hx : okOpd x = true) (hxv : opv tm x = .rs id 0 nn 1 ag full) (hcs : hp[id]? = some (some (v.map enc))) (hot : hotB id 0 hp = true) (hnb : Nat.ble nb id = true) (hh : hsetO hp id none = hp2)
  (h : hold P nb R (ex P n (some (false, all, rest)) k1 k2 (put (killI id tm) dst (.sl none (v.map enc))) hp2)) : hold P nb R (.opx ⟨dst, .move x, ty, pos, after, none⟩ false all rest k1 k2 tm hp) := by
 subst hh; subst hnn
 exact opx_ n (fun gd g a w _ hr hn => opn_moveF hr hx (by rw [List.length_map]; exact hxv) hcs (plain_map he v) hot (Nat.le_of_ble_eq_true hnb) (.inr trivial) hn) h
theorem appB_ {α : Type} (n : Nat) (enc : α → AV) (he : ∀ x, plainA (enc x)) {v v' : List α} {o : Option (Option ETy)} {ws : List α} {x y : Operand} {e : El} {id : Nat} {ag full : Bool} {t t2 : TypeId} {ts : List TypeId} {dst : Option Nat} {ty : TypeId} {pos : String} {after : Array Edge} {all rest : List Oper} {hp2 : Heap} {nn : Nat} (hnn : v.length = nn)
  (hx : okOpd x = true) (hy : okOpd y = true) (hel : elOf P t = some e) (hsz : e.sz = 1) (hk : kindOf P t2 = 2) (hxv : opv tm x = .rs id 0 nn 1 ag full) (hyv : opv tm y = .sl o (ws.map enc)) (hcs : hp[id]? = some (some (v.map enc))) (hc : appc e (.sl (some none) (v.map enc)) (.sl o (ws.map enc)))
  (ha : v.map enc ++ ws.map enc = v'.map enc) (hl : v.length + ws.length = v'.length) (hot : hotB id 0 hp = true) (hnb : Nat.ble nb id = true) (hh : hset hp id (v'.map enc) = hp2)
  (h : hold P nb R (ex P n (some (false, all, rest)) k1 k2 (put (killI id tm) dst (.rs id 0 v'.length 1 ag false)) hp2)) : hold P nb R (.opx ⟨dst, .call ⟨.builtin .append, List.toArray [x, y], List.toArray (t :: t2 :: ts)⟩, ty, pos, after, none⟩ false all rest k1 k2 tm hp) := by
 subst hh; subst hnn
 refine opx_ n (fun gd g a w _ hr hn => ?_) h
 have := opn_append (P := P) (nb := nb) (dst := dst) (ty := ty) (pos := pos) (after := after) (gd := gd) hr hx hy hel hsz (by rw [List.length_map]; exact hxv) hcs (by rw [hyv]; exact hc) (by rw [hyv]; exact fun z hz => (plain_map he ws z hz).2) (plain_map he v) (fun i cs' hne hc x hx => hotB_spec hot i cs' (by omega) hc x hx) (Nat.le_of_ble_eq_true hnb) (.inr hk) (args := List.toArray [x, y]) (tys := List.toArray (t :: t2 :: ts)) rfl rfl
 rw [hyv] at this
 simp only [elsOf, List.length_map] at this
 rw [ha, hl] at this
 exact this
end
section
variable {p : Nat → Bool}
theorem allRL_mapI [Lay] {k : IntKind} {v : List Int} : allRL p (v.map (AV.int k)) = true := allRL_map plain_int v
end
attribute [go_sem] killI_fr killL killA_int killA_bool killA_sl killA_ip kA_t kA_f killA_ptr killA_rs killA_agg killA_tup hotB allR allRL notI allRL_mapI
end Go.Av

namespace Go.Av
open Go
section
variable [Lay] {P : Program} {tm : List AV} {hp : Heap} {g : Gh} {a : Array Value} {w : World}
theorem Rel.world (h : Rel g tm hp a w) {w1 : World} (hb : RowKit.Below w.heap.size w w1) (n : Nat) : Rel g tm hp a w1 ∧ Stp n g w g w1 := by
 have hlt : ∀ b o, g.ow b o ≠ .free → b < w.heap.size := fun b o hne => h.lt hne
 have hc : ∀ b o, b < w.heap.size → w1.cell? ⟨b, o, none⟩ = w.cell? ⟨b, o, none⟩ ∧ w1.frozen? ⟨b, o, none⟩ = w.frozen? ⟨b, o, none⟩ := fun b o hlt => by
  have := hb.block b hlt
  constructor
  ·unfold World.cell?; rw [this]
  ·unfold World.frozen?; rw [this]
 refine ⟨⟨h.size, h.slots, fun id cs hcs => ?_, h.locs, fun b o u hu => ?_, fun b o hne => ?_, fun b e he => ?_⟩, .of (fun b o v hv => hv) (fun b o _ hv => hv) (fun id l hi hl => hl) (.of hb.os hb.tape hb.output hb.size (fun b c e fz hbk => ⟨c, ?_, rfl, fun _ _ => rfl⟩) (fun b o hbk _ => ?_)) rfl⟩
 ·obtain ⟨b, base, c, e1, e2, e3, e4⟩ := h.heap id cs hcs
  refine ⟨b, base, c, e1, e2, e3, fun j av hj => ?_⟩
  obtain ⟨v, q1, q2, q3⟩ := e4 j av hj
  have := e3 j (by have := (List.getElem?_eq_some_iff.1 hj).1; omega)
  exact ⟨v, by rw [(hc b _ (hlt b _ (by rw [this]; simp))).1]; exact q1, q2, q3⟩
 ·rw [(hc b o (hlt b o (by rw [hu]; simp))).1]; exact h.imms _ _ _ hu
 ·rw [(hc b o (hlt b o hne)).1, (hc b o (hlt b o hne)).2]; exact h.owns b o hne
 ·obtain ⟨c, lo, hi, q1, q2⟩ := h.fzs b e he
  exact ⟨c, lo, hi, by rw [hb.block b (Array.getElem?_eq_some_iff.1 q1).1]; exact q1, q2⟩
 ·rw [hb.block b (Array.getElem?_eq_some_iff.1 hbk).1]; exact hbk
 ·rw [hb.block b (Array.getElem?_eq_some_iff.1 hbk).1]; exact hbk
theorem Rel.shrink (h : Rel g tm hp a w) {id : Nat} {cs : List AV} (hc : hp[id]? = some (some cs)) (k : Nat) : Rel g tm (hset hp id (cs.take k)) a w := by
 have hid := (List.getElem?_eq_some_iff.1 hc).1
 refine ⟨h.size, h.slots, fun i cs' hi => ?_, fun i hi => h.locs i (by rw [hset_eq] at hi; simpa using hi), h.imms, h.owns, h.fzs⟩
 rw [hset_eq, List.getElem?_set] at hi
 by_cases e : id = i
 ·subst e
  rw [if_pos rfl, if_pos hid] at hi
  simp only [Option.some.injEq] at hi
  subst hi
  obtain ⟨b, base, c, e1, e2, e3, e4⟩ := h.heap id _ hc
  refine ⟨b, base, c, e1, by simp; omega, e3, fun j av hj => ?_⟩
  rw [List.getElem?_take] at hj
  split at hj
  ·exact e4 j av hj
  ·cases hj
 ·rw [if_neg e] at hi; exact h.heap i cs' hi
mutual
theorem ren_noRef (f : Nat → Nat) : ∀ x : AV, ltR 0 x = true → ren f x = x
 | .any, _ | .int _ _, _ | .bool _, _ | .str _, _ | .sl _ _, _ | .nilp, _ | .ip _, _ | .nilI, _ | .nilF, _ | .nilM, _ | .adr _, _ | .fl _, _ => by simp [ren]
 | .rs _ _ _ _ _ _, h => by simp [ltR] at h
 | .ptr _ _, h => by simp [ltR] at h
 | .bld _ _, h => by simp [ltR] at h
 | .agg cs, h => by simp only [ltR] at h; simp only [ren, renL_noRef f cs h]
 | .tup cs, h => by simp only [ltR] at h; simp only [ren, renL_noRef f cs h]
 | .iface _ v, h => by simp only [ltR] at h; simp only [ren, ren_noRef f v h]
 | .fn _ l1 l2, h => by simp only [ltR, Bool.and_eq_true] at h; simp only [ren, renL_noRef f l1 h.1, renL_noRef f l2 h.2]
theorem renL_noRef (f : Nat → Nat) : ∀ l : List AV, ltRL 0 l = true → renL f l = l
 | [], _ => rfl
 | x :: l, h => by simp only [ltRL, Bool.and_eq_true] at h; simp only [renL, ren_noRef f x h.1, renL_noRef f l h.2]
end
def Gh.frzK (g : Gh) (w : World) (id b base n : Nat) : Gh := { g.frz w id b base n with loc := g.loc }
theorem Rel.frzK (h : Rel g tm hp a w) {id : Nat} {cs : List AV} (hc0 : hp[id]? = some (some cs)) {b base c : Nat} (hloc : g.loc id = some (b, base, c)) (htm : ∀ t, allR (notI id) (lget tm t) = true)
    (hot : ∀ (i : Nat) cs', i ≠ id → hp[i]? = some (some cs') → ∀ x, x ∈ cs' → allR (notI id) x = true) (hcs : ∀ x, x ∈ cs → noRef x = true ∧ x.cells = [x]) :
    Rel (g.frzK w id b base cs.length) tm (hsetO hp id none) a w ∧ (∀ n, Stp n g w (g.frzK w id b base cs.length) w) ∧ ∀ cap own, cs.length ≤ cap → cs.length ≤ maxB → own ≠ some none → VR (g.frzK w id b base cs.length) (.sl own cs) (.slice (some ⟨b, base, none⟩) cs.length cap) := by
  obtain ⟨f1, f2, f3⟩ := Rel.frz h hc0 hloc htm hot hcs (hp2 := hsetO hp id none) (fun i cs' hi => by
      rw [hsetO_eq, List.getElem?_set] at hi
      by_cases e : id = i
      · rw [if_pos e] at hi; split at hi <;> simp at hi
      · rw [if_neg e] at hi; exact ⟨Ne.symm e, hi⟩) (fun i hi => .inr (by rw [hsetO_eq] at hi; simpa using hi))
  have hm : ∀ {x u}, VR (g.frz w id b base cs.length) x u → VR (g.frzK w id b base cs.length) x u := fun hv => VR.mono (g := g.frz w id b base cs.length) (g' := g.frzK w id b base cs.length) (fun _ _ _ h => h) (fun i l hl => by
    simp only [Gh.frz] at hl
    split at hl
    · cases hl
    · exact hl) (fun _ _ h => h) hv
  refine ⟨⟨f1.size, fun t => ⟨hm (f1.slots t).1, (f1.slots t).2⟩, fun i cs' hi => ?_, fun i hi => h.locs i (by rw [hsetO_eq] at hi; simpa using hi), f1.imms, f1.owns, f1.fzs⟩, fun n => ?_, fun cap own h1 h2 h3 => hm (f3 cap own h1 h2 h3)⟩
  · obtain ⟨b', base', c', e1, e2, e3, e4⟩ := f1.heap i cs' hi
    refine ⟨b', base', c', ?_, e2, e3, fun j av hj => ?_⟩
    · simp only [Gh.frz] at e1
      split at e1
      · cases e1
      · exact e1
    · obtain ⟨v, q1, q2, q3⟩ := e4 j av hj
      exact ⟨v, q1, hm q2, q3⟩
  · have s := f2 0 (Nat.zero_le _)
    exact ⟨s.imm, s.perm, fun _ _ _ h => h, s.upd, s.fzm, s.fzn⟩
theorem mvR_ {nb : Nat} {R : Rt} {k1 k2 : List Item} (n : Nat) {x : Operand} {id off len es : Nat} {ag full : Bool} {dst : Option Nat} {ty : TypeId} {pos : String} {after : Array Edge} {all rest : List Oper}
  (hx : okOpd x = true) (hxv : opv tm x = .rs id off len es ag full)
  (h : hold P nb R (ex P n (some (false, all, rest)) k1 k2 (put tm dst (.rs id off len es ag full)) hp)) : hold P nb R (.opx ⟨dst, .move x, ty, pos, after, none⟩ false all rest k1 k2 tm hp) :=
 opx_ n (fun gd g a w _ hr hn => by
  have hv := opv_VR hr hx
  rw [hxv] at hv
  exact ⟨_, Act.eval ⟨a, []⟩ x, w, g, by simp [execOp], .inl rfl, hr.put _ hv (fun d _ => Tail.meek (by intro l; simp)), .refl _ _ _, hn⟩) h
theorem mvD_ {nb : Nat} {R : Rt} {k1 k2 : List Item} (n : Nat) {d : Bool} {x : Operand} {id off len es : Nat} {ag full : Bool} {dst : Option Nat} {ty : TypeId} {pos : String} {after : Array Edge} {all rest : List Oper}
  (hxv : opv tm x = .rs id off len es ag full)
  (h : hold P nb R (ex P n (some (d, all, rest)) k1 k2 (put tm dst (.rs id off len es ag full)) hp)) : hold P nb R (.opx ⟨dst, .move x, ty, pos, after, none⟩ d all rest k1 k2 tm hp) := by
 have e1 : mvT all dst tm x = tm := by
  unfold mvT
  split
  ·rename_i t
   have : lget tm t = .rs id off len es ag full := hxv
   rw [this]
  ·rfl
 refine .inl ⟨x, rfl, rfl, ?_⟩
 dsimp only
 rw [e1, hxv]
 exact ex_sound n (some (d, all, rest)) k1 k2 _ _ h
theorem callHD_ {nb : Nat} {R : Rt} {k1 k2 : List Item} {f : FuncId} {args : List AV} {all rest : List Oper} {dst : Option Nat} (n : Nat) (ids : List Nat) {args' : List AV} {hq : Heap} {r : AV} {hp1 : Heap} (hb : barD all dst = true) (hA : ACall P f args' hq r hp1) (ha : renL (idx ids) (args.map fix) = args') (hh : focus ids hp = hq) (hl : fcOk ids hp (args.map fix) = true)
  (h : hold P nb R (ex P n (some (true, all, rest)) k1 k2 (put tm dst (ren (nth ids) r)) (wb (nth ids) ids hp1 hp))) : hold P nb R (.call f args true all rest dst k1 k2 tm hp) :=
 .inr (.inl ⟨.inr hb, ids, r, hp1, hl, by rw [ha, hh]; exact hA, ex_sound n (some (true, all, rest)) k1 k2 _ _ h⟩)
theorem isB_of : ∀ {hp : Heap} {id : Nat} {cs : List AV}, hp[id]? = some (some cs) → isB hp id = true
  | [], _, _, h => by simp at h
  | some _ :: _, 0, _, _ => rfl
  | none :: _, 0, _, h => by simp at h
  | x :: l, n+1, _, h => by
    have := isB_of (hp := l) (id := n) (by simpa using h)
    cases x <;> exact this
theorem renL_map {α : Type} {enc : α → AV} (he : ∀ x, plainA (enc x)) (f : Nat → Nat) (v : List α) : renL f (v.map enc) = v.map enc := by
 have h1 : ∀ x : α, ren f (enc x) = enc x := fun x => by
  have := (he x).1
  have := ren_noRef f (enc x) this
  exact this
 rw [renL_eq, List.map_map]
 exact List.map_congr_left fun x _ => h1 x
theorem ltRL_map {α : Type} {enc : α → AV} (he : ∀ x, plainA (enc x)) (n : Nat) (v : List α) : ltRL n (v.map enc) = true := by
 induction v with
 | nil => rfl
 | cons x v ih =>
  simp only [List.map_cons, ltRL, ih, Bool.and_true]
  exact ltR_zero (he x).1
end
end Go.Av

