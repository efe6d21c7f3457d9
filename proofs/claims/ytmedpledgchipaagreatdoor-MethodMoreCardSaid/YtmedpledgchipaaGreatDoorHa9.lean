import Derived.Test.YtmedpledgchipaaGreatDoorHa8
import Derived.Test.YtmedpledgchipaaGreatDoorEx8
import Derived.Lib.RowBridge
set_option linter.unusedSectionVars false
set_option linter.unusedVariables false
set_option linter.unusedSimpArgs false
set_option linter.unnecessarySimpa false
namespace Go.Av
open Go Go.RowKit Go.Proofs Go.Sort
def sortI (l : List Int) : List Int := l.mergeSort fun x y => decide (x ≤ y)
def zerosI (l : List Int) : List Int := Lib.compact l ++ List.replicate (l.length - (Lib.compact l).length) 0
theorem zerosI_len (l : List Int) : (zerosI l).length = l.length := by
 have := Lib.compact_length_le l
 simp [zerosI]; omega
theorem compact_mem {l : List Int} {x : Int} (h : x ∈ Lib.compact l) : x ∈ l := by
 unfold Lib.compact Lib.compactUpTo at h
 obtain ⟨j, hj, rfl⟩ := List.mem_map.1 h
 have hj := List.mem_range.1 (List.mem_filter.1 hj).1
 rw [getElem!_pos l.toArray j (by simpa using hj)]
 simp
section
variable [Lay] {P : Program} {f : FuncId} {fn : Func}
theorem acall_row {F : List Int → List Int} {r : List Int → AV} {rv : Option Addr → Nat → List Int → Value} (hF : ∀ l, (F l).length = l.length) (hFm : ∀ l x, x ∈ F l → x ∈ l ∨ x = 0) (he : ∀ vs w, (callFunc f vs).run P w = .ok (.enter f vs) w)
  (hsome : ∀ (blk off cap : Nat) (l : List Int) (w : World), Holds (Value.int .i64) w blk off l.toArray → blk < w.heap.size → l.length < 4611686018427387904 → l.length ≤ cap → l ≠ [] →
   Calls P f #[.slice (some ⟨blk, off, none⟩) l.length cap] w fun e w' => e = .returned (rv (some ⟨blk, off, none⟩) cap l) ∧
    ∃ q os, w' = grow ((w.drewN q).setCells blk off ((F l).map (Value.int .i64))) os)
  (hnone : ∀ (p : Option Addr) (cap : Nat) (w : World), Calls P f #[.slice p 0 cap] w fun e w' => e = .returned (rv p cap []) ∧ w' = w)
  (hr1 : ∀ l, ltR 1 (r l) = true) (hr2 : ∀ l, Meek (r l))
  (hrv : ∀ (g : Gh) (ad : Option Addr) (b base c cp : Nat) (l : List Int), g.loc 0 = some (b, base, c) → (0 < cp → ad = some ⟨b, base + 0, none⟩) → l.length ≤ cp → 0 + cp * 1 ≤ c → l.length ≤ maxB → VR g (r l) (rv ad cp l))
  {l : List Int} {n : Nat} {ag full : Bool} (hn : l.length = n) : ACall P f [.rs 0 0 n 1 ag full] [some (l.map (AV.int .i64))] (r l) [some ((F l).map (AV.int .i64))] := by
 subst hn
 refine ⟨hr1 l, rfl, hr2 l, fun g w vs hLg hr hs => .inl ⟨he vs w, ?_⟩⟩
 obtain ⟨ad, b, base, c, cp, hloc, hve, hade, h0, hle, hf, hroom, hmb⟩ := rs_inv (hr.slots 0).1
 rw [vs1 hs, hve]
 have hfin : ∀ (g1 : Gh) (w1 : World) (m : List Int), Rel g1 [.rs 0 0 l.length 1 ag full] [some (m.map (AV.int .i64))] vs w1 → g1.loc 0 = some (b, base, c) → Stp 1 g w g1 w1 →
   ∃ v g', Ending.returned (rv ad cp l) = .returned v ∧ Rel g' [r l] [some (m.map (AV.int .i64))] #[v] w1 ∧ Stp [some (l.map (AV.int .i64))].length g w g' w1 := fun g1 w1 m h1 hl1 hst => by
  refine ⟨_, _, rfl, ⟨by simp, fun t => ?_, h1.heap, h1.locs, h1.imms, h1.owns, h1.fzs⟩, hst⟩
  match t with
  | 0 => exact ⟨hrv g1 ad b base c cp l hl1 (by simpa using hade) hle (by simpa using hroom) hmb, Tail.meek (hr2 l)⟩
  | t+1 => exact ⟨by simp [lget]; exact .any _, trivial⟩
 by_cases hz : l = []
 ·subst hz
  have hF0 : F [] = [] := List.eq_nil_of_length_eq_zero (by simpa using hF [])
  refine (hnone ad cp w).mono ?_
  rintro e w' ⟨rfl, rfl⟩
  have := hfin g _ [] hr hloc (.refl _ _ _)
  rw [hF0]; exact this
 ·have hpos : 0 < l.length := List.length_pos_iff.2 hz
  have hcp : 0 < cp := by omega
  obtain rfl : ad = some ⟨b, base, none⟩ := by rw [hade hcp]; rfl
  obtain ⟨b', base', c', e1, e2, e3, e4⟩ := hr.heap 0 (l.map (AV.int .i64)) rfl
  rw [hloc] at e1
  simp only [Option.some.injEq, Prod.mk.injEq] at e1
  obtain ⟨rfl, rfl, rfl⟩ := e1
  have hown : ∀ j, j < l.length → g.ow b (base + j) = .blk 0 := fun j hj => e3 j (by omega)
  have hint : ∀ j, (hj : j < l.length) → w.cell? ⟨b, base + j, none⟩ = some (.int .i64 l[j]) ∧ IntKind.i64.min ≤ l[j] ∧ l[j] ≤ IntKind.i64.max := fun j hj => by
   obtain ⟨v, q1, q2, _⟩ := e4 j (.int .i64 l[j]) (by simp [hj])
   obtain ⟨rfl, h1, h2⟩ := int_inv q2
   exact ⟨q1, h1, h2⟩
  have hH : Holds (Value.int .i64) w b base l.toArray := fun j hj => by
   have hj' : j < l.length := by simpa using hj
   refine ⟨?_, ((hr.owns b (base + j) (by rw [hown j hj']; simp)).2 (by rw [hown j hj']; simp))⟩
   rw [(hint j hj').1, getElem!_pos l.toArray j hj]
   simp
  have hblk : b < w.heap.size := hr.lt (b := b) (o := base) (by have := hown 0 hpos; rw [Nat.add_zero] at this; rw [this]; simp)
  have hbig : l.length < 4611686018427387904 := by unfold maxB at hmb; omega
  refine (hsome b base cp l w hH hblk hbig hle hz).mono ?_
  rintro e w' ⟨rfl, q, os, rfl⟩
  have hd := hr.world (w1 := w.drewN q) ⟨rfl, rfl, rfl, Nat.le_refl _, fun _ _ => rfl⟩ 1
  have hFl := hF l
  have hFb : ∀ x, x ∈ F l → IntKind.i64.min ≤ x ∧ x ≤ IntKind.i64.max := fun x hx => by
   rcases hFm l x hx with h | h
   ·obtain ⟨j, hj, e⟩ := List.getElem_of_mem h
    have := (hint j hj).2
    rw [e] at this; exact this
   ·subst h; decide
  generalize hG : F l = G at *
  obtain ⟨s1, s2, _, _⟩ := hd.1.store (id := 0) (off := 0) (G.map (AV.int .i64)) (G.map (Value.int .i64)) (by simp) (by simp [hget, hFl]) (by simp; omega) hloc (fun j x u hx hu => by
   simp only [List.getElem?_map, Option.map_eq_some_iff] at hx hu
   obtain ⟨y, hy, rfl⟩ := hx
   obtain ⟨y', hy', rfl⟩ := hu
   rw [hy] at hy'; cases hy'
   have := hFb y (List.mem_of_getElem? hy)
   exact ⟨.int this.1 this.2, Tail.meek (by intro l; simp)⟩)
  have hw := s1.world (w1 := grow ((w.drewN q).setCells b (base + 0) (G.map (Value.int .i64))) os) (Lib.below_grow _ _ (Nat.le_refl _) 0 os) 1
  have e5 : hset [some (l.map (AV.int .i64))] 0 (lput (hget [some (l.map (AV.int .i64))] 0) 0 (G.map (AV.int .i64))) = [some (G.map (AV.int .i64))] := by
   simp only [hset, hget, lput_all _ _ (show (G.map (AV.int .i64)).length = (l.map (AV.int .i64)).length by simp [hFl])]
  rw [e5] at hw
  exact hfin g _ G hw.1 hloc ((hd.2.trans (s2 1)).trans hw.2)
theorem acall_sortI (he : ∀ vs w, (callFunc f vs).run P w = .ok (.enter f vs) w)
  (hsome : ∀ (blk off cap : Nat) (l : List Int) (w : World), Holds (Value.int .i64) w blk off l.toArray → blk < w.heap.size → l.length < 4611686018427387904 →
   Calls P f #[.slice (some ⟨blk, off, none⟩) l.length cap] w fun e w' => e = .returned (.tuple #[]) ∧ ∃ n os, w' = grow (putRow (Value.int .i64) (Sort.ahead w n) blk off (l.mergeSort fun x y => decide (x ≤ y)).toArray) os)
  (hnone : ∀ (p : Option Addr) (cap : Nat) (w : World), Calls P f #[.slice p 0 cap] w fun e w' => e = .returned (.tuple #[]) ∧ w' = w)
  {l : List Int} {n : Nat} {ag full : Bool} (hn : l.length = n) : ACall P f [.rs 0 0 n 1 ag full] [some (l.map (AV.int .i64))] (.tup []) [some ((sortI l).map (AV.int .i64))] :=
 acall_row (F := sortI) (r := fun _ => .tup []) (rv := fun _ _ _ => .tuple #[]) (fun l => List.length_mergeSort ..) (fun l x h => .inl (List.mem_mergeSort.1 h)) he
  (fun blk off cap l w hH hb hs hc _ => (hsome blk off cap l w hH hb hs).mono fun e w' ⟨h1, n, os, h2⟩ => ⟨h1, n, os, by rw [h2, Lib.putRow_eq_setCells _ w blk off l.toArray (l.mergeSort fun x y => decide (x ≤ y)) _ hH (by rw [List.length_mergeSort]; simp)]; rfl⟩)
  hnone (fun _ => rfl) (fun _ => meek_tup) (fun g ad b base c cp l _ _ _ _ _ => .tup rfl (by intros; simp_all)) hn
theorem acall_compactI (he : ∀ vs w, (callFunc f vs).run P w = .ok (.enter f vs) w)
  (hsome : ∀ (blk off cap : Nat) (l : List Int) (w : World), Holds (Value.int .i64) w blk off l.toArray → l.length ≤ 9223372036854775807 → l.length ≤ cap →
   Calls P f #[.slice (some ⟨blk, off, none⟩) l.length cap] w fun e w' => e = .returned (.slice (some ⟨blk, off, none⟩) (Lib.compact l).length cap) ∧ ∃ q, w' = putRow (Value.int .i64) (Sort.ahead w q) blk off (Lib.compact l ++ List.replicate (l.length - (Lib.compact l).length) 0).toArray)
  (hnone : ∀ (p : Option Addr) (cap : Nat) (w : World), Calls P f #[.slice p 0 cap] w fun e w' => e = .returned (.slice p 0 cap) ∧ w' = w)
  {l : List Int} {n : Nat} {ag full : Bool} (hn : l.length = n) : ACall P f [.rs 0 0 n 1 ag full] [some (l.map (AV.int .i64))] (.rs 0 0 (Lib.compact l).length 1 false false) [some ((zerosI l).map (AV.int .i64))] :=
 acall_row (F := zerosI) (r := fun l => .rs 0 0 (Lib.compact l).length 1 false false) (rv := fun ad cp l => .slice ad (Lib.compact l).length cp) zerosI_len (fun l x h => by
   rcases List.mem_append.1 h with h | h
   ·exact .inl (compact_mem h)
   ·exact .inr (List.mem_replicate.1 h).2) he
  (fun blk off cap l w hH hb hs hc _ => (hsome blk off cap l w hH (by omega) hc).mono fun e w' ⟨h1, q, h2⟩ => ⟨h1, q, #[], by rw [h2]; exact (Lib.putRow_eq_setCells _ w blk off l.toArray (zerosI l) q hH (by rw [zerosI_len]; simp)).trans (by simp)⟩)
  (fun p cap w => by have := hnone p cap w; exact this) (fun _ => rfl) (fun _ => by intro oe l; simp) (fun g ad b base c cp l h1 h2 h3 h4 h5 => .rs h1 h2 (by omega) (by have := Lib.compact_length_le l; omega) (by simp) h4 (by have := Lib.compact_length_le l; omega)) hn
end
theorem zerosI_take {enc : Int → AV} (l : List Int) : ((zerosI l).map enc).take (Lib.compact l).length = (Lib.compact l).map enc := by
 simp only [zerosI, List.map_append]
 rw [List.take_left' (by simp)]
theorem lenZ {L : List Int} {n : Nat} (h : L.length = n) : (zerosI L).length = n := (zerosI_len L).trans h
theorem ifSome {α : Type} {b : Bool} {x y : α} (h : (if b = true then some x else none) = some y) : b = true ∧ x = y := by
 cases b with
 | true => exact ⟨rfl, Option.some.inj h⟩
 | false => cases h
def slices_Sort_int (l : List Int) : Option (List Int) := some (sortI l)
def slices_Compact_int (l : List Int) : Option (List Int) := some (Lib.compact l)
theorem len_slices_Sort_int {l r : List Int} (h : slices_Sort_int l = some r) : r.length = l.length := by
 obtain rfl := Option.some.inj h
 exact List.length_mergeSort ..
end Go.Av

