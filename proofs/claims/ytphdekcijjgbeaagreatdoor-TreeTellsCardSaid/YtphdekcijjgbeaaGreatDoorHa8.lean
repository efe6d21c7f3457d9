import Derived.Test.YtphdekcijjgbeaaGreatDoorBu
import Derived.Test.YtphdekcijjgbeaaGreatDoorHa7
import Derived.Sort.EncStr
import Derived.Lib.SlicesCompact
set_option linter.unusedSectionVars false
set_option linter.unusedVariables false
set_option linter.unusedSimpArgs false
set_option linter.unnecessarySimpa false
namespace Go.Av
open Go Go.RowKit Go.Proofs Go.Sort
section
variable [Lay] {P : Program} {f : FuncId} {fn : Func}
theorem lput_all (l m : List AV) (h : m.length = l.length) : lput l 0 m = m := by
 apply List.ext_getElem?
 intro j
 rw [lput_get]
 split
 ·simp
 ·rw [List.getElem?_eq_none (by omega), List.getElem?_eq_none (by omega)]
theorem acall_sorted {S : List (List UInt8) → List (List UInt8)} (hS : ∀ ss, (S ss).length ≤ ss.length) (hM : ∀ ss x, x ∈ S ss → x ∈ ss) (he : ∀ vs w, (callFunc f vs).run P w = .ok (.enter f vs) w)
  (hsome : ∀ (blk off cap : Nat) (ss : List (List UInt8)) (w : World), Holds encStr w blk off ss.toArray → blk < w.heap.size → ss.length < 4611686018427387904 → ss.length ≤ cap →
   Calls P f #[.slice (some ⟨blk, off, none⟩) ss.length cap] w fun e w' => e = .returned (.slice (some ⟨blk, off, none⟩) (S ss).length cap) ∧
    ∃ q os, w' = grow ((w.drewN q).setCells blk off ((S ss ++ List.replicate (ss.length - (S ss).length) []).map encStr)) os)
  (hnone : ∀ (p : Option Addr) (cap : Nat) (w : World), Calls P f #[.slice p 0 cap] w fun e w' => e = .returned (.slice p 0 cap) ∧ w' = w)
  {l : List (List UInt8)} {n : Nat} {ag full : Bool} (hn : l.length = n) : ACall P f [.rs 0 0 n 1 ag full] [some (l.map AV.str)] (.sl none ((S l).map AV.str)) [none] := by
 subst hn
 refine ⟨rfl, rfl, by intro oe l; simp, fun g w vs hLg hr hs => .inl ⟨he vs w, ?_⟩⟩
 obtain ⟨ad, b, base, c, cp, hloc, hve, hade, h0, hle, hf, hroom, hmb⟩ := rs_inv (hr.slots 0).1
 rw [vs1 hs, hve]
 have hplain : ∀ (m : List (List UInt8)) x, x ∈ m.map AV.str → noRef x = true ∧ x.cells = [x] := fun m x hx => by
  obtain ⟨y, _, rfl⟩ := List.mem_map.1 hx; exact ⟨rfl, rfl⟩
 have hfin : ∀ (g1 : Gh) (w1 : World) (m : List (List UInt8)) (ad' : Option Addr), Rel g1 [.rs 0 0 l.length 1 ag full] [some (m.map AV.str)] vs w1 → g1.loc 0 = some (b, base, c) → m.length ≤ cp → m.length ≤ maxB → (m ≠ [] → ad' = some ⟨b, base, none⟩) → (m = [] → True) → Stp 1 g w g1 w1 →
   ∃ v g', Ending.returned (.slice ad' m.length cp) = .returned v ∧ Rel g' [.sl none (m.map AV.str)] [none] #[v] w1 ∧ Stp [some (l.map AV.str)].length g w g' w1 := fun g1 w1 m ad' h1 hl1 hc hm ha _ hst => by
  obtain ⟨f1, f2, f3⟩ := Rel.frzK (h1.kill 0) (id := 0) (cs := m.map AV.str) rfl hl1 (fun t => by rw [lget_killI]; exact killA_all) (fun i cs' hi hc x hx => by
   match i, hi, hc with
   | i+1, _, hc => simp at hc) (hplain m)
  have hvr : VR (g1.frzK w1 0 b base (m.map AV.str).length) (.sl none (m.map AV.str)) (.slice ad' m.length cp) := by
   by_cases hz : m = []
   ·subst hz
    exact .sl rfl (by simp) (by simp) 0 0 1 (fun _ => undef) (fun e => absurd rfl e) (by simp) (by omega) (by simp) (fun j av hj => by simp at hj) (fun j av hj => by simp at hj) (by simp)
   ·rw [ha hz]
    have := f3 cp none (by simpa using hc) (by simpa using hm) (by simp)
    simpa using this
  refine ⟨_, _, rfl, ⟨by simp, fun t => ?_, f1.heap, f1.locs, f1.imms, f1.owns, f1.fzs⟩, hst.trans (f2 _)⟩
  match t with
  | 0 => exact ⟨hvr, Tail.meek (by intro l; simp [lget])⟩
  | t+1 => exact ⟨by simp [lget]; exact .any _, trivial⟩
 by_cases hz : l = []
 ·subst hz
  have hS0 : S [] = [] := List.eq_nil_of_length_eq_zero (by have := hS []; simpa using this)
  refine (hnone ad cp w).mono ?_
  rintro e w' ⟨rfl, rfl⟩
  have := hfin g _ [] ad hr hloc (by simp) (by simp) (fun h => absurd rfl h) (fun _ => trivial) (.refl _ _ _)
  rw [hS0]; exact this
 ·have hpos : 0 < l.length := List.length_pos_iff.2 hz
  have hcp : 0 < cp := by omega
  obtain rfl : ad = some ⟨b, base, none⟩ := by rw [hade hcp]; rfl
  obtain ⟨b', base', c', e1, e2, e3, e4⟩ := hr.heap 0 (l.map AV.str) rfl
  rw [hloc] at e1
  simp only [Option.some.injEq, Prod.mk.injEq] at e1
  obtain ⟨rfl, rfl, rfl⟩ := e1
  have hown : ∀ j, j < l.length → g.ow b (base + j) = .blk 0 := fun j hj => e3 j (by omega)
  have hH : Holds encStr w b base l.toArray := fun j hj => by
   have hj' : j < l.length := by simpa using hj
   obtain ⟨v, q1, q2, _⟩ := e4 j (.str l[j]) (by simp [hj'])
   obtain ⟨u, rfl, hu, _⟩ := str_inv q2
   obtain rfl := bytes_eta hu
   refine ⟨?_, ((hr.owns b (base + j) (by rw [hown j hj']; simp)).2 (by rw [hown j hj']; simp))⟩
   rw [q1, getElem!_pos l.toArray j hj]
   simp
  have hblk : b < w.heap.size := hr.lt (b := b) (o := base) (by have := hown 0 hpos; rw [Nat.add_zero] at this; rw [this]; simp)
  have hbig : l.length < 4611686018427387904 := by unfold maxB at hmb; omega
  refine (hsome b base cp l w hH hblk hbig hle).mono ?_
  rintro e w' ⟨rfl, q, os, rfl⟩
  have hd := hr.world (w1 := w.drewN q) ⟨rfl, rfl, rfl, Nat.le_refl _, fun _ _ => rfl⟩ 1
  have hSl := hS l
  have hFl : (S l ++ List.replicate (l.length - (S l).length) []).length = l.length := by simp; omega
  have hFm : ∀ x, x ∈ S l ++ List.replicate (l.length - (S l).length) [] → x.length ≤ maxB := fun x hx => by
   rcases List.mem_append.1 hx with h | h
   ·have hx := hM l x h
    obtain ⟨j, hj, e⟩ := List.getElem_of_mem hx
    obtain ⟨v, _, q2, _⟩ := e4 j (.str x) (by simp [hj, e])
    obtain ⟨_, _, _, h3⟩ := str_inv q2
    exact h3
   ·rw [(List.mem_replicate.1 h).2]; simp
  generalize hF : S l ++ List.replicate (l.length - (S l).length) [] = F at *
  obtain ⟨s1, s2, _, _⟩ := hd.1.store (id := 0) (off := 0) (F.map AV.str) (F.map encStr) (by simp) (by simp [hget, hFl]) (by simp; omega) hloc (fun j x u hx hu => by
   simp only [List.getElem?_map, Option.map_eq_some_iff] at hx hu
   obtain ⟨y, hy, rfl⟩ := hx
   obtain ⟨y', hy', rfl⟩ := hu
   rw [hy] at hy'; cases hy'
   exact ⟨.str (by simp [encStr]) (hFm y (List.mem_of_getElem? hy)), Tail.meek (by intro l; simp)⟩)
  have hw := s1.world (w1 := grow ((w.drewN q).setCells b (base + 0) (F.map encStr)) os) (Lib.below_grow _ _ (Nat.le_refl _) 0 os) 1
  have hsh := hw.1.shrink (id := 0) (cs := F.map AV.str) (by simp [hset, hget, lput_all _ _ (show (F.map AV.str).length = (l.map AV.str).length by simp [hFl])]) (S l).length
  have e5 : hset (hset [some (l.map AV.str)] 0 (lput (hget [some (l.map AV.str)] 0) 0 (F.map AV.str))) 0 (List.take (S l).length (F.map AV.str)) = [some ((S l).map AV.str)] := by
   simp only [hset, ← hF, List.map_append]
   rw [List.take_left' (by simp)]
  rw [e5] at hsh
  exact hfin g _ (S l) (some ⟨b, base, none⟩) hsh hloc (by omega) (by omega) (fun _ => rfl) (fun _ => trivial) ((hd.2.trans (s2 1)).trans hw.2)
end
end Go.Av

