import Derived.Test.YtmedpledgchipaaGreatDoorHa2
import Derived.Test.YtmedpledgchipaaGreatDoorEx4
import Derived.Lib.AtoiAll
import Derived.Lib.AtoiBound
import Derived.Lib.AtoiAllCases
import Derived.Lib.ItoaNum
import Derived.Lib.AppendIntMem
import Derived.Lib.LaidTab
import Derived.Lib.SplitLaws
import Derived.Lib.ItoaLen
import Derived.Lib.ConvBytes
import Derived.Lib.AtoiErrMem
import Derived.WalkSmall
set_option linter.unusedSectionVars false
set_option linter.unusedVariables false
set_option linter.unusedSimpArgs false
set_option linter.unnecessarySimpa false
namespace Go.Av
open Go Go.RowKit
section
variable [Lay] {P : Program} {f : FuncId} {fn : Func}
theorem splitB_count (sep : ByteArray) (h1 : 1 ≤ sep.size) : ∀ (n : Nat) (s : ByteArray), Lib.countB s sep = n → (Lib.splitB sep 0 n s).length = n + 1
 | 0, s, _ => rfl
 | n + 1, s, h => by
  have hne : Lib.indexB s sep ≠ -1 := fun e => by rw [Lib.countB_miss _ _ e] at h; omega
  obtain ⟨i, hi⟩ : ∃ i : Nat, Lib.indexB s sep = i := by
   rcases Lib.index_spec s.data.toList sep.data.toList with ⟨e, _⟩ | ⟨i, e, _⟩
   ·exact absurd e hne
   ·exact ⟨i, e⟩
  have hc := Lib.countB_hit s sep i h1 hi
  rw [Lib.splitB_hit _ _ _ _ _ hi, List.length_cons, splitB_count sep h1 n _ (by omega)]
def splitS (s sep : List UInt8) : Option (List (List UInt8)) :=
 if s.length < 4294967281 ∧ 1 ≤ sep.length then some (Lib.splitK sep 0 (Lib.countB ⟨s.toArray⟩ ⟨sep.toArray⟩) s) else none
theorem splitK_part (sep : List UInt8) (m : Nat) : ∀ (k : Nat) (s : List UInt8), s.length ≤ m → ∀ p, p ∈ Lib.splitK sep 0 k s → p.length ≤ m
 | 0, s, h, p, hp => by simp [Lib.splitK] at hp; subst hp; exact h
 | k + 1, s, h, p, hp => by
  unfold Lib.splitK at hp
  split at hp
  ·simp at hp; subst hp; exact h
  ·rcases List.mem_cons.1 hp with rfl | hp
   ·simp; omega
   ·exact splitK_part sep m k _ (by simp; omega) p hp
theorem acall_split {bm : Nat} {m : Int} (hL : Lay.L bm 0 (.int .i64 m)) {ts : TypeId} (he : ∀ vs w, (callFunc f vs).run P w = .ok (.enter f vs) w)
  (hx : ∀ (s sep : ByteArray) (w : World), s.size < 4294967281 → w.cell? ⟨bm, 0, none⟩ = some (.int .i64 m) → 1 ≤ sep.size →
   Calls P f #[.string s, .string sep] w fun e w' => e = .returned (.slice (some ⟨w.heap.size, 0, none⟩) (Lib.countB s sep + 1) (Lib.countB s sep + 1)) ∧ w' = w.alloc (.cells ((Lib.splitB sep 0 (Lib.countB s sep) s).map Value.string).toArray ts))
  {s sep : List UInt8} {r : List (List UInt8)} (h : splitS s sep = some r) : ACall P f [.str s, .str sep] [] (.sl none (r.map AV.str)) [] := by
 unfold splitS at h
 split at h
 ·rename_i hc
  obtain ⟨c1, c2⟩ := hc
  obtain rfl := Option.some.inj h
  refine ⟨rfl, rfl, by intro oe l; simp, fun g w vs hLg hr hs => .inl ⟨he vs w, ?_⟩⟩
  obtain ⟨b0, e0, f0, g0⟩ := str_inv (hr.slots 0).1
  obtain ⟨b1, e1, f1, _⟩ := str_inv (hr.slots 1).1
  rw [vs2 hs, e0, e1]
  obtain rfl := bytes_eta f0
  obtain rfl := bytes_eta f1
  have hsep : 1 ≤ (⟨sep.toArray⟩ : ByteArray).size := by simpa [ByteArray.size] using c2
  refine (hx _ _ w (by simpa [ByteArray.size] using c1) (hr.imms _ _ _ (hLg.1 _ _ _ hL)) hsep).mono ?_
  rintro e w' ⟨rfl, rfl⟩
  have hcnt := splitB_count ⟨sep.toArray⟩ hsep _ ⟨s.toArray⟩ rfl
  have hdat := Lib.splitB_data ⟨sep.toArray⟩ 0 (Lib.countB ⟨s.toArray⟩ ⟨sep.toArray⟩) ⟨s.toArray⟩
  simp only at hdat
  have hle := Lib.countB_le ⟨sep.toArray⟩ hsep s.length ⟨s.toArray⟩ (by simp [ByteArray.size])
  have hsz : (⟨s.toArray⟩ : ByteArray).size = s.length := by simp [ByteArray.size]
  rw [hsz] at hle
  generalize Lib.countB ⟨s.toArray⟩ ⟨sep.toArray⟩ = cn at *
  generalize hB : Lib.splitB ⟨sep.toArray⟩ 0 cn ⟨s.toArray⟩ = xs at *
  have hpart := splitK_part sep s.length cn s (Nat.le_refl _)
  rw [← hdat] at hpart ⊢
  have hlen : ((xs.map (·.data.toList)).map AV.str).length = cn + 1 := by simp [hcnt]
  have hnew := hr.newSlice0 0 ((xs.map (·.data.toList)).map AV.str) 1 (by omega) (fun x hx => by
    obtain ⟨y, _, rfl⟩ := List.mem_map.1 hx; rfl) (fun x hx c hcc => by
    obtain ⟨y, _, rfl⟩ := List.mem_map.1 hx
    simp [AV.cells] at hcc; subst hcc; rfl) (xs.map Value.string).toArray ts (0, 0) (cn + 1) (by omega) (by simp [hcnt]) (fun o ho => by simp) (fun j av hj => by
    rw [flat_str] at hj
    simp only [List.getElem?_map, Option.map_eq_some_iff] at hj
    obtain ⟨y, ⟨z, hz, rfl⟩, rfl⟩ := hj
    refine ⟨.string z, by simp [hz], .str rfl ?_⟩
    have := hpart z.data.toList (List.mem_map.2 ⟨z, List.mem_of_getElem? hz, rfl⟩)
    have : s.length ≤ maxB := by unfold maxB; omega
    omega) (by rw [hlen]; unfold maxB; omega)
  obtain ⟨g', q1, q2, q3⟩ := hnew
  rw [hlen] at q3
  exact ⟨_, g', rfl, q1.slotsTo q3 (by intro oe l; simp), q2⟩
 ·cases h
end
end Go.Av

