import Derived.Test.YteeokchpojaaoaaGreatDoorHa5
import Derived.Test.YteeokchpojaaoaaGreatDoorEx4
import Derived.Lib.AtoiAll
import Derived.Lib.AtoiBound
import Derived.Lib.AtoiAllCases
import Derived.Lib.ItoaNum
import Derived.Lib.AppendIntMem
import Derived.Lib.LaidTab
import Derived.Lib.SplitLaws
import Derived.Lib.ItoaLen
import Derived.Lib.ConvBytes
import Derived.Lib.AtoiErrMem
import Derived.WalkSmall
set_option linter.unusedSectionVars false
set_option linter.unusedVariables false
set_option linter.unusedSimpArgs false
set_option linter.unusedVariables false
set_option linter.unusedSimpArgs false
namespace Go.Av
open Go Go.RowKit
section
variable [Lay] {P : Program} {f : FuncId} {fn : Func}

/-- strings.Cut, as far as its contract goes. -/
def cutS (s sep : List UInt8) : Option (List UInt8 × List UInt8 × Bool) := if s.length < 4294967281 then some (Lib.cut s sep) else none
theorem cut_len (s sep : List UInt8) : (Lib.cut s sep).1.length ≤ s.length ∧ (Lib.cut s sep).2.1.length ≤ s.length := by
  unfold Lib.cut; split <;> simp <;> omega
theorem acall_cut {m : Int} (hL : Lay.L 1 0 (.int .i64 m)) (he : ∀ vs w, (callFunc f vs).run P w = .ok (.enter f vs) w)
    (hx : ∀ (s sep : ByteArray) (w : World), s.size < 4294967281 → w.cell? ⟨1, 0, none⟩ = some (.int .i64 m) →
      Calls P f #[.string s, .string sep] w fun e w' => e = .returned (.tuple #[.string ⟨(Lib.cut s.data.toList sep.data.toList).1.toArray⟩, .string ⟨(Lib.cut s.data.toList sep.data.toList).2.1.toArray⟩, .bool (Lib.cut s.data.toList sep.data.toList).2.2]) ∧ ∃ n, w' = w.drewN n)
    {s sep : List UInt8} {r : List UInt8 × List UInt8 × Bool} (h : cutS s sep = some r) : ACall P f [.str s, .str sep] [] (.tup [.str r.1, .str r.2.1, .bool r.2.2]) [] := by
  unfold cutS at h
  split at h
  · rename_i hc
    obtain rfl := Option.some.inj h
    refine acall_ans rfl (by intro oe l; simp) he fun g w vs hLg hr hs => ?_
    obtain ⟨b0, e0, f0, g0⟩ := str_inv (hr.slots 0).1
    obtain ⟨b1, e1, f1, _⟩ := str_inv (hr.slots 1).1
    rw [vs2 hs, e0, e1]
    obtain rfl := bytes_eta f0
    obtain rfl := bytes_eta f1
    refine (hx _ _ w (by simpa [ByteArray.size] using hc) (hr.imms _ _ _ (hLg.1 _ _ _ hL))).mono ?_
    rintro e w' ⟨rfl, n, rfl⟩
    have hl := cut_len s sep
    refine ⟨_, rfl, .tup rfl fun j av v h1 h2 => ?_, below_drewN (.refl _ _) n⟩
    match j, h1, h2 with
    | 0, h1, h2 => simp at h1 h2; subst h1; subst h2; exact .str rfl (by have := g0; have := hl.1; omega)
    | 1, h1, h2 => simp at h1 h2; subst h1; subst h2; exact .str rfl (by have := g0; have := hl.2; omega)
    | 2, h1, h2 => simp at h1 h2; subst h1; subst h2; exact .bool
    | j+3, h1, h2 => simp at h1
  · cases h

/-- strconv.Itoa. -/
theorem itoa_len (n : Int) (h0 : -9223372036854775808 ≤ n) (h1 : n ≤ 9223372036854775807) : (Lib.itoa n).length ≤ maxB := by
  have := Lib.itoa_length_le n h0 h1
  unfold maxB; omega
def itoaS (n : Int) : Option (List UInt8) := some (Lib.itoa n)
theorem acall_itoa {G : Nat} (hG : P.globalNamed "internal/strconv.uint64pow10" = some G) (hS : Lay.S G 20) (hL : ∀ (j : Nat) z, Lib.pow10Tab[j]? = some z → Lay.L G j (.int .u64 z)) (he : ∀ vs w, (callFunc f vs).run P w = .ok (.enter f vs) w)
    (hx : ∀ (n : Int) (w : World), -9223372036854775808 ≤ n → n ≤ 9223372036854775807 → Lib.TabIs P w "internal/strconv.uint64pow10" .u64 Lib.pow10Tab →
      Calls P f #[.int .i64 n] w fun e w' => e = .returned (.string ⟨(Lib.itoa n).toArray⟩) ∧ ∃ k os, w' = Sort.grow (w.drewN k) os)
    {n : Int} {r : List UInt8} (h : itoaS n = some r) : ACall P f [.int .i64 n] [] (.str r) [] := by
  obtain rfl := Option.some.inj h
  refine acall_ans rfl (by intro oe l; simp) he fun g w vs hLg hr hs => ?_
  obtain ⟨e0, h0, h1⟩ := int_inv (hr.slots 0).1
  rw [vs1 hs, e0]
  have m0 : IntKind.min .i64 = -9223372036854775808 := rfl
  have m1 : IntKind.max .i64 = 9223372036854775807 := rfl
  rw [m0] at h0
  rw [m1] at h1
  have hT : Lib.TabIs P w "internal/strconv.uint64pow10" .u64 Lib.pow10Tab := by
    unfold Lib.TabIs World.var?
    rw [hG]
    obtain ⟨c, e, f', q1, q2⟩ := hLg.2.1 G 20 hS
    simp only [Option.bind_some, q1, Option.some.injEq]
    have hlen : Lib.pow10Tab.length = 20 := by simp [Lib.pow10Tab]
    apply Array.ext
    · simp [q2, hlen]
    · intro i hi1 hi2
      have hi : i < Lib.pow10Tab.length := by rw [hlen]; omega
      have := hr.imms _ _ _ (hLg.1 _ _ _ (hL i _ (List.getElem?_eq_getElem hi)))
      simp only [World.cell?, q1] at this
      rw [Array.getElem?_eq_getElem hi1] at this
      simp at this
      rw [this]; simp
  refine (hx n w h0 h1 hT).mono ?_
  rintro e w' ⟨rfl, k, os, rfl⟩
  exact ⟨_, rfl, .str rfl (itoa_len n h0 h1), Lib.below_grow _ w (Nat.le_refl _) k os⟩

/-- strconv.Atoi: the number, and is there no error? -/
def atoiS (s : List UInt8) : Option (Int × Bool) :=
  if s.length ≤ 140737488355328 then some (match Lib.atoiAll s with | .ok v => (v, true) | .range => (Lib.atoiSat s, false) | _ => (0, false)) else none
theorem noRef_encO {n : Nat} {T : TypeId} {b : Bool} : ltR n (encO T b) = true := by cases b <;> rfl
theorem atoiSat_rng (s : List UInt8) : -9223372036854775808 ≤ Lib.atoiSat s ∧ Lib.atoiSat s ≤ 9223372036854775807 := by
  unfold Lib.atoiSat; split <;> omega
theorem acall_atoi {T : TypeId} {G1 G2 : Nat} {a1 a2 : Value} {t1 t2 : TypeId} (hL1 : Lay.L G1 0 (.iface t1 a1)) (hL2 : Lay.L G2 0 (.iface t2 a2)) (he : ∀ vs w, (callFunc f vs).run P w = .ok (.enter f vs) w)
    (h1 : ∀ (s : ByteArray) (v : Int) (w : World), s.size ≤ 9223372036854775806 → Lib.atoiAll s.data.toList = .ok v → Calls P f #[.string s] w fun e w' => e = .returned (.tuple #[.int .i64 v, .nilIface]) ∧ (w' = w ∨ ∃ t, w' = Lib.bytesWorld w 5 t))
    (h2 : ∀ (s : ByteArray) (ev : Value) (w : World), s.size ≤ 281474976710656 → Lib.atoiAll s.data.toList = Lib.atoiAll [] → w.cell? ⟨G1, 0, none⟩ = some ev → (ev = .nilIface ∨ ∃ te pe, ev = .iface te pe) →
      Calls P f #[.string s] w fun e w' => ∃ N, e = .returned (.tuple #[.int .i64 (0), .iface T (.pointer (some ⟨N, 0, none⟩))]) ∧ Below w.heap.size w w')
    (h3 : ∀ (s : ByteArray) (ev : Value) (w : World), s.size ≤ 281474976710656 → Lib.atoiAll s.data.toList = .range → w.cell? ⟨G2, 0, none⟩ = some ev → (ev = .nilIface ∨ ∃ te pe, ev = .iface te pe) →
      Calls P f #[.string s] w fun e w' => ∃ N, e = .returned (.tuple #[.int .i64 (Lib.atoiSat s.data.toList), .iface T (.pointer (some ⟨N, 0, none⟩))]) ∧ Below w.heap.size w w')
    {s : List UInt8} {r : Int × Bool} (h : atoiS s = some r) : ACall P f [.str s] [] (.tup [.int .i64 r.1, encO T r.2]) [] := by
  unfold atoiS at h
  split at h
  · rename_i hc
    obtain rfl := Option.some.inj h
    refine acall_ans (by simp [ltR, ltRL, noRef_encO]) (by intro oe l; simp) he fun g w vs hLg hr hs => ?_
    obtain ⟨b0, e0, f0, g0⟩ := str_inv (hr.slots 0).1
    rw [vs1 hs, e0]
    obtain rfl := bytes_eta f0
    have m0 : IntKind.min .i64 = -9223372036854775808 := rfl
    have m1 : IntKind.max .i64 = 9223372036854775807 := rfl
    have htup : ∀ (n : Int) (b : Bool) (u : Value), -9223372036854775808 ≤ n → n ≤ 9223372036854775807 → VR g.out (encO T b) u → VR g.out (.tup [.int .i64 n, encO T b]) (.tuple #[.int .i64 n, u]) := fun n b u hn0 hn1 hu => by
      refine .tup rfl fun j av v h1 h2 => ?_
      match j, h1, h2 with
      | 0, h1, h2 => simp at h1 h2; subst h1; subst h2; exact .int hn0 hn1
      | 1, h1, h2 => simp at h1 h2; subst h1; subst h2; exact hu
      | j+2, h1, h2 => simp at h1
    cases ha : Lib.atoiAll s with
    | ok v =>
      refine (h1 ⟨s.toArray⟩ v w (by simp [ByteArray.size]; omega) ha).mono ?_
      rintro e w' ⟨rfl, hw⟩
      have hv := Lib.atoiAll_bounds ha
      refine ⟨_, rfl, htup v true _ (by omega) (by omega) .nilI, ?_⟩
      rcases hw with rfl | ⟨t, rfl⟩
      · exact .refl _ _
      · exact Lib.bytesWorld_below _ _ _
    | range =>
      refine (h3 ⟨s.toArray⟩ _ w (by simp [ByteArray.size]; omega) ha (hr.imms _ _ _ (hLg.1 _ _ _ hL2)) (.inr ⟨_, _, rfl⟩)).mono ?_
      rintro e w' ⟨N, rfl, hb⟩
      have := atoiSat_rng s
      exact ⟨_, rfl, htup _ false _ this.1 this.2 (.iface (.any _)), hb⟩
    | _ =>
      refine (h2 ⟨s.toArray⟩ _ w (by simp [ByteArray.size]; omega) (ha.trans rfl) (hr.imms _ _ _ (hLg.1 _ _ _ hL1)) (.inr ⟨_, _, rfl⟩)).mono ?_
      rintro e w' ⟨N, rfl, hb⟩
      exact ⟨_, rfl, htup 0 false _ (by omega) (by omega) (.iface (.any _)), hb⟩
  · cases h

/-- strings.Split, as far as its contract goes. -/
theorem splitB_count (sep : ByteArray) (h1 : 1 ≤ sep.size) : ∀ (n : Nat) (s : ByteArray), Lib.countB s sep = n → (Lib.splitB sep 0 n s).length = n + 1
  | 0, s, _ => rfl
  | n + 1, s, h => by
    have hne : Lib.indexB s sep ≠ -1 := fun e => by rw [Lib.countB_miss _ _ e] at h; omega
    obtain ⟨i, hi⟩ : ∃ i : Nat, Lib.indexB s sep = i := by
      rcases Lib.index_spec s.data.toList sep.data.toList with ⟨e, _⟩ | ⟨i, e, _⟩
      · exact absurd e hne
      · exact ⟨i, e⟩
    have hc := Lib.countB_hit s sep i h1 hi
    rw [Lib.splitB_hit _ _ _ _ _ hi, List.length_cons, splitB_count sep h1 n _ (by omega)]
def splitS (s sep : List UInt8) : Option (List (List UInt8)) :=
  if s.length < 4294967281 ∧ 1 ≤ sep.length then some (Lib.splitK sep 0 (Lib.countB ⟨s.toArray⟩ ⟨sep.toArray⟩) s) else none
theorem splitK_part (sep : List UInt8) (m : Nat) : ∀ (k : Nat) (s : List UInt8), s.length ≤ m → ∀ p, p ∈ Lib.splitK sep 0 k s → p.length ≤ m
  | 0, s, h, p, hp => by simp [Lib.splitK] at hp; subst hp; exact h
  | k + 1, s, h, p, hp => by
    unfold Lib.splitK at hp
    split at hp
    · simp at hp; subst hp; exact h
    · rcases List.mem_cons.1 hp with rfl | hp
      · simp; omega
      · exact splitK_part sep m k _ (by simp; omega) p hp
theorem acall_split {m : Int} (hL : Lay.L 1 0 (.int .i64 m)) {ts : TypeId} (he : ∀ vs w, (callFunc f vs).run P w = .ok (.enter f vs) w)
    (hx : ∀ (s sep : ByteArray) (w : World), s.size < 4294967281 → w.cell? ⟨1, 0, none⟩ = some (.int .i64 m) → 1 ≤ sep.size →
      Calls P f #[.string s, .string sep] w fun e w' => e = .returned (.slice (some ⟨w.heap.size, 0, none⟩) (Lib.countB s sep + 1) (Lib.countB s sep + 1)) ∧ w' = w.alloc (.cells ((Lib.splitB sep 0 (Lib.countB s sep) s).map Value.string).toArray ts))
    {s sep : List UInt8} {r : List (List UInt8)} (h : splitS s sep = some r) : ACall P f [.str s, .str sep] [] (.sl none (r.map AV.str)) [] := by
  unfold splitS at h
  split at h
  · rename_i hc
    obtain ⟨c1, c2⟩ := hc
    obtain rfl := Option.some.inj h
    refine ⟨rfl, rfl, by intro oe l; simp, fun g w vs hLg hr hs => .inl ⟨he vs w, ?_⟩⟩
    obtain ⟨b0, e0, f0, g0⟩ := str_inv (hr.slots 0).1
    obtain ⟨b1, e1, f1, _⟩ := str_inv (hr.slots 1).1
    rw [vs2 hs, e0, e1]
    obtain rfl := bytes_eta f0
    obtain rfl := bytes_eta f1
    have hsep : 1 ≤ (⟨sep.toArray⟩ : ByteArray).size := by simpa [ByteArray.size] using c2
    refine (hx _ _ w (by simpa [ByteArray.size] using c1) (hr.imms _ _ _ (hLg.1 _ _ _ hL)) hsep).mono ?_
    rintro e w' ⟨rfl, rfl⟩
    have hcnt := splitB_count ⟨sep.toArray⟩ hsep _ ⟨s.toArray⟩ rfl
    have hdat := Lib.splitB_data ⟨sep.toArray⟩ 0 (Lib.countB ⟨s.toArray⟩ ⟨sep.toArray⟩) ⟨s.toArray⟩
    simp only at hdat
    have hle := Lib.countB_le ⟨sep.toArray⟩ hsep s.length ⟨s.toArray⟩ (by simp [ByteArray.size])
    have hsz : (⟨s.toArray⟩ : ByteArray).size = s.length := by simp [ByteArray.size]
    rw [hsz] at hle
    generalize Lib.countB ⟨s.toArray⟩ ⟨sep.toArray⟩ = cn at *
    generalize hB : Lib.splitB ⟨sep.toArray⟩ 0 cn ⟨s.toArray⟩ = xs at *
    have hpart := splitK_part sep s.length cn s (Nat.le_refl _)
    rw [← hdat] at hpart ⊢
    have hlen : ((xs.map (·.data.toList)).map AV.str).length = cn + 1 := by simp [hcnt]
    have hnew := hr.newSlice0 0 ((xs.map (·.data.toList)).map AV.str) 1 (by omega) (fun x hx => by
        obtain ⟨y, _, rfl⟩ := List.mem_map.1 hx; rfl) (fun x hx c hcc => by
        obtain ⟨y, _, rfl⟩ := List.mem_map.1 hx
        simp [AV.cells] at hcc; subst hcc; rfl) (xs.map Value.string).toArray ts (0, 0) (cn + 1) (by omega) (by simp [hcnt]) (fun o ho => by simp) (fun j av hj => by
        rw [flat_str] at hj
        simp only [List.getElem?_map, Option.map_eq_some_iff] at hj
        obtain ⟨y, ⟨z, hz, rfl⟩, rfl⟩ := hj
        refine ⟨.string z, by simp [hz], .str rfl ?_⟩
        have := hpart z.data.toList (List.mem_map.2 ⟨z, List.mem_of_getElem? hz, rfl⟩)
        have : s.length ≤ maxB := by unfold maxB; omega
        omega) (by rw [hlen]; unfold maxB; omega)
    obtain ⟨g', q1, q2, q3⟩ := hnew
    rw [hlen] at q3
    exact ⟨_, g', rfl, q1.slotsTo q3 (by intro oe l; simp), q2⟩
  · cases h
end
end Go.Av

