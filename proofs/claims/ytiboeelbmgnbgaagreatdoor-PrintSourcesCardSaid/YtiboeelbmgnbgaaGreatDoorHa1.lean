import Derived.Test.YtiboeelbmgnbgaaGreatDoorAv4
import Derived.Lib.Replace
import Derived.Lib.Join
set_option linter.unusedSectionVars false
set_option linter.unusedVariables false
set_option linter.unusedSimpArgs false
set_option linter.unnecessarySimpa false
namespace Go.Av
open Go Go.RowKit
section
variable [Lay] {P : Program} {f : FuncId} {fn : Func}
theorem zG3 {args : List AV} {r : AV} (hn : zB2 r = true) (hm : Meek r) (he : ∀ vs w, (callFunc f vs).run P w = .ok (.enter f vs) w)
  (h : ∀ (g : Gh) (w : World) (vs : Array Value), zGH g w → Rel g args [] vs w → vs.size = args.length → Calls P f vs w fun e w' => ∃ v, e = .returned v ∧ VR g.out r v ∧ Below w.heap.size w w') : zAe P f args [] r [] :=
 zGQ hn hm fun g w vs hL hr hs => .inl ⟨he vs w, h g w vs hL hr hs⟩
theorem zPc {args : List AV} {r : AV} (hn : zB2 r = true) (hm : Meek r)
  (h : ∀ (g : Gh) (w : World) (vs : Array Value), Rel g args [] vs w → vs.size = args.length → False) : zAe P f args [] r [] :=
 zGQ hn hm fun g w vs _ hr hs => (h g w vs hr hs).elim
theorem vs1 {vs : Array Value} (h : vs.size = 1) : vs = #[vs.getD 0 undef] := by
 obtain ⟨l⟩ := vs
 match l, h with
 | [x], _ => rfl
theorem vs2 {vs : Array Value} (h : vs.size = 2) : vs = #[vs.getD 0 undef, vs.getD 1 undef] := by
 obtain ⟨l⟩ := vs
 match l, h with
 | [x, y], _ => rfl
theorem vs3 {vs : Array Value} (h : vs.size = 3) : vs = #[vs.getD 0 undef, vs.getD 1 undef, vs.getD 2 undef] := by
 obtain ⟨l⟩ := vs
 match l, h with
 | [x, y, z], _ => rfl
theorem bytes_eta {b : ByteArray} {s : List UInt8} (h : b.data.toList = s) : b = ⟨s.toArray⟩ := by
 apply ByteArray.ext; subst h; simp
theorem zKN (hf : P.funcs[f]? = some fn) (hname : (fn.name == "runtime.NumGoroutine") = false) (hb : fn.body.isNone = true) (hn : Extern.findNext fn = none) (he : Extern.find fn = some Extern.BytealgIndexByte.indexByte) (s : List UInt8) (c : Int) :
  zAe P f [.str s, .int .u8 c] [] (.int .i64 (idxB s (UInt8.ofNat c.toNat))) [] := by
 by_cases h : s.length ≤ maxB ∧ 0 ≤ c ∧ c ≤ 255
 ·obtain ⟨h1, h2, h3⟩ := h
  have e : ((UInt8.ofNat c.toNat).toNat : Int) = c := by
   have : c.toNat < 256 := by omega
   simp [UInt8.toNat_ofNat', Nat.mod_eq_of_lt this]; omega
  have := zFZ hf hname hb hn he s (UInt8.ofNat c.toNat) h1
  rwa [e] at this
 refine zPc rfl (by intro l; simp) fun g w vs hr hs => h ?_
 obtain ⟨_, _, _, h1⟩ := zCf (hr.slots 0).1
 obtain ⟨_, h2, h3⟩ := zCo (hr.slots 1).1
 exact ⟨h1, h2, h3⟩
def zFI (s old new : List UInt8) : Option (List UInt8) :=
 if s.length < 4294967281 ∧ 1 ≤ old.length ∧ s.length + Lib.countB ⟨s.toArray⟩ ⟨old.toArray⟩ * new.length ≤ 140737488355328 ∧ (Lib.replaceAll s old new).length ≤ maxB then some (Lib.replaceAll s old new) else none
theorem zIc {m : Int} (hL : Lay.L 1 0 (.int .i64 m)) (he : ∀ vs w, (callFunc f vs).run P w = .ok (.enter f vs) w)
  (hx : ∀ (s old new : ByteArray) (w : World), s.size < 4294967281 → w.cell? ⟨1, 0, none⟩ = some (.int .i64 m) → 1 ≤ old.size → s.size + Lib.countB s old * new.size ≤ 140737488355328 →
   Calls P f #[.string s, .string old, .string new] w fun e w' => e = .returned (.string ⟨(Lib.replaceAll s.data.toList old.data.toList new.data.toList).toArray⟩) ∧ Below w.heap.size w w')
  {s old new r : List UInt8} (h : zFI s old new = some r) : zAe P f [.str s, .str old, .str new] [] (.str r) [] := by
 unfold zFI at h
 split at h
 ·rename_i hc
  obtain ⟨c1, c2, c3, c4⟩ := hc
  obtain rfl := Option.some.inj h
  refine zG3 rfl (by intro l; simp) he fun g w vs hLg hr hs => ?_
  obtain ⟨b0, e0, f0, _⟩ := zCf (hr.slots 0).1
  obtain ⟨b1, e1, f1, _⟩ := zCf (hr.slots 1).1
  obtain ⟨b2, e2, f2, _⟩ := zCf (hr.slots 2).1
  rw [vs3 hs, e0, e1, e2]
  obtain rfl := bytes_eta f0
  obtain rfl := bytes_eta f1
  obtain rfl := bytes_eta f2
  refine (hx _ _ _ w (by simpa [ByteArray.size] using c1) (hr.imms _ _ _ (hLg.1 _ _ _ hL)) (by simpa [ByteArray.size] using c2) (by simpa [ByteArray.size] using c3)).mono ?_
  rintro e w' ⟨rfl, hb⟩
  exact ⟨_, rfl, .str (by simp) c4, hb⟩
 cases h
theorem zNz (xs : List (List UInt8)) : (xs.map AV.str).flatMap AV.cells = xs.map AV.str := by
 induction xs with
 | nil => rfl
 | cons x xs ih => simp only [List.map_cons, List.flatMap_cons, ih]; rfl
def joinS (xs : List (List UInt8)) (sep : List UInt8) : Option (List UInt8) :=
 if xs.length ≤ 140737488355328 ∧ (Lib.join xs sep).length ≤ 140737488355328 then some (Lib.join xs sep) else none
theorem zOe (he : ∀ vs w, (callFunc f vs).run P w = .ok (.enter f vs) w)
  (h0 : ∀ (a : Option Addr) (c : Nat) (sep : ByteArray) (w : World), Calls P f #[.slice a 0 c, .string sep] w fun e w' => e = .returned (.string ⟨#[]⟩) ∧ w' = w)
  (hx : ∀ (bk o c : Nat) (xs : List ByteArray) (sep : ByteArray) (w : World), (∀ (j : Nat) x, xs[j]? = some x → w.cell? ⟨bk, o + j, none⟩ = some (.string x)) → bk < w.heap.size → xs.length ≤ 140737488355328 → xs.length ≤ c → (Lib.join (xs.map (·.data.toList)) sep.data.toList).length ≤ 140737488355328 →
   Calls P f #[.slice (some ⟨bk, o, none⟩) xs.length c, .string sep] w fun e w' => e = .returned (.string ⟨(Lib.join (xs.map (·.data.toList)) sep.data.toList).toArray⟩) ∧ Below w.heap.size w w')
  {o : Option (Option ETy)} {xs : List (List UInt8)} {sep r : List UInt8} (h : joinS xs sep = some r) : zAe P f [.sl o (xs.map AV.str), .str sep] [] (.str r) [] := by
 unfold joinS at h
 split at h
 ·rename_i hc
  obtain ⟨c1, c2⟩ := hc
  obtain rfl := Option.some.inj h
  refine zG3 rfl (by intro l; simp) he fun g w vs hLg hr hs => ?_
  obtain ⟨ad, cap, b, o', es, us, hve, hcap, hlm, had, hes, hp, hn, him, hvv⟩ := zGB (hr.slots 0).1
  obtain ⟨b1, e1, f1, _⟩ := zCf (hr.slots 1).1
  obtain rfl := bytes_eta f1
  rw [vs2 hs, hve, e1]
  rw [zNz xs] at him hvv
  by_cases hxs : xs = []
  ·subst hxs
   refine (h0 ad cap _ w).mono ?_
   rintro e w' ⟨rfl, rfl⟩
   exact ⟨_, rfl, .str rfl c2, .refl _ _⟩
  rw [had (by simpa using hxs)]
  let bs : List ByteArray := xs.map fun l => ⟨l.toArray⟩
  have hbs : bs.map (·.data.toList) = xs := by simp [bs, Function.comp_def]
  have hlt : b < w.heap.size := by
   obtain ⟨x, hx⟩ := List.exists_mem_of_ne_nil _ hxs
   obtain ⟨j, hj⟩ := List.getElem?_of_mem hx
   have := him j (.str x) (by simp [hj])
   exact hr.lt (b := b) (o := o' + j) (by rw [this]; simp)
  have := hx b o' cap bs ⟨sep.toArray⟩ w (fun j x hj => by
   simp only [bs, List.getElem?_map, Option.map_eq_some_iff] at hj
   obtain ⟨l, hl, rfl⟩ := hj
   have h1 := him j (.str l) (by simp [hl])
   have h2 := hvv j (.str l) (by simp [hl])
   obtain ⟨q, hq, hq2, _⟩ := zCf h2
   rw [hr.imms _ _ _ h1, hq, bytes_eta hq2]) hlt (by simpa [bs] using c1) (by simpa [bs] using hcap) (by rw [hbs]; exact c2)
  rw [show bs.length = (xs.map AV.str).length by simp [bs]] at this
  refine this.mono ?_
  rintro e w' ⟨rfl, hb⟩
  rw [hbs]
  exact ⟨_, rfl, .str rfl c2, hb⟩
 cases h
end
end Go.Av

