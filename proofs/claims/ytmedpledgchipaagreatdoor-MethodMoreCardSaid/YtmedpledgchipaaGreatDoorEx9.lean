import Derived.Test.YtmedpledgchipaaGreatDoorEx8
set_option linter.unusedSectionVars false
set_option linter.unusedVariables false
set_option linter.unusedSimpArgs false
set_option linter.unnecessarySimpa false
namespace Go.Av
open Go
def lit1 {α : Type} (x : α) : Option (List α) := some [x]
section
variable {ρ : Type} {r : ρ} {G : Prop}
theorem bAtZ_s [Lay] {α : Type} (enc : α → AV) (k : IntKind) (e : El) (h1 : e.sz = 1) (id : Nat) (ag full : Bool) {xs : List α} {n : Nat} (hn : xs.length = n) {A : α → Option ρ} (h : (lAt xs 0).bind A = some r)
  (g : ∀ x, lAt xs 0 = some x → iadC e (.rs id 0 n 1 ag full) (.int k 0) → iadV (.rs id 0 n 1 ag full) (.int k 0) = .ptr id 0 → lget (xs.map enc) 0 = enc x → decide (0 < xs.length) = true → decide (0 + 1 ≤ xs.length) = true →
   (∀ z, lput (xs.map enc) 0 [enc z] = (xs.set 0 z).map enc) → A x = some r → G) : G := bAtL_s 0 enc k e h1 id ag full hn h g
theorem lit1_s {α : Type} {x : α} {A : List α → Option ρ} (h : (lit1 x).bind A = some r) (g : ∀ v, [x] = v → A v = some r → G) : G := g _ rfl h
theorem cut_s {α : Type} {v : List α} {n : Nat} (hn : v.length = n) {j : Int} {A : List α → Option ρ} (h : (sub v 0 j).bind A = some r) (g : ∀ v', 0 ≤ j → j ≤ (n : Int) → v.take j.toNat = v' → A v' = some r → G) : G := by
 subst hn
 unfold sub at h
 split at h
 ·rename_i hc
  exact g _ hc.2.1 hc.2.2 (by simp) h
 ·cases h
end
section
variable [Lay] {P : Program} {nb : Nat} {R : Rt} {k1 k2 k : List Item} {tm : List AV} {hp : Heap} {t : TypeId} {m : Nat} {dst : Option Nat} {ty : TypeId} {pos : String} {after : Array Edge} {all rest : List Oper}
theorem litB_ {α : Type} (enc : α → AV) (he : ∀ x, plainA (enc x)) (n : Nat) {x : α} {v : List α} (hv : [x] = v) {o : Operand} {e : El} (ag : Bool) (hel : elOf P t = some e) (hsz : e.sz = 1) (hk : okElems 1 [enc x] = true) (hx : okOpd o = true) (hxv : opv tm o = enc x) (hfx : fix (enc x) = enc x) (bi : Nat) (hbi : hp.length = bi) {hp2 : Heap} (hh : hp ++ [some (v.map enc)] = hp2)
  (h : hold P nb R (ex P n (some (false, all, rest)) k1 k2 (put tm dst (.rs bi 0 v.length 1 ag false)) hp2)) : hold P nb R (.opx ⟨dst, .buildSlice t 1 (List.toArray [(0, o)]), ty, pos, after, none⟩ false all rest k1 k2 tm hp) := by
 subst hh; subst hbi; subst hv
 rw [show [x].length = 1 from rfl] at h
 refine opx_ n (fun gd g a w _ hr hn => ?_) h
 obtain ⟨hu, hs, hag, hby, z, hz⟩ := el_of hel
 obtain ⟨i, zz, hi, hzz, hok, hsz0, _⟩ := zero_of hz
 obtain ⟨ii, hii, es⟩ := info_of_sz hs
 rw [hi] at hii; cases hii
 have hsz1 : i.size = 1 := by rw [es, hsz]
 have hzs : zz.cells.size = 1 := by rw [hsz0, hsz1]
 have hl : elemsOf tm 0 [(0, o)] = some [enc x] := by simp [elemsOf, hxv, hfx]
 let cells0 : Array Value := (Array.range (1 * 1)).map (fun x => zz.cells[x % zz.cells.size]!)
 have hs0 : cells0.size = 1 := by simp [cells0]
 obtain ⟨cells', r1, r2, r3, r4⟩ := elems_fill hr (sz := 1) [(0, o)] [enc x] 0 cells0 (fun p hp => by simp at hp; subst hp; exact hx) hl hk (by rw [hs0]; simp)
 have hcx : (enc x).cells = [enc x] := (he x).2.1
 obtain ⟨u, hu1, hu2⟩ := r4 0 (enc x) rfl 0 (enc x) (by rw [hcx]; rfl)
 simp only [Nat.add_zero, Nat.zero_mul] at hu1
 obtain ⟨g1, n1, n2, n3, n4, n5⟩ := hr.newBlk ([x].map enc) cells' e.t (by rw [r2, hs0]; simp) (fun j x' v h1 h2 => by
   cases j with
   | zero => simp at h1; subst h1; rw [hu1] at h2; cases h2; exact hu2
   | succ j => simp at h1) (fun j x' v h1 h2 k g' _ => by
   cases j with
   | zero => simp at h1; subst h1; exact Tail.meek (he x).2.2
   | succ j => simp at h1)
 refine ⟨_, .slice (some ⟨w.heap.size, 0, none⟩) 1 1, _, g1, ?_, .inl rfl, n1.put _ ?_ (fun d _ => Tail.meek (by intro l; simp)), n2.mono_n hn, by simp; omega⟩
 ·simp only [execOp, Instr.buildSlice, Sem.run_bind, run_underlying hu, Result.andThen_ok, run_sz w hs]
  have e2 : ((List.toArray [(0, o)]).map fun (x : Nat × Operand) => (x.1, Act.eval ⟨a, []⟩ x.2)).toList = [(0, o)].map fun p => (p.1, Act.eval ⟨a, []⟩ p.2) := by simp
  rw [e2, hsz]
  simp [cells0] at r1
  simp [zeroValue, typeInfo, hi, hzz, r1, newRow]
 ·exact .rs n4 (fun _ => by simp) (by omega) (by omega) (fun e => by cases e) (by rw [r2, hs0]; omega) (by simp [maxB])
theorem cutB_ {α : Type} (enc : α → AV) (n : Nat) {v : List α} {x hi : Operand} {id nn : Nat} {ag full : Bool} {kd : IntKind} {j : Int} {e : El} (hnn : v.length = nn) (hel : elOf P t = some e) (hsz : e.sz = 1) (hx : okOpd x = true) (hxv : opv tm x = .rs id 0 nn 1 ag full) (hh : okOpd hi = true) (hhv : opv tm hi = .int kd j) (h0 : 0 ≤ j) (h1 : j ≤ (nn : Int)) (hcs : hp[id]? = some (some (v.map enc))) {hp2 : Heap} {v' : List α} (hv : v.take j.toNat = v') (hp' : hset hp id (v'.map enc) = hp2)
  (h : hold P nb R (ex P n (some (false, all, rest)) k1 k2 (put tm dst (.rs id 0 v'.length 1 ag false)) hp2)) : hold P nb R (.opx ⟨dst, .slice t x none (some hi) none, ty, pos, after, none⟩ false all rest k1 k2 tm hp) := by
 subst hp'; subst hv; subst hnn
 refine opx_ n (fun gd g a w _ hr hn => ?_) h
 have hv := opv_VR hr hx
 rw [hxv] at hv
 have hvi := opv_VR hr hh
 rw [hhv] at hvi
 obtain ⟨ei, _, _⟩ := int_inv hvi
 obtain ⟨ad, b0, base, c, cap, hloc, hve, hade, h00, hcap, hf, hroomc, hlm⟩ := rs_inv hv
 simp only [Nat.add_zero, Nat.zero_add, Nat.mul_one] at hade hroomc
 have hs := hr.shrink hcs j.toNat
 rw [← List.map_take] at hs
 have hlen : (v.take j.toNat).length = j.toNat := by rw [List.length_take]; omega
 have hrun := run_bounds (P := P) (isS := true) (len := v.length) (cap := cap) (lo := none) (hi := some hi) hr (fun _ h => by cases h) (fun y h => by cases h; exact hh) (l := 0) (r := j) rfl (by simp [highOf, hhv]) (Int.le_refl _) h0 h1 hcap
 obtain ⟨hu, hse, hag, _⟩ := el_of hel
 have hadd : ∀ z : Addr, z.add 0 = z := fun z => by cases z; simp [Addr.add]
 refine ⟨_, .slice ad j.toNat cap, _, g, ?_, .inl rfl, hs.put _ ?_ (fun d _ => Tail.meek (by intro l; simp)), .refl _ _ _, by simp [hset_eq]; omega⟩
 ·rw [Option.map_none, Option.map_some] at hrun
  simp [execOp, Instr.sliceAt, Instr.slice, run_underlying hu, hve, hrun, run_sz w hse, hadd]
 ·rw [hlen]
  exact .rs hloc (by simpa using hade) h00 (by omega) (fun e => by cases e) (by simpa using hroomc) (by omega)
end
end Go.Av

