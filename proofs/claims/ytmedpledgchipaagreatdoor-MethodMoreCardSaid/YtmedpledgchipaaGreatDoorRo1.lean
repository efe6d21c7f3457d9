import Derived.Test.YtmedpledgchipaaGreatDoorEx5
import Derived.ChangeSame
import Derived.ChangeVars
import Derived.ChangeArms
import Derived.Carry
import Derived.Handed
import Derived.OpenShut
set_option linter.unusedSectionVars false
set_option linter.unusedVariables false
set_option linter.unusedSimpArgs false
set_option linter.unnecessarySimpa false
namespace Go.Av
open Go
def Gh.all (w : World) : Gh where
 ow b o := match w.cell? ⟨b, o, none⟩ with | some v => .imm v | none => .free
 loc _ := none
 fz _ := none
theorem all_imm {w : World} {b o : Nat} {v : Value} : (Gh.all w).ow b o = .imm v ↔ w.cell? ⟨b, o, none⟩ = some v := by
 unfold Gh.all; dsimp only
 cases h : w.cell? ⟨b, o, none⟩ with
 | none => simp
 | some u => simp
theorem Rel.start {args : List AV} {vs : Array Value} {w : World} (hs : args.length ≤ vs.size) (hv : ∀ t, VR (Gh.all w) (lget args t) (vs.getD t undef)) (hm : ∀ t, Meek (lget args t)) : Rel (Gh.all w) args [] vs w := by
 refine ⟨hs, fun t => ⟨hv t, Tail.meek (hm t)⟩, fun id cs h => by simp at h, fun id _ => rfl, fun b o v h => all_imm.1 h, fun b o h => ?_, fun b e h => by simp [Gh.all] at h⟩
 cases hc : w.cell? ⟨b, o, none⟩ with
 | none => exact absurd (by simp [Gh.all, hc]) h
 | some v => exact ⟨⟨v, rfl⟩, fun hi => absurd (all_imm.2 hc) (hi v)⟩
theorem below_all {n : Nat} {w w' : World} {g' : Gh} (h : Stp n (Gh.all w) w g' w') : RowKit.Below w.heap.size w w' := by
 refine ⟨h.upd.os, h.upd.tape, h.upd.output, h.upd.size, fun k hk => ?_⟩
 obtain ⟨o, ho⟩ : ∃ o, w.heap[k]? = some o := ⟨_, Array.getElem?_eq_getElem hk⟩
 by_cases hc : ∃ c e f, o = Obj.cells c e f
 ·obtain ⟨c, e, f, rfl⟩ := hc
  obtain ⟨c', f', h1, h2, h3, h4, _⟩ := h.upd.cells k c e f ho
  have e1 : c' = c := by
   apply Array.ext_getElem?
   intro i
   refine h3 i ?_
   cases hi : w.cell? ⟨k, i, none⟩ with
   | none => left; simp [Gh.all, hi]
   | some v => right; exact ⟨v, all_imm.2 hi⟩
  rw [h1, ho, e1, h4 rfl]
 ·exact (h.upd.other k o ho fun c e f e1 => hc ⟨c, e, f, e1⟩).trans ho.symm
def tilesB (sz : Field → Nat) : Nat → List Field → Bool
 | _, [] => true
 | o, f :: fs => (f.offset == o) && tilesB sz (o + sz f) fs
def totB (sz : Field → Nat) : List Field → Nat
 | [] => 0
 | f :: fs => sz f + totB sz fs
def plainT (P : Program) : Nat → TypeId → Bool
 | 0, _ => false
 | d+1, t => match P.underlying t with
  | some .bool => P.cellsOf t == 1
  | some (.int _) => P.cellsOf t == 1
  | some .string => P.cellsOf t == 1
  | some (.slice e) => (P.cellsOf t == 1) && decide (0 < P.cellsOf e) && decide (0 < P.bytesOf e) && plainT P d e && (match P.underlying e with | some (.struct _) => true | _ => P.cellsOf e == 1)
  | some (.struct fs) => tilesB (fun f => P.cellsOf f.type) 0 fs.toList && (totB (fun f => P.cellsOf f.type) fs.toList == P.cellsOf t) && fs.toList.all fun f => plainT P d f.type
  | some (.array n e) => (match P.underlying e with | some (.int _) => true | _ => false) && (P.cellsOf e == 1) && (P.cellsOf t == n)
  | _ => false
def isStr (P : Program) (e : TypeId) : Bool := match P.underlying e with | some (.struct _) => true | some (.array _ _) => true | _ => false
def TyD (P : Program) : Nat → TypeId → List AV → Prop
 | 0, _, _ => False
 | d+1, t, cs => match P.underlying t with
  | some .bool => ∃ b, cs = [.bool b]
  | some (.int k) => ∃ n, cs = [.int k n] ∧ k.min ≤ n ∧ n ≤ k.max
  | some .string => ∃ s, cs = [.str s] ∧ s.length ≤ reachBytes
  | some (.slice e) => ∃ l, cs = [.sl none l] ∧ l.length * P.bytesOf e ≤ reachBytes ∧ ∀ x, x ∈ l → TyD P d e x.cells ∧ (bif isStr P e then ∃ c, x = .agg c else x.cells = [x])
  | some (.struct fs) => cs.length = P.cellsOf t ∧ ∀ f, f ∈ fs.toList → TyD P d f.type ((cs.drop f.offset).take (P.cellsOf f.type))
  | some (.array n e) => cs.length = n ∧ ∀ c, c ∈ cs → ∃ k z, P.underlying e = some (.int k) ∧ c = .int k z ∧ k.min ≤ z ∧ z ≤ k.max
  | _ => False
theorem listEx {α : Type} {p : Nat → α → Prop} : ∀ (n : Nat), (∀ i, i < n → ∃ x, p i x) → ∃ l : List α, l.length = n ∧ ∀ i x, l[i]? = some x → p i x
 | 0, _ => ⟨[], rfl, fun i x h => by simp at h⟩
 | n+1, h => by
  obtain ⟨l, h1, h2⟩ := listEx n fun i hi => h i (by omega)
  obtain ⟨x, hx⟩ := h n (by omega)
  refine ⟨l ++ [x], by simp [h1], fun i y hy => ?_⟩
  rcases Nat.lt_or_ge i n with hi | hi
  ·rw [List.getElem?_append_left (by omega)] at hy; exact h2 i y hy
  ·rw [List.getElem?_append_right (by omega)] at hy
   have hi0 : i - l.length = 0 := by
    rcases Nat.eq_zero_or_pos (i - l.length) with h0 | h0
    ·exact h0
    ·rw [List.getElem?_eq_none (by simp; omega)] at hy; cases hy
   have : i = n := by omega
   subst this
   simp [hi0] at hy; subst hy; exact hx
theorem tile {sz : Field → Nat} : ∀ (fs : List Field) (o : Nat) (xs : List (List AV)), tilesB sz o fs = true → xs.length = fs.length → (∀ (i : Nat) f x, fs[i]? = some f → xs[i]? = some x → x.length = sz f) →
  xs.flatten.length = totB sz fs ∧ (∀ (i : Nat) f x, fs[i]? = some f → xs[i]? = some x → o ≤ f.offset ∧ f.offset - o + sz f ≤ totB sz fs ∧ (xs.flatten.drop (f.offset - o)).take (sz f) = x) ∧
  (∀ j, j < totB sz fs → ∃ (i : Nat) (f : Field) (k : Nat), fs[i]? = some f ∧ k < sz f ∧ j = f.offset - o + k)
 | [], o, xs, _, hl, _ => by
  have : xs = [] := by simpa using hl
  subst this
  exact ⟨rfl, fun i f x h => by simp at h, fun j h => by simp [totB] at h⟩
 | f :: fs, o, [], _, hl, _ => by simp at hl
 | f :: fs, o, x :: xs, ht, hl, hx => by
  simp only [tilesB, Bool.and_eq_true, beq_iff_eq] at ht
  obtain ⟨q1, q2, q3⟩ := tile fs (o + sz f) xs ht.2 (by simpa using hl) fun i f' x' h1 h2 => hx (i+1) f' x' (by simpa using h1) (by simpa using h2)
  have hx0 : x.length = sz f := hx 0 f x rfl rfl
  refine ⟨by simp [totB, hx0, q1], fun i f' x' h1 h2 => ?_, fun j hj => ?_⟩
  ·cases i with
   | zero =>
    simp at h1 h2; subst h1 h2
    refine ⟨by omega, by simp [totB]; omega, ?_⟩
    rw [ht.1, Nat.sub_self, List.drop_zero, List.flatten_cons, List.take_append_of_le_length (by omega), List.take_of_length_le (by omega)]
   | succ i =>
    obtain ⟨r1, r2, r3⟩ := q2 i f' x' (by simpa using h1) (by simpa using h2)
    refine ⟨by omega, by simp [totB]; omega, ?_⟩
    rw [List.flatten_cons, show f'.offset - o = x.length + (f'.offset - (o + sz f)) by omega, ← List.drop_drop, List.drop_append_of_le_length (by omega)]
    simp [r3]
  ·simp only [totB] at hj
   rcases Nat.lt_or_ge j (sz f) with h | h
   ·exact ⟨0, f, j, rfl, h, by omega⟩
   ·obtain ⟨i, f', k, r1, r2, r3⟩ := q3 (j - sz f) (by omega)
    have : o + sz f ≤ f'.offset := by
     have hi : i < fs.length := (List.getElem?_eq_some_iff.1 r1).1
     exact (q2 i f' (xs[i]'(by simp at hl; omega)) r1 (by simp)).1
    exact ⟨i+1, f', k, by simpa using r1, r2, by omega⟩
section
variable {H : Type} {enc : TypeId × Value → H} {P : Program} {w : World} {base : Nat} {spare : Nat → Bool} {held : Bool}
theorem cells_get {a : Addr} {n : Nat} {cs : List Value} (h : w.cells? base a n = some cs) : cs.length = n ∧ ∀ (j : Nat) (v : Value), cs[j]? = some v → w.cell? (a.add j) = some v := by
 unfold World.cells? at h
 split at h
 ·have hl := mapM_some_length h
  refine ⟨by simpa using hl, fun j v hj => ?_⟩
  have hjn : j < n := by
   have := (List.getElem?_eq_some_iff.1 hj).1
   simp at hl; omega
  have := mapM_some_get h j j (by simp [hjn])
  rw [hj] at this; exact this
 ·cases h
theorem spot_none {a : Addr} {v : Value} (h : w.cell? a = some v) : a.spot = none := by
 unfold World.cell? at h
 split at h
 ·split at h
  ·cases h
  ·rename_i hs; simpa using hs
 ·cases h
theorem trod_vr : ∀ (d fuel : Nat) (t : TypeId) (cs : List Value) (x : DataW H × List MemPlace), plainT P d t = true → DataW.trod enc P w base spare held fuel t cs = some x → (x.1.weights P t).all (· ≤ reachBytes) = true →
  ∃ avs : List AV, avs.length = cs.length ∧ cs.length = P.cellsOf t ∧ (∀ (j : Nat) av v, avs[j]? = some av → cs[j]? = some v → VR (Gh.all w) av v) ∧ TyD P d t avs ∧ (∀ av, av ∈ avs → noRef av = true ∧ Meek av)
 | 0, _, _, _, _, hp, _, _ => by simp [plainT] at hp
 | d+1, fuel, t, cs, x, hp, h, hw => by
  unfold plainT at hp
  have hR : reachBytes = 140737488351232 := rfl
  have hB : maxB = 140737488355328 := rfl
  split at hp
  ·rename_i hu
   obtain ⟨b, rfl, rfl⟩ := DataW.trod_bool hu h
   refine ⟨[.bool b], rfl, by simpa using (beq_iff_eq.1 hp).symm, fun j av v h1 h2 => ?_, by unfold TyD; rw [hu]; exact ⟨b, rfl⟩, by simp [noRef, ltR, Meek]⟩
   cases j with
   | zero => simp at h1 h2; subst h1 h2; exact .bool
   | succ j => simp at h1
  ·rename_i k hu
   obtain ⟨n, rfl, rfl, hwf⟩ := DataW.trod_int hu h
   simp only [Lit.wf, Bool.and_eq_true, decide_eq_true_eq] at hwf
   refine ⟨[.int k n], rfl, by simpa using (beq_iff_eq.1 hp).symm, fun j av v h1 h2 => ?_, by unfold TyD; rw [hu]; exact ⟨n, rfl, hwf.1, hwf.2⟩, by simp [noRef, ltR, Meek]⟩
   cases j with
   | zero => simp at h1 h2; subst h1 h2; exact .int hwf.1 hwf.2
   | succ j => simp at h1
  ·rename_i hu
   obtain ⟨s, rfl, rfl, _⟩ := DataW.trod_string hu h
   simp only [DataW.weights, List.all_cons, List.all_nil, Bool.and_true, decide_eq_true_eq] at hw
   refine ⟨[.str s.data.toList], rfl, by simpa using (beq_iff_eq.1 hp).symm, fun j av v h1 h2 => ?_, by unfold TyD; rw [hu]; exact ⟨_, rfl, hw⟩, by simp [noRef, ltR, Meek]⟩
   cases j with
   | zero => simp at h1 h2; subst h1 h2; exact .str rfl (by omega)
   | succ j => simp at h1
  ·rename_i e hu
   simp only [Bool.and_eq_true, decide_eq_true_eq, beq_iff_eq] at hp
   obtain ⟨⟨⟨⟨hc1, hsz⟩, hby⟩, hpe⟩, hsh⟩ := hp
   rcases DataW.trod_slice hu h with ⟨rfl, rfl⟩ | ⟨a, len, cap, elems, rest, n, _, rfl, rfl, hb, hl, hm, hlen, hel, hsp, hns⟩
   ·refine ⟨[.sl none []], rfl, by simpa using hc1.symm, fun j av v h1 h2 => ?_, by unfold TyD; rw [hu]; exact ⟨[], rfl, by simp, by simp⟩, by simp [noRef, ltR, Meek]⟩
    cases j with
    | zero => simp at h1 h2; subst h1 h2; exact .sl rfl (Nat.le_refl _) (by simp) 0 0 1 (fun _ => undef) (fun h => absurd rfl h) (by simp) (by omega) (by simp) (by simp) (by simp) (by simp)
    | succ j => simp at h1
   ·have hwt : (elems.length + rest.length) * P.bytesOf e ≤ reachBytes ∧ ∀ y, y ∈ elems → (y.1.weights P e).all (· ≤ reachBytes) = true := by
     simp only [DataW.weights, hu, List.all_cons, List.all_append, Bool.and_eq_true, decide_eq_true_eq, List.length_map] at hw
     refine ⟨hw.1, ?_⟩
     have hall : ∀ (l : List (DataW H)), (DataW.weightsAll P e l).all (· ≤ reachBytes) = true → ∀ y, y ∈ l → (y.weights P e).all (· ≤ reachBytes) = true := by
      intro l
      induction l with
      | nil => intro _ y hy; simp at hy
      | cons z l ih =>
       intro hz y hy
       simp only [DataW.weightsAll, List.all_append, Bool.and_eq_true] at hz
       rcases List.mem_cons.1 hy with rfl | hy
       ·exact hz.1
       ·exact ih hz.2 y hy
     exact fun y hy => hall _ hw.2.1 _ (List.mem_map_of_mem hy)
    have each : ∀ i, i < len → ∃ q : AV, q.cells.length = P.cellsOf e ∧ (∀ (j : Nat) av, q.cells[j]? = some av → ∃ v, w.cell? (a.add (i * P.cellsOf e + j)) = some v ∧ VR (Gh.all w) av v) ∧ TyD P d e q.cells ∧ (bif isStr P e then ∃ c, q = .agg c else q.cells = [q]) ∧ ∀ c, c ∈ q.cells → noRef c = true := by
     intro i hi
     have h1 := hel i hi
     have hie : i < elems.length := by omega
     rw [List.getElem?_eq_getElem hie, Option.bind_eq_some_iff] at h1
     obtain ⟨csi, hcs, htr⟩ := h1
     obtain ⟨hcl, hcg⟩ := cells_get hcs
     obtain ⟨avs, r1, r2, r3, r4, r5⟩ := trod_vr d n e csi _ hpe htr (hwt.2 _ (List.getElem_mem _))
     have hadd : ∀ j, (a.add (i * P.cellsOf e)).add j = a.add (i * P.cellsOf e + j) := by
      intro j
      unfold Addr.add
      by_cases h0 : i * P.cellsOf e = 0
      ·rw [h0]; simp
      ·by_cases hj : j = 0
       ·subst hj; simp
       ·simp [h0, hj, Nat.add_assoc]
     have hvr : ∀ (j : Nat) av, avs[j]? = some av → ∃ v, w.cell? (a.add (i * P.cellsOf e + j)) = some v ∧ VR (Gh.all w) av v := by
      intro j av hj
      have hjl : j < csi.length := by rw [← r1]; exact (List.getElem?_eq_some_iff.1 hj).1
      refine ⟨csi[j], ?_, r3 j av _ hj (List.getElem?_eq_getElem hjl)⟩
      rw [← hadd]; exact hcg j _ (List.getElem?_eq_getElem hjl)
     cases hs : isStr P e with
     | true => exact ⟨.agg avs, by simp [AV.cells]; omega, hvr, r4, by simp, fun c hc => (r5 c hc).1⟩
     | false =>
      have h1e : P.cellsOf e = 1 := by
       unfold isStr at hs
       split at hs
       ·cases hs
       ·cases hs
       ·rename_i hne _
        split at hsh
        ·rename_i fs hfs; exact absurd hfs (hne fs)
        ·simpa using hsh
      obtain ⟨q, rfl⟩ : ∃ q, avs = [q] := List.length_eq_one_iff.1 (by omega)
      have hqc : q.cells = [q] := by
       unfold isStr at hs
       cases d with
       | zero => simp [plainT] at hpe
       | succ d =>
        unfold TyD at r4
        unfold plainT at hpe
        split at r4
        ·obtain ⟨b, e1⟩ := r4; simp at e1; subst e1; rfl
        ·obtain ⟨n, e1, _⟩ := r4; simp at e1; subst e1; rfl
        ·obtain ⟨n, e1, _⟩ := r4; simp at e1; subst e1; rfl
        ·obtain ⟨n, e1, _⟩ := r4; simp at e1; subst e1; rfl
        ·rename_i fs hfs; rw [hfs] at hs; cases hs
        ·rename_i n0 e0 hfs; rw [hfs] at hs; cases hs
        ·exact r4.elim
      refine ⟨q, by rw [hqc]; simp [h1e], by rw [hqc]; exact hvr, by rw [hqc]; exact r4, by simpa using hqc, by rw [hqc]; exact fun c hc => (r5 c hc).1⟩
    obtain ⟨l, hll, hlp⟩ := listEx len each
    have hcl : ∀ z, z ∈ l → z.cells.length = P.cellsOf e := fun z hz => by
     obtain ⟨i, hi⟩ := List.getElem?_of_mem hz
     exact (hlp i z hi).1
    have hlb : len * P.bytesOf e ≤ reachBytes := Nat.le_trans (Nat.mul_le_mul_right _ (by omega)) hwt.1
    have hlm : len ≤ maxB := by
     have : len ≤ len * P.bytesOf e := Nat.le_mul_of_pos_right _ hby
     omega
    have hflat : ∀ (j : Nat) av, (l.flatMap AV.cells)[j]? = some av → ∃ v, w.cell? (a.add j) = some v ∧ VR (Gh.all w) av v := by
     intro j av hj
     obtain ⟨z, hz, hzc⟩ := flat_div hcl hsz j av hj
     obtain ⟨v, h1, h2⟩ := (hlp _ z hz).2.1 _ av hzc
     rw [show j / P.cellsOf e * P.cellsOf e + j % P.cellsOf e = j by rw [Nat.mul_comm]; exact Nat.div_add_mod j _] at h1
     exact ⟨v, h1, h2⟩
    refine ⟨[.sl none l], rfl, by simpa using hc1.symm, fun j av v h1 h2 => ?_, ?_, by simp [noRef, ltR, Meek]⟩
    ·cases j with
     | succ j => simp at h1
     | zero =>
      simp at h1 h2; subst h1 h2
      have hspot : l ≠ [] → a = ⟨a.block, a.off, none⟩ := by
       intro hne
       have : (l.flatMap AV.cells).length = l.length * P.cellsOf e := flat_len hcl
       have hpos : 0 < (l.flatMap AV.cells).length := by
        rw [this]; exact Nat.mul_pos (List.length_pos_iff.2 hne) hsz
       obtain ⟨v, h1, _⟩ := hflat 0 _ (List.getElem?_eq_getElem hpos)
       have := spot_none (w := w) (a := a) (by simpa [Addr.add] using h1)
       cases a; simp_all
      by_cases hne : l = []
      ·subst hne
       exact .sl hll hl hlm 0 0 (P.cellsOf e) (fun _ => undef) (fun h => absurd rfl h) (by simp) hsz (by simp) (by simp) (by simp) (by simp)
      ·have ea := hspot hne
       refine .sl hll hl hlm a.block a.off (P.cellsOf e) (fun j => (w.cell? ⟨a.block, a.off + j, none⟩).getD undef) (fun _ => congrArg some ea) hcl hsz (fun z hz c hc => ?_) (fun j av hj => ?_) (fun j av hj => ?_) (by simp)
       ·obtain ⟨i, hi⟩ := List.getElem?_of_mem hz
        exact (hlp i z hi).2.2.2.2 c hc
       ·obtain ⟨v, h1, _⟩ := hflat j av hj
        rw [ea, addr_add] at h1
        rw [all_imm, h1]; rfl
       ·obtain ⟨v, h1, h2⟩ := hflat j av hj
        rw [ea, addr_add] at h1
        rw [h1]; exact h2
    ·unfold TyD; rw [hu]
     refine ⟨l, rfl, by rw [hll]; exact hlb, fun z hz => ?_⟩
     obtain ⟨i, hi⟩ := List.getElem?_of_mem hz
     exact ⟨(hlp i z hi).2.2.1, (hlp i z hi).2.2.2.1⟩
  ·rename_i fs hu
   simp only [Bool.and_eq_true, beq_iff_eq, List.all_eq_true] at hp
   obtain ⟨⟨htl, htot⟩, hpf⟩ := hp
   obtain ⟨xs, n, _, rfl, hcl, hxl, hxs⟩ := DataW.trod_struct hu h
   have hww : ∀ (i : Nat) f y, fs[i]? = some f → xs[i]? = some y → (y.1.weights P f.type).all (· ≤ reachBytes) = true := by
    simp only [DataW.weights, hu] at hw
    have hall : ∀ (ts : List TypeId) (l : List (DataW H)), (DataW.weightsEach P ts l).all (· ≤ reachBytes) = true → ∀ (i : Nat) t y, ts[i]? = some t → l[i]? = some y → (y.weights P t).all (· ≤ reachBytes) = true := by
     intro ts
     induction ts with
     | nil => intro l _ i t y h1; simp at h1
     | cons t0 ts ih =>
      intro l hz i t y h1 h2
      cases l with
      | nil => simp at h2
      | cons y0 l =>
       simp only [DataW.weightsEach, List.all_append, Bool.and_eq_true] at hz
       cases i with
       | zero => simp at h1 h2; subst h1 h2; exact hz.1
       | succ i => exact ih l hz.2 i t y (by simpa using h1) (by simpa using h2)
    intro i f y h1 h2
    exact hall _ _ hw i f.type y.1 (by simp [h1]) (by simp [h2])
   have each : ∀ i, i < fs.size → ∃ q : List AV, ∀ f, fs[i]? = some f → q.length = P.cellsOf f.type ∧ (∀ (j : Nat) av v, q[j]? = some av → ((cs.drop f.offset).take (P.cellsOf f.type))[j]? = some v → VR (Gh.all w) av v) ∧ TyD P d f.type q ∧ ∀ av, av ∈ q → noRef av = true ∧ Meek av := by
    intro i hi
    have hf : fs[i]? = some fs[i] := Array.getElem?_eq_getElem hi
    have h1 := hxs i _ hf
    have hix : i < xs.length := by omega
    rw [List.getElem?_eq_getElem hix] at h1
    obtain ⟨avs, r1, r2, r3, r4, r5⟩ := trod_vr d n _ _ _ (hpf _ (by simp)) h1 (hww i _ _ hf (List.getElem?_eq_getElem hix))
    refine ⟨avs, fun f hf' => ?_⟩
    rw [hf] at hf'; cases hf'
    exact ⟨by omega, r3, r4, r5⟩
   obtain ⟨qs, hql, hqp⟩ := listEx fs.size each
   obtain ⟨t1, t2, t3⟩ := tile (sz := fun f => P.cellsOf f.type) fs.toList 0 qs htl (by simp [hql]) (fun i f q h1 h2 => (hqp i q h2 f (by simpa using h1)).1)
   have hlen : qs.flatten.length = cs.length := by rw [t1, htot, hcl]
   refine ⟨qs.flatten, hlen, hcl, fun j av v h1 h2 => ?_, ?_, fun av hav => ?_⟩
   ·have hj : j < totB (fun f => P.cellsOf f.type) fs.toList := by rw [← t1]; exact (List.getElem?_eq_some_iff.1 h1).1
    obtain ⟨i, f, k, r1, r2, r3⟩ := t3 j hj
    have hi : i < qs.length := by
     have := (List.getElem?_eq_some_iff.1 r1).1
     simp at this; omega
    obtain ⟨_, s2, s3⟩ := t2 i f qs[i] r1 (List.getElem?_eq_getElem hi)
    obtain ⟨u1, u2, _, _⟩ := hqp i _ (List.getElem?_eq_getElem hi) f (by simpa using r1)
    refine u2 k av v ?_ ?_
    ·rw [← s3, List.getElem?_take_of_lt r2, List.getElem?_drop, Nat.sub_zero, show f.offset + k = j by omega]; exact h1
    ·rw [List.getElem?_take_of_lt r2, List.getElem?_drop, show f.offset + k = j by omega]; exact h2
   ·unfold TyD; rw [hu]
    refine ⟨by rw [hlen, hcl], fun f hf => ?_⟩
    obtain ⟨i, hi⟩ := List.getElem?_of_mem hf
    have hil : i < qs.length := by
     have := (List.getElem?_eq_some_iff.1 hi).1
     simp at this; omega
    obtain ⟨_, _, s3⟩ := t2 i f qs[i] hi (List.getElem?_eq_getElem hil)
    rw [Nat.sub_zero] at s3
    rw [s3]
    exact (hqp i _ (List.getElem?_eq_getElem hil) f (by simpa using hi)).2.2.1
   ·obtain ⟨q, hq, hqa⟩ := List.mem_flatten.1 hav
    obtain ⟨i, hi⟩ := List.getElem?_of_mem hq
    have hil : i < fs.size := by
     have := (List.getElem?_eq_some_iff.1 hi).1
     omega
    exact (hqp i q hi fs[i] (Array.getElem?_eq_getElem hil)).2.2.2 av hqa
  ·rename_i n0 e hu
   simp only [Bool.and_eq_true, beq_iff_eq] at hp
   obtain ⟨⟨hk, hce⟩, hcn⟩ := hp
   obtain ⟨xs, m, rfl, rfl, hcl, hxl, hxs⟩ := DataW.trod_array hu h
   split at hk
   ·rename_i k hke
    have each : ∀ (j : Nat) v, cs[j]? = some v → ∃ z, v = .int k z ∧ k.min ≤ z ∧ z ≤ k.max := fun j v hj => by
     have hjl := (List.getElem?_eq_some_iff.1 hj).1
     have h1 := hxs j (by omega)
     rw [hce, Nat.mul_one] at h1
     have h2 : (cs.drop j).take 1 = [v] := by rw [List.drop_eq_getElem_cons hjl]; have := (List.getElem?_eq_some_iff.1 hj).2; simp [this]
     rw [h2, List.getElem?_eq_getElem (by omega)] at h1
     obtain ⟨z, e1, _, hwf⟩ := DataW.trod_int hke h1
     simp only [Lit.wf, Bool.and_eq_true, decide_eq_true_eq] at hwf
     exact ⟨z, by simpa using e1, hwf.1, hwf.2⟩
    refine ⟨cs.map ofValC, by simp, hcl, fun j av v h1 h2 => ?_, ?_, fun av hav => ?_⟩
    ·obtain ⟨z, rfl, z1, z2⟩ := each j v h2
     rw [List.getElem?_map, h2] at h1
     simp [ofValC] at h1; subst h1; exact .int z1 z2
    ·unfold TyD; rw [hu]
     refine ⟨by rw [List.length_map]; omega, fun c hc => ?_⟩
     obtain ⟨v, hv, rfl⟩ := List.mem_map.1 hc
     obtain ⟨j, hj⟩ := List.getElem?_of_mem hv
     obtain ⟨z, rfl, z1, z2⟩ := each j v hj
     exact ⟨k, z, hke, rfl, z1, z2⟩
    ·obtain ⟨v, hv, rfl⟩ := List.mem_map.1 hav
     obtain ⟨j, hj⟩ := List.getElem?_of_mem hv
     obtain ⟨z, rfl, z1, z2⟩ := each j v hj
     exact ⟨rfl, by intro oe l; simp [ofValC]⟩
   ·cases hk
  ·cases hp
end
end Go.Av

