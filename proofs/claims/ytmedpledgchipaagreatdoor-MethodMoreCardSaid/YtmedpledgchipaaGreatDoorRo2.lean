import Derived.Test.YtmedpledgchipaaGreatDoorRo1
import Derived.ChangeSame
import Derived.ChangeVars
import Derived.RowKit
import Derived.RowKitTokens
import Derived.LaidLaws
import Derived.LaidHandle
import Derived.WideKeyArgs
import Derived.OpenShut
set_option linter.unusedSectionVars false
set_option linter.unusedVariables false
set_option linter.unusedSimpArgs false
set_option linter.unnecessarySimpa false
namespace Go.Av
open Go Go.RowKit Go.WideShapes Go.ChangeShapes
def TyV (P : Program) (d : Nat) (t : TypeId) (a : AV) : Prop := TyD P d t a.cells ∧ (bif isStr P t then ∃ c, a = .agg c else a.cells = [a])
def TyAll (P : Program) (d : Nat) : List TypeId → List AV → Prop
 | [], [] => True
 | t :: ts, a :: as => TyV P d t a ∧ TyAll P d ts as
 | _, _ => False
section
variable {H : Type} {enc : TypeId × Value → H} {P : Program} {w : World} {spare : Nat → Bool} {held : Bool}
theorem trodAll_vr {d b0 : Nat} : ∀ (ts : List TypeId) (vs : List Value) (ds : List (DataW H)) (ps : List MemPlace), (∀ t, t ∈ ts → plainT P d t = true) → (∀ (j : Nat) t v, ts[j]? = some t → vs[j]? = some v → Value.okWide P w .any b0 t v) →
    DataW.TrodAll enc P w 0 spare held ts vs ds ps → (DataW.weightsEach P ts ds).all (· ≤ reachBytes) = true →
    ∃ as : List AV, as.length = vs.length ∧ (∀ (j : Nat) a v, as[j]? = some a → vs[j]? = some v → VR (Gh.all w) a v ∧ Meek a) ∧ TyAll P d ts as ∧ ds.length = ts.length
  | [], [], [], ps, _, _, _, _ => ⟨[], rfl, by simp, trivial, rfl⟩
  | [], [], _ :: _, ps, _, _, h, _ => h.elim
  | [], _ :: _, _, ps, _, _, h, _ => by cases ‹List (DataW H)› <;> exact h.elim
  | _ :: _, [], _, ps, _, _, h, _ => by cases ‹List (DataW H)› <;> exact h.elim
  | _ :: _, _ :: _, [], ps, _, _, h, _ => h.elim
  | t :: ts, v :: vs, x :: ds, ps, hp, hok, h, hw => by
    obtain ⟨p, q, ⟨fuel, h1⟩, h2, rfl⟩ := h
    simp only [DataW.weightsEach, List.all_append, Bool.and_eq_true] at hw
    obtain ⟨avs, r1, r2, r3, r4, r5⟩ := trod_vr d fuel t _ (x, p) (hp t (by simp)) h1 hw.1
    obtain ⟨as, s1, s2, s3, s4⟩ := trodAll_vr ts vs ds q (fun t ht => hp t (by simp [ht])) (fun j t v h1 h2 => hok (j+1) t v (by simpa using h1) (by simpa using h2)) h2 hw.2
    have hok0 := hok 0 t v rfl rfl
    obtain ⟨a, ha1, ha2, ha3⟩ : ∃ a : AV, VR (Gh.all w) a v ∧ Meek a ∧ TyV P d t a := by
      have hp0 := hp t (by simp)
      cases hs : isStr P t with
      | true =>
        obtain ⟨cs, rfl⟩ : ∃ cs, v = .agg cs := by
          unfold isStr at hs
          split at hs
          · rename_i fs hfs
            obtain ⟨cs, e, _⟩ := okWide_struct hfs hok0
            exact ⟨cs, e⟩
          · rename_i n0 e0 hfs
            simp only [Value.okWide, hfs] at hok0
            obtain ⟨cs, e, _⟩ := hok0
            exact ⟨cs, e⟩
          · cases hs
        refine ⟨.agg avs, .agg (by simpa [Value.cells] using r1) (fun j av u e1 e2 => r3 j av u e1 (by simpa [Value.cells] using e2)), by intro l; simp, r4, ?_⟩
        rw [hs]; exact ⟨avs, rfl⟩
      | false =>
        have hv : v.cells = #[v] := by
          cases d with
          | zero => simp [plainT] at hp0
          | succ d =>
            unfold plainT at hp0
            split at hp0
            · rename_i hu; obtain ⟨b, rfl⟩ := okWide_bool hu hok0; rfl
            · rename_i hu; obtain ⟨b, rfl⟩ := okWide_int hu hok0; rfl
            · rename_i hu; obtain ⟨b, rfl⟩ := okWide_string hu hok0; rfl
            · rename_i hu; obtain ⟨b, c, e, rfl⟩ := okWide_slice hu hok0; rfl
            · rename_i fs hu; unfold isStr at hs; rw [hu] at hs; cases hs
            · rename_i n0 e0 hu; unfold isStr at hs; rw [hu] at hs; cases hs
            · cases hp0
        rw [hv] at r1 r3
        obtain ⟨a, rfl⟩ : ∃ a, avs = [a] := List.length_eq_one_iff.1 (by simpa using r1)
        have hac : a.cells = [a] := by
          unfold isStr at hs
          cases d with
          | zero => simp [plainT] at hp0
          | succ d =>
            unfold TyD at r4
            split at r4
            · obtain ⟨b, e1⟩ := r4; simp at e1; subst e1; rfl
            · obtain ⟨n, e1, _⟩ := r4; simp at e1; subst e1; rfl
            · obtain ⟨n, e1, _⟩ := r4; simp at e1; subst e1; rfl
            · obtain ⟨n, e1, _⟩ := r4; simp at e1; subst e1; rfl
            · rename_i fs hfs; rw [hfs] at hs; cases hs
            · rename_i n0 e0 hfs; rw [hfs] at hs; cases hs
            · exact r4.elim
        refine ⟨a, r3 0 a v rfl rfl, (r5 a (by simp)).2, by rw [hac]; exact r4, by rw [hs]; exact hac⟩
    refine ⟨a :: as, by simp [s1], fun j b u e1 e2 => ?_, ⟨ha3, s3⟩, by simp [s4]⟩
    cases j with
    | zero => simp at e1 e2; subst e1 e2; exact ⟨ha1, ha2⟩
    | succ j => exact s2 j b u (by simpa using e1) (by simpa using e2)
theorem trodAll_stays (hl : laidOutB P = true) {W W' : World} {sp : Nat → Bool} : ∀ (ts : List TypeId) (vs : List Value) (ds : List (DataW H)) (ps : List MemPlace), (∀ t, t ∈ ts → P.readableRec t = true ∧ t < P.types.size) →
    DataW.TrodAll enc P W 0 (fun _ => true) true ts vs ds ps → (∀ p, p ∈ ps → W.sameAt W' p) → (∀ p, p ∈ ps → sp p.block = true) → DataW.TrodAll enc P W' 0 sp true ts vs ds ps
  | [], [], [], ps, _, h, _, _ => h
  | [], [], _ :: _, ps, _, h, _, _ => h.elim
  | [], _ :: _, _, ps, _, h, _, _ => by cases ‹List (DataW H)› <;> exact h.elim
  | _ :: _, [], _, ps, _, h, _, _ => by cases ‹List (DataW H)› <;> exact h.elim
  | _ :: _, _ :: _, [], ps, _, h, _, _ => h.elim
  | t :: ts, v :: vs, x :: ds, ps, hp, h, h3, h4 => by
    obtain ⟨p, q, h1, h2, rfl⟩ := h
    exact ⟨p, q, WideElems.Trod_stays hl (hp t (by simp)).1 (hp t (by simp)).2 h1 (fun x hx => h3 x (by simp [hx])) (fun x hx => h4 x (by simp [hx])),
      trodAll_stays hl ts vs ds q (fun t ht => hp t (by simp [ht])) h2 (fun x hx => h3 x (by simp [hx])) (fun x hx => h4 x (by simp [hx])), rfl⟩
theorem post_of_below {f : Func} {s : ChangeSpec} {apart fresh handsOn again : Bool} {W W' : World} {args : Array Value} {v : Value} {ds gs : List (DataW H)} {before pa pv : List MemPlace}
  (hW : DataW.Whole enc P f.params.toList s.vars apart W args.toList ds gs before)
  (hres : ∀ (b : Nat) (sp : Nat → Bool) (hd : Bool), DataW.TrodAll enc P W' b sp hd f.resultTypes.toList (v.resultList f.resultTypes.size) (s.fn H (ds ++ gs)).results [])
  (hargs : ∀ sp : Nat → Bool, (∀ p ∈ before, sp p.block = true) → DataW.TrodAll enc P W' 0 sp true f.params.toList args.toList (s.fn H (ds ++ gs)).args pa)
  (hvars : ∀ sp : Nat → Bool, (∀ p ∈ before, sp p.block = true) → DataW.TrodVars enc P W' sp s.vars (s.fn H (ds ++ gs)).vars pv)
  (hps : before = pa ++ pv) (hb : Below W.heap.size W W')
  (hok : ∀ (j : Nat) (t : TypeId) (r : Value), f.resultTypes[j]? = some t → (v.resultList f.resultTypes.size)[j]? = some r → Value.okWide P W' .any 0 t r) :
  s.post enc P f apart fresh handsOn again W args v W' := by
 have hlt : ∀ p ∈ before, p.block < W.heap.size := fun p hp => hW.lt p hp
 have hold : ∀ p ∈ before, (fun b => decide (b < W.heap.size)) p.block = true := fun p hp => by simpa using hlt p hp
 refine ⟨ds, gs, before, [], pa, pv, hW, hres _ _ _, hargs _ hold, hvars _ hold, World.keptBut_mono (fun p hp => ⟨hp, ?_⟩) (hb.frame (· ∈ before)), fun _ => ?_⟩
 ·rw [hps, List.mem_append] at hp
  exact Or.inr hp
 ·obtain ⟨_, _, _, _, _, hz, hn⟩ := hW
  refine ⟨hok, _, _, ([] ++ pa) ++ pv, ⟨[] ++ pa, pv, trodAll_append (hargs _ (fun _ _ => rfl)) (hres _ _ _), hvars _ (fun _ _ => rfl), rfl, ?_, ?_⟩, ?_⟩
  ·intro b off hp
   have hin : MemPlace.cell b off ∈ before := by rw [hps]; simpa using hp
   rw [hb.frozen (hlt _ hin)]
   exact hz b off hin
  ·intro ha
   have := hn ha
   rw [hps] at this
   simpa using this
  ·intro p hp _
   rw [hps]
   simpa using hp
theorem law_contract [Lay] {f : FuncId} {fn : Func} {s : ChangeSpec} {d : Nat} {bt : TypeId} {apart fresh handsOn again : Bool}
  (hf : P.funcs[f]? = some fn) (hen : Enters P f) (hrt : fn.resultTypes = #[bt]) (hbt : P.underlying bt = some .bool) (hlay : laidOutB P = true)
  (hpl : (fn.params.toList.all fun t => plainT P d t && P.readableRec t && decide (t < P.types.size)) = true)
  (hs : ∀ ds : List (DataW H), ds.length = fn.params.toList.length → s.fn H (ds ++ []) = { results := [.lit (.bool true)], args := ds }) (hvars : s.vars = [])
  (hmain : ∀ avs : List AV, TyAll P d fn.params.toList avs → ACall P f avs [] (.bool true) [])
  {W : World} {args : Array Value} {ds gs : List (DataW H)} {before : List MemPlace} (hLay : ∀ b o v, Lay.L b o v → W.cell? ⟨b, o, none⟩ = some v) (hS : ∀ b n, Lay.S b n → SizeOk W b n := by intro _ _ h; exact h.elim) (hO : ∀ b o, ¬ Lay.O b o := by intro _ _ h; exact h)
  {base : Nat} (hval0 : ∀ (j : Nat) t v, fn.params[j]? = some t → args[j]? = some v → Value.okWide P W .any base t v)
  (hW : DataW.Whole enc P fn.params.toList s.vars apart W args.toList ds gs before)
  (hwt : (DataW.weightsEach P (fn.params.toList ++ s.plain.varTypes P) (ds ++ gs)).all (· ≤ reachBytes) = true) :
  Calls P f args W fun e W' => ∃ v, e = .returned v ∧ s.post enc P fn apart fresh handsOn again W args v W' := by
 have hW0 := hW
 obtain ⟨p, q, hA, hV, rfl, hfz, hnd⟩ := hW
 rw [hvars] at hV
 obtain ⟨rfl, rfl⟩ : gs = [] ∧ q = [] := by
  cases gs with
  | nil => exact ⟨rfl, hV⟩
  | cons g r => exact absurd hV (by intro h; cases h)
 have hvt : s.plain.varTypes P = [] := by simp [ChangeSpec.plain, hvars, DataSpec.varTypes]
 rw [hvt, List.append_nil, List.append_nil] at hwt
 have hpl' : ∀ t, t ∈ fn.params.toList → plainT P d t = true ∧ P.readableRec t = true ∧ t < P.types.size := fun t ht => by
  have := List.all_eq_true.1 hpl t ht
  simp only [Bool.and_eq_true, decide_eq_true_eq] at this
  exact ⟨this.1.1, this.1.2, this.2⟩
 obtain ⟨as, s1, s2, s3, s4⟩ := trodAll_vr (d := d) fn.params.toList args.toList ds p (fun t ht => (hpl' t ht).1) (fun j t v h1 h2 => hval0 j t v (by simpa using h1) (by simpa using h2)) hA hwt
 have hAC := hmain as s3
 have hvr : ∀ t, VR (Gh.all W) (lget as t) (args.getD t undef) ∧ Meek (lget as t) := fun t => by
  rcases Nat.lt_or_ge t as.length with h | h
  ·have ht : t < args.size := by simpa [s1] using h
   have := s2 t (lget as t) args[t] (lget_some h) (by simp [ht])
   rw [Array.getD_eq_getD_getElem?, Array.getElem?_eq_getElem ht]
   exact this
  ·rw [lget_ge h]; exact ⟨.any _, by intro l; simp⟩
 have hrel : Rel (Gh.all W) as [] args W := Rel.start (by simp [s1]) (fun t => (hvr t).1) (fun t => (hvr t).2)
 have hlayok : LayOk (Gh.all W) W := ⟨fun b o v h => all_imm.2 (hLay b o v h), hS, fun b o h => (hO b o h).elim⟩
 have hans := hAC.2.2.2 (Gh.all W) W args hlayok hrel (by simp [s1])
 have hcalls : Calls P f args W fun e W' => e = .returned (.bool true) ∧ Below W.heap.size W W' := by
  rcases hans with ⟨_, h⟩ | ⟨v, w', h, _⟩
  ·refine h.mono ?_
   rintro e W' ⟨v, g', rfl, hr, hst⟩
   have hv := (hr.slots 0).1
   refine ⟨?_, below_all hst⟩
   have := bool_inv hv
   simp at this; rw [this]
  ·rw [hen] at h; cases h
 refine hcalls.mono ?_
 rintro e W' ⟨rfl, hb⟩
 refine ⟨_, rfl, ?_⟩
 have es := hs ds s4
 have hlt : ∀ x ∈ p, x.block < W.heap.size := fun x hx => hW0.lt x (by simp [hx])
 refine post_of_below (pa := p) (pv := []) hW0 (fun b sp hd => ?_) (fun sp hsp => ?_) (fun sp _ => ?_) rfl hb ?_
 ·rw [es, hrt]
  exact trodAll_mk1 (shut_bool hbt true)
 ·rw [es]
  exact trodAll_stays hlay _ _ _ _ (fun t ht => (hpl' t ht).2) hA (fun x hx => hb.same (hlt x hx)) (fun x hx => hsp x (by simp [hx]))
 ·rw [es, hvars]; rfl
 ·exact ok_one hrt rfl (okWide_bool_mk hbt true)
end
end Go.Av

