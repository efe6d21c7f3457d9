import Derived.Test.YtmedpledgchipaaGreatDoorEx7
set_option linter.unusedSectionVars false
set_option linter.unusedVariables false
set_option linter.unusedSimpArgs false
set_option linter.unnecessarySimpa false
namespace Go.Av
open Go
theorem Stp.mono_n {g g' : Gh} {w w' : World} {m n : Nat} (h : m ≤ n) (hs : Stp n g w g' w') : Stp m g w g' w' := ⟨hs.imm, hs.perm, fun id l hid hl => hs.loc id l (by omega) hl, hs.upd, hs.fzm, hs.fzn⟩
section
variable [Lay] {P : Program} {nb : Nat} {R : Rt} {k1 k2 k : List Item} {tm : List AV} {hp hp' : Heap} {N : Nat} {l : List (Nat × AV)}
theorem rgMJ {id : Nat} {ops : List Oper} (N n p d y : Nat) (rt : List (Nat × Nat)) (hd : drawMOk P rt (List.toArray ops) p y (mvAt d p (List.range ops.length)) = true) (hrt : rtOk rt ops = true) (i1 : invB rt tm hp = true)
  (J : FP → Prop) (h2 : J fun l hp => W P nb R (k1 ++ k2) (fr N l) hp)
  (h1 : (J fun l hp => W P nb R (k1 ++ k2) (fr N l) hp) → hold P nb R (ex P n (some (true, ops, ops)) [] (k1 ++ k2) tm hp))
  (h3 : (J fun l hp => W P nb R (k1 ++ k2) (fr N l) hp) → hold P nb R (ex P n (some (true, ops, mvAt d p ops)) [] (k1 ++ k2) tm hp)) : hold P nb R (.rg id (List.toArray ops) true k1 k2 tm hp) :=
 rgM n p d y rt hd hrt i1 (h1 h2) (h3 h2)
theorem callR_ {α : Type} (n id : Nat) (enc : α → AV) (he : ∀ x, plainA (enc x)) {v v' : List α} {f : FuncId} {args : List AV} {d : Bool} {all rest : List Oper} {dst : Option Nat} {nn : Nat} {ag full : Bool} {r r' : AV} {hp2 : Heap} (hd : d = false ∨ memD P all dst = true)
  (hA : ACall P f [.rs 0 0 nn 1 ag full] [some (v.map enc)] r [some (v'.map enc)]) (ha : args = [.rs id 0 nn 1 ag full]) (hcs : hp[id]? = some (some (v.map enc))) (hr : ren (nth [id]) r = r') (hh : hsetO hp id (some (v'.map enc)) = hp2)
  (h : hold P nb R (ex P n (some (d, all, rest)) k1 k2 (put tm dst r') hp2)) : hold P nb R (.call f args d all rest dst k1 k2 tm hp) := by
 subst ha; subst hh; subst hr
 have hg : hget hp id = v.map enc := hget_of hcs
 have e1 : renL (idx [id]) ([AV.rs id 0 nn 1 ag full].map fix) = [.rs 0 0 nn 1 ag full] := by simp [renL, ren, idx, fix]
 have e2 : focus [id] hp = [some (v.map enc)] := by simp only [focus, List.map_cons, List.map_nil, hg, renL_map he]
 have e3 : fcOk [id] hp ([AV.rs id 0 nn 1 ag full].map fix) = true := by
  have : isB hp id = true := isB_of hcs
  simp [fcOk, ndB, hasB, this, hg, allRL_map he, allRL, allR, fix]
 have e4 : wb (nth [id]) [id] [some (v'.map enc)] hp = hsetO hp id (some (v'.map enc)) := by simp only [wb, renL_map he]
 rcases hd with hd | hd
 ·subst hd
  exact callH_ n [id] hA e1 e2 e3 (by rw [e4]; exact h)
 ·exact callM_ n id hd hA (by simp [fix, refHd, refOf]) e1 e2 e3 (by rw [e4]; exact h)
theorem callB_ {f : FuncId} {args args' : List AV} {all rest : List Oper} {dst : Option Nat} (n m : Nat) {r r' : AV} {cs : List AV} {hp2 : Heap} (hA : ACallB P f args' r cs) (ha : args = args') (hl : ltRL 0 args' = true) (hm : hp.length = m) (hr : ren (fun _ => m) r = r') (hh : hp ++ [some (renL (fun _ => m) cs)] = hp2)
  (h : hold P nb R (ex P n (some (false, all, rest)) k1 k2 (put tm dst r') hp2)) : hold P nb R (.call f args false all rest dst k1 k2 tm hp) := by
 subst hm; subst hr; subst hh
 exact .inr (.inr (.inr (.inr ⟨rfl, r, cs, by rw [ha]; exact hl, by rw [ha]; exact hA, ex_sound n (some (false, all, rest)) k1 k2 _ _ h⟩)))
theorem W.frzS {α : Type} (enc : α → AV) (he : ∀ x, plainA (enc x)) {t id : Nat} {ag full : Bool} {v : List α} {nn : Nat} {cs : List AV} (hnn : v.length = nn) (hv : lget tm t = .rs id 0 nn 1 ag full) (hcs : hp[id]? = some (some cs)) (ht : cs.take v.length = v.map enc) (hot : hotB id 0 hp = true) (hnb : Nat.ble nb id = true)
  (h : W P nb R k (put (killI id tm) (some t) (.sl none (v.map enc))) (hsetO hp id none)) : W P nb R k tm hp := by
 subst hnn
 intro hk g a w b fs hL hr hn
 obtain ⟨ad, b0, base, c, cap, hloc, hve, hade, h0, hcap, hf, hroomc, hlm⟩ := rs_inv (by have := (hr.slots t).1; rw [hv] at this; exact this)
 simp only [Nat.add_zero, Nat.zero_add, Nat.mul_one] at hade hroomc
 have hidlt : id < hp.length := (List.getElem?_eq_some_iff.1 hcs).1
 have hs := hr.shrink hcs v.length
 rw [ht] at hs
 have hc2 : (hset hp id (v.map enc))[id]? = some (some (v.map enc)) := by rw [hset_eq, List.getElem?_set_self hidlt]
 have hplain : ∀ x, x ∈ v.map enc → noRef x = true ∧ x.cells = [x] := fun x hx => ⟨(plain_map he v x hx).1, (plain_map he v x hx).2.1⟩
 obtain ⟨f1, f2, f3⟩ := Rel.frzK (hs.kill id) hc2 hloc (fun t => by rw [lget_killI]; exact killA_all) (fun i cs' hne hc x hx => by
  rw [hset_eq, List.getElem?_set_ne (Ne.symm hne)] at hc
  exact hotB_spec hot i cs' (by omega) hc x hx) hplain
 have e : hsetO (hset hp id (v.map enc)) id none = hsetO hp id none := by simp [hsetO_eq, hset_eq]
 rw [e] at f1
 have hvr : VR (g.frzK w id b0 base (v.map enc).length) (.sl none (v.map enc)) (a.getD t undef) := by
  rw [hve]
  by_cases hz : v = []
  ·subst hz
   exact .sl rfl (by simp) (by simp) 0 0 1 (fun _ => undef) (fun e => absurd rfl e) (by simp) (by omega) (by simp) (fun j av hj => by simp at hj) (fun j av hj => by simp at hj) (by simp)
  ·have hpos : 0 < v.length := List.length_pos_iff.2 hz
   rw [hade (by omega)]
   have := f3 cap none (by simpa using hcap) (by simpa using hlm) (by simp)
   simpa using this
 have hrel : Rel (g.frzK w id b0 base (v.map enc).length) (put (killI id tm) (some t) (.sl none (v.map enc))) (hsetO hp id none) a w := by
  refine ⟨by simp only [put, lset_len]; exact f1.size, fun t' => ?_, f1.heap, f1.locs, f1.imms, f1.owns, f1.fzs⟩
  by_cases e : t = t'
  ·subst e
   simp only [put]
   rw [lget_lset_eq]
   split
   ·exact ⟨hvr, Tail.meek (by intro l; simp)⟩
   ·exact ⟨.any _, trivial⟩
  ·simp only [put]
   rw [lget_lset_ne e]; exact f1.slots t'
 have hst := f2 nb
 obtain ⟨a', w', g', tm', hp', todo, q1, q2, q3, q4⟩ := h hk (g.frzK w id b0 base (v.map enc).length) a w b fs (hL.stp hst) hrel (by rw [hsetO_eq]; simpa using hn)
 exact ⟨a', w', g', tm', hp', todo, q1, q2, hst.x.trans q3, q4⟩
end
section
variable {ρ : Type} {r : ρ} {G : Prop}
theorem iteE {c : Prop} [Decidable c] {x y : Option ρ} (h : (if c then x else y) = some r) (g1 : c → x = some r → G) (g2 : ¬ c → y = some r → G) : G := by
 by_cases hc : c
 ·rw [if_pos hc] at h; exact g1 hc h
 ·rw [if_neg hc] at h; exact g2 hc h
theorem bAtL_s [Lay] {α : Type} (m : Nat) (enc : α → AV) (k : IntKind) (e : El) (h1 : e.sz = 1) (id : Nat) (ag full : Bool) {xs : List α} {n : Nat} (hn : xs.length = n) {A : α → Option ρ} (h : (lAt xs (m : Int)).bind A = some r)
  (g : ∀ x, lAt xs (m : Int) = some x → iadC e (.rs id 0 n 1 ag full) (.int k (m : Int)) → iadV (.rs id 0 n 1 ag full) (.int k (m : Int)) = .ptr id m → lget (xs.map enc) m = enc x → decide (m < xs.length) = true → decide (m + 1 ≤ xs.length) = true →
   (∀ z, lput (xs.map enc) m [enc z] = (xs.set m z).map enc) → A x = some r → G) : G := by
 refine bAt_s enc k e h1 id ag full hn h fun x a1 a2 a3 a4 a5 a6 a7 h => g x a1 a2 (a3.trans ?_) ?_ ?_ ?_ (fun z => ?_) h
 ·simp
 ·simpa using a4
 ·simpa using a5
 ·simpa using a6
 ·simpa using a7 z
theorem stBL_s {α : Type} (m : Nat) {v : List α} {y : α} {A : List α → Option ρ} (h : (stAt v (m : Int) y).bind A = some r)
  (g : ∀ v', v.set m y = v' → v.length = v'.length → A v' = some r → G) : G := g _ rfl (by simp) h
end
section
variable [Lay] {P : Program} {f : FuncId} {fn : Func} {args : List AV}
theorem acallXB {r : AV} {bs : List AV} (n : Nat) (hf : P.funcs[f]? = some fn) (hok : fOk P f args.length = true) (hlt : ltR 1 r = true) (hlc : ltRL 1 bs = true) (hm : Meek r)
    (h : hold P 0 (ResH P fn.results r 1 [some bs]) (ex P n none [.code (fn.body.getD .skip)] [] (fr fn.ntmps (nums 0 args)) [])) : ACallB P f args r bs := by
  have he := enters_of hf hok
  have hW := runX n h
  rw [fr_nums (fOk_le hf hok)] at hW
  unfold fOk at hok
  rw [hf] at hok
  dsimp only at hok
  cases hb : fn.body with
  | none => simp [hb] at hok
  | some c =>
    simp only [hb, Bool.and_eq_true, Nat.ble_eq] at hok
    have hn : args.length ≤ fn.ntmps := hok.2
    have hW0 := hW (by simp [okK, okItem, hb, hok.1.1])
    rw [hb, pad_eq _ _ hn] at hW0
    refine ⟨hlt, hlc, hm, fun g w vs hL hr hvs => .inl ⟨he vs w, ?_⟩⟩
    intro cs
    let b : Frame := { (default : Frame) with fn := f, kind := .normal }
    have henter : Frame.enter P f vs .normal = b.at { tmps := vs ++ Array.replicate (fn.ntmps - vs.size) undef, defers := [] } [.code c] := by
      simp [Frame.enter, Frame.at, hf, hb, b]
    have hlget : ∀ t, lget (args ++ List.replicate (fn.ntmps - args.length) .any) t = lget args t := fun t => by
      rw [lget_eq, lget_eq]
      simp only [List.getD_eq_getElem?_getD]
      rcases Nat.lt_or_ge t args.length with h' | h'
      · rw [List.getElem?_append_left h']
      · rw [List.getElem?_append_right h', List.getElem?_eq_none h', List.getElem?_replicate]
        split <;> rfl
    have hget : ∀ t, (vs ++ Array.replicate (fn.ntmps - vs.size) undef).getD t undef = vs.getD t undef := fun t => by
      simp only [Array.getD_eq_getD_getElem?]
      rcases Nat.lt_or_ge t vs.size with h' | h'
      · rw [Array.getElem?_append_left h']
      · rw [Array.getElem?_append_right h', Array.getElem?_eq_none h', Array.getElem?_replicate]
        split <;> rfl
    have hr0 : Rel g (args ++ List.replicate (fn.ntmps - args.length) .any) [] (vs ++ Array.replicate (fn.ntmps - vs.size) undef) w :=
      ⟨by simp; omega, fun t => by rw [hlget, hget]; exact hr.slots t, hr.heap, hr.locs, hr.imms, hr.owns, hr.fzs⟩
    obtain ⟨a', w', g', tm', h', todo, q1, q2, q3, q4, q5, q6⟩ := hW0 g _ w b cs hL hr0 (Nat.zero_le _)
    obtain ⟨v, hrun, hv, _⟩ := results_sound (P := P) q2 q5
    change Steps P (lone (b.at { tmps := vs ++ Array.replicate (fn.ntmps - vs.size) undef, defers := [] } [.code c]) cs w) _ at q1
    rw [← henter] at q1
    refine ⟨.returned v, w', _, ⟨v, g'.trunc 1 false, rfl, ?_, q3.strict.trans (Stp.mono_n (n := 1) (Nat.zero_le _) Stp.trunc)⟩, q1, rfl, rfl, rfl, rfl, fn, hf, hrun⟩
    rw [← q6]
    refine q2.drop 1 false (tm2 := [r]) (a2 := #[v]) (by simp) (fun id cs hid hcs => ?_) (fun t => ?_)
    · have : (h'.take 1)[id]? = some (some cs) := by rw [List.getElem?_take_of_lt hid]; exact hcs
      rw [q6] at this
      obtain rfl : id = 0 := by omega
      simp at this
      subst this; exact hlc
    · cases t with
      | zero => exact ⟨hv, hlt, .inl hm⟩
      | succ t => exact ⟨.any _, rfl, .inl (by intro l; simp [lget])⟩
end
end Go.Av

