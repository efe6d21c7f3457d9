import Derived.Test.YtiboeelbmgnbgaaGreatDoorBu
import Derived.Test.YtiboeelbmgnbgaaGreatDoorEx6
set_option linter.unusedSectionVars false
set_option linter.unusedVariables false
set_option linter.unusedSimpArgs false
set_option linter.unnecessarySimpa false
namespace Go.Av
open Go
def ResO (i : Nat) (r : AV) : Rt := ⟨fun tm _ => lget tm i = r, fun _ => False⟩
theorem resT_run {P : Program} {fn : Func} {i : Nat} (hres : fn.results = #[.tmp i]) (a : Array Value) (w : World) : (results fn a).run P w = .ok (a.getD i undef) w := by
 unfold results
 rw [hres]
 simp only [Sem.run_bind]
 have : (#[ResultVar.tmp i].mapM (fun r => ((match r with | .tmp t => pure (a.getD t undef) | .cell x t => do loadVar t (← asAddr (a.getD x undef))) : Sem Value))).run P w = .ok #[a.getD i undef] w := by
  have h := zGS (P := P) (fun r => ((match r with | .tmp t => pure (a.getD t undef) | .cell x t => do loadVar t (← asAddr (a.getD x undef))) : Sem Value)) (fun _ => a.getD i undef) w [ResultVar.tmp i] (fun r hr => by
   obtain rfl := List.mem_singleton.1 hr
   rfl)
  rw [List.mapM_toArray]
  simp only [Sem.run_map, h, Result.andThen_ok]
  rfl
 exact (congrArg (fun r => Result.andThen r _) this).trans rfl
section
variable [Lay] {P : Program} {f : FuncId} {fn : Func} {args : List AV}
theorem acallXO {i : Nat} {oe : Option ETy} {l : List AV} (n : Nat) (hf : P.funcs[f]? = some fn) (hok : fOk P f args.length = true) (hres : fn.results = #[.tmp i])
    (h : hold P 0 (ResO i (.sl (some oe) l)) (ex P n none [.code (fn.body.getD .skip)] [] (fr fn.ntmps (nums 0 args)) [])) : zGG P f args (.sl (some oe) l) := by
  have he := enters_of hf hok
  have hW := runX n h
  rw [zMf (zPF hf hok)] at hW
  unfold fOk at hok
  rw [hf] at hok
  dsimp only at hok
  cases hb : fn.body with
  | none => simp [hb] at hok
  | some c =>
    simp only [hb, Bool.and_eq_true, Nat.ble_eq] at hok
    have hn : args.length ≤ fn.ntmps := hok.2
    have hW0 := hW (by simp [okK, zEN, hb, hok.1.1])
    rw [hb, zHR _ _ hn] at hW0
    refine ⟨rfl, fun g w vs hL hr hvs => .inl ⟨he vs w, ?_⟩⟩
    intro cs
    let b : Frame := { (default : Frame) with fn := f, kind := .normal }
    have henter : Frame.enter P f vs .normal = b.at { tmps := vs ++ Array.replicate (fn.ntmps - vs.size) undef, defers := [] } [.code c] := by
      simp [Frame.enter, Frame.at, hf, hb, b]
    have hlget : ∀ t, lget (args ++ List.replicate (fn.ntmps - args.length) .any) t = lget args t := fun t => by
      rw [zAW, zAW]
      simp only [List.getD_eq_getElem?_getD]
      rcases Nat.lt_or_ge t args.length with h' | h'
      · rw [List.getElem?_append_left h']
      rw [List.getElem?_append_right h', List.getElem?_eq_none h', List.getElem?_replicate]
      split <;> rfl
    have hget : ∀ t, (vs ++ Array.replicate (fn.ntmps - vs.size) undef).getD t undef = vs.getD t undef := fun t => by
      simp only [Array.getD_eq_getD_getElem?]
      rcases Nat.lt_or_ge t vs.size with h' | h'
      · rw [Array.getElem?_append_left h']
      rw [Array.getElem?_append_right h', Array.getElem?_eq_none h', Array.getElem?_replicate]
      split <;> rfl
    have hr0 : Rel g (args ++ List.replicate (fn.ntmps - args.length) .any) [] (vs ++ Array.replicate (fn.ntmps - vs.size) undef) w :=
      ⟨by simp; omega, fun t => by rw [hlget, hget]; exact hr.slots t, hr.heap, hr.locs, hr.imms, hr.owns, hr.fzs⟩
    obtain ⟨a', w', g', tm', h', todo, q1, q2, q3, q4, q5⟩ := hW0 g _ w b cs hL hr0 (Nat.zero_le _)
    have hrun := resT_run (P := P) hres a' w'
    change Steps P (lone (b.at { tmps := vs ++ Array.replicate (fn.ntmps - vs.size) undef, defers := [] } [.code c]) cs w) _ at q1
    rw [← henter] at q1
    have hs := q2.slots i
    have q5' : lget tm' i = .sl (some oe) l := q5
    rw [q5'] at hs
    have hd : Rel (g'.trunc 0 true) [] ([] : Heap) #[a'.getD i undef] w' := by
      have := q2.drop 0 true (tm2 := []) (a2 := #[a'.getD i undef]) (by simp) (fun id cs hid => by omega) (fun t => ⟨.any _, rfl, .inl (by intro oe l; simp [lget])⟩)
      simpa using this
    have hg := hd.give (.slot i) (.slot 0) (.inl ⟨i, rfl⟩) (fun v => by simp) (fun t l _ h => by obtain ⟨oe, h⟩ := h; simp [lget] at h) (fun id off cs l h => by cases h)
    have hV : VR ((g'.trunc 0 true).give (.slot i) (.slot 0)) (.sl (some oe) l) (a'.getD i undef) := (hs.1.lt (n := 0) (g' := g'.trunc 0 true) (fun b o v hv => zFd.2 hv) (fun id l hid => by omega) (fun _ _ h => h) rfl).mono (fun b o v h => zEC (by intro v e; cases e) h) (fun _ _ h => h) (fun _ _ h => h)
    have hT : Tail ((g'.trunc 0 true).give (.slot i) (.slot 0)) (.slot 0) (.sl (some oe) l) (a'.getD i undef) := by
      refine Tail.give_to (s := .slot i) ?_
      have ht := hs.2
      generalize a'.getD i undef = u at ht
      cases u with
      | slice a0 n0 cap =>
        rcases ht with ht | ⟨h0, b, o, es, e1, e2, e3, e4, e5⟩
        · exact .inl ht
        exact .inr ⟨h0, b, o, es, e1, e2, e3, fun j hj hj' => by simp only [Gh.trunc, e4 j hj hj', if_true], e5⟩
      | _ => trivial
    refine ⟨.returned (a'.getD i undef), w', _, ⟨a'.getD i undef, _, rfl, ⟨by simp, fun t => ?_, hg.heap, hg.locs, hg.imms, hg.owns, hg.fzs⟩, (q3.strict.trans Stp.trunc).trans (Stp.give _ _ (.inl ⟨i, rfl⟩))⟩, q1, rfl, rfl, rfl, rfl, fn, hf, hrun⟩
    match t with
    | 0 => exact ⟨hV, hT⟩
    | t+1 => exact ⟨.any _, trivial⟩
theorem retO_s {nb : Nat} {tm : List AV} {hp : Heap} {α : Type} {v r : α} {i : Nat} (enc : α → AV) (h : some v = some r) (hr : lget tm i = enc v) : hold P nb (ResO i (enc r)) (.fin tm hp) := by
 cases h; exact hr
end
end Go.Av
namespace Go.Av
open Go
variable [Lay]
theorem Rel.typ {g : Gh} {tm : List AV} {hp : Heap} {a : Array Value} {w : World} {i off : Nat} {o : Option (Option ETy)} (h : Rel g tm hp a w) (hc : lget (hget hp i) off = .sl (some none) []) (ho : o ≠ some none) :
    Rel g tm (hset hp i (lset (hget hp i) off (.sl o []))) a w := by
  refine ⟨h.size, h.slots, fun id cs hcs => ?_, fun id hid => h.locs id (by simpa [zC1] using hid), h.imms, h.owns, h.fzs⟩
  rw [zC1] at hcs
  by_cases hi : i = id
  · subst hi
    rw [List.getElem?_set] at hcs
    simp only [if_true] at hcs
    split at hcs
    · rename_i hlt
      obtain rfl : lset (hget hp i) off (.sl o []) = cs := by simpa using hcs
      cases hx : hp[i]? with
      | none => rw [List.getElem?_eq_none_iff] at hx; omega
      | some u =>
        cases u with
        | none =>
          exfalso
          have : hget hp i = [] := by
            have : ∀ (l : Heap) (i : Nat), l[i]? = some none → hget l i = [] := by
              intro l
              induction l with
              | nil => intro i h; simp at h
              | cons x l ih =>
                intro i h
                cases i with
                | zero => simp at h; subst h; rfl
                | succ i => cases x <;> exact ih i (by simpa using h)
            exact this hp i hx
          rw [this] at hc; simp [lget] at hc
        | some cs0 =>
          have hg := zQw hx
          rw [hg] at hc ⊢
          obtain ⟨b, base, c, q1, q2, q3, q4⟩ := h.heap i cs0 hx
          refine ⟨b, base, c, q1, by simpa using q2, q3, fun j av hj => ?_⟩
          by_cases hjo : off = j
          · subst hjo
            have hol : off < cs0.length := by
              have := (List.getElem?_eq_some_iff.1 hj).1
              simpa using this
            obtain ⟨v, v1, v2, v3⟩ := q4 off _ (by rw [zB3 hol, hc])
            have hav : av = .sl o [] := by
              rw [zDY, List.getElem?_set] at hj
              simp [hol] at hj; exact hj.symm
            subst hav
            refine ⟨v, v1, v2.own (fun e => absurd e ho), ?_⟩
            cases o with
            | none => exact Tail.meek (by intro oe l; simp)
            | some oe => exact Tail.ofNil v2
          rw [zDY, List.getElem?_set_ne hjo] at hj
          exact q4 j av hj
    cases hcs
  rw [List.getElem?_set_ne hi] at hcs
  exact h.heap id cs hcs
theorem zIT {P : Program} {nb : Nat} {R : Rt} {k1 k2 : List Item} {tm : List AV} {hp : Heap} {id : Nat} {c : Code} (i off : Nat) (o : Option (Option ETy)) (hp' : Heap) (hc : lget (hget hp i) off = .sl (some none) []) (hh : hset hp i (lset (hget hp i) off (.sl o [])) = hp')
  (h : hold P nb R (.blk id c k1 k2 tm hp')) (ho : o ≠ some none := by simp) : hold P nb R (.blk id c k1 k2 tm hp) := by
 show W P nb R (.code c :: .inBlock id :: (k1 ++ k2)) tm hp
 intro hk g a w b cs hL hr hn
 subst hh
 exact h hk g a w b cs hL (hr.typ hc ho) (by rw [zC1]; simpa using hn)
end Go.Av

namespace Go.Av
open Go
variable [Lay] {P : Program} {nb : Nat} {R : Rt} {d : Bool} {k1 k2 : List Item} {tm : List AV} {hp : Heap} {α : Type} {rs : List ResultVar} {v r : α}
theorem cX {f : FuncId} {args args' : List AV} {all rest : List Oper} {dst : Option Nat} {r : AV} (hA : zAe P f args' [] r []) (h : hold P nb R (ex P 10000 (some (d, all, rest)) k1 k2 (put tm dst r) hp)) (ha : args.map fix = args' := by first | rfl | simp only [go_sem]) (hl : ltRL 0 args' = true := by first | rfl | simp only [go_sem]) : hold P nb R (.call f args d all rest dst k1 k2 tm hp) := callX_ 10000 hA ha hl h
theorem cO {f : FuncId} {args args' : List AV} {all rest : List Oper} {dst : Option Nat} {r : AV} (hA : zGG P f args' r) (h : hold P nb R (ex P 10000 (some (d, all, rest)) k1 k2 (put tm dst r) hp)) (ha : args = args' := by first | rfl | simp only [go_sem]) (hl : ltRL 0 args' = true := by first | rfl | simp only [go_sem]) : hold P nb R (.call f args d all rest dst k1 k2 tm hp) := callO_ 10000 hA ha hl h
theorem cH {f : FuncId} {args : List AV} {all rest : List Oper} {dst : Option Nat} (ids : List Nat) {args' : List AV} {hq : Heap} {r : AV} {hp1 : Heap} (hA : zAe P f args' hq r hp1) (h : hold P nb R (ex P 10000 (some (false, all, rest)) k1 k2 (put tm dst (ren (nth ids) r)) (wb (nth ids) ids hp1 hp)))
    (ha : renL (idx ids) (args.map fix) = args' := by first | rfl | simp only [go_sem]) (hh : focus ids hp = hq := by first | rfl | simp only [go_sem]) (hl : fcOk ids hp (args.map fix) = true := by first | rfl | simp only [go_sem]) : hold P nb R (.call f args false all rest dst k1 k2 tm hp) := callH_ 10000 ids hA ha hh hl h
theorem rS (enc : α → AV) (h : some v = some r) (hr : zAo P rs tm hp = some (enc v) := by first | rfl | simp only [go_sem, zAo, zAh, zAi, seval]) : hold P nb (Res P (List.toArray rs) (enc r)) (.fin tm hp) := zBz enc h hr
theorem rH {n : Nat} (enc : α → AV) (cs : α → Heap) (h : some v = some r) (hr : zAo P rs tm hp = some (enc v) := by first | rfl | simp only [go_sem, zAo, zAh, zAi, seval]) (hh : hp.take n = cs v := by first | rfl | simp only [go_sem, zAo, zAh, zAi, seval]) : hold P nb (ResH P (List.toArray rs) (enc r) n (cs r)) (.fin tm hp) := zCL enc cs h hr hh
theorem aX {f : FuncId} {fn : Func} {args : List AV} {r : AV} (hf : P.funcs[f]? = some fn) (hok : fOk P f args.length = true) (hm : Meek r)
    (h : hold P 0 (Res P fn.results r) (ex P 10000 none [.code (fn.body.getD .skip)] [] (fr fn.ntmps (nums 0 args)) [])) (hn : zB2 r = true := by first | rfl | simp only [go_sem]) : zAe P f args [] r [] := acallX 10000 hf hok hn hm h
theorem cS {A B : Option α} {b : Bool} {x y : Code} (h : (if b = true then A else B) = some r) (hx : b = true → A = some r → hold P nb R (ex P 10000 none (.code x :: k1) k2 tm hp)) (hy : b = false → B = some r → hold P nb R (ex P 10000 none (.code y :: k1) k2 tm hp)) : hold P nb R (.cnd b x y k1 k2 tm hp) := cnd_s 10000 h hx hy
theorem bK {id : Nat} {c : Code} (h : hold P nb R (ex P 10000 none (.code c :: .inBlock id :: k1) k2 tm hp)) : hold P nb R (.blk id c k1 k2 tm hp) := blk_ 10000 h
theorem rL {c : Code} (h : hold P nb R (ex P 10000 none (.code c :: .inLoop c :: k1) k2 tm hp)) : W P nb R (.code c :: .inLoop c :: (k1 ++ k2)) tm hp := runL 10000 h
end Go.Av

