import Derived.Test.YtmedpledgchipaaGreatDoorEx2
set_option linter.unusedSectionVars false
set_option linter.unusedVariables false
set_option linter.unusedSimpArgs false
set_option linter.unnecessarySimpa false
namespace Go.Av
open Go
variable [Lay]
section
variable {P : Program} {nb : Nat} {R : Rt} {k1 k2 k : List Item} {N : Nat} {l l' : List (Nat × AV)} {tm : List AV} {hp hp' : Heap}
def toldA (l' : List (Nat × AV)) : List (Nat × AV) → Prop
 | [] => True
 | (i, v) :: l => v = al l' i ∧ toldA l' l
theorem toldA_al : ∀ {l : List (Nat × AV)}, toldA l' l → ∀ t, al l t = .any ∨ al l t = al l' t
 | [], _, t => .inl rfl
 | (i, v) :: l, h, t => by
  by_cases e : i = t
  ·subst e; right; simp [al, h.1]
  ·rw [al_cons_ne e]; exact toldA_al h.2 t
theorem wk_toldA (h : toldA l' l) : wk (fr N l) (fr N l') := by
 refine wk_of (by simp [fr_len]) fun t ht => ?_
 rw [fr_len] at ht
 rw [lget_fr ht, lget_fr ht]
 exact toldA_al h t
theorem runX (n : Nat) (h : hold P nb R (ex P n none k1 k2 tm hp)) : W P nb R (k1 ++ k2) tm hp := ex_sound n none k1 k2 tm hp h
theorem wkn (h : W P nb R k (fr N l) hp) (ht : toldA l' l) : W P nb R k (fr N l') hp := W.same (wk_toldA ht) h
theorem ltRL_fr {n : Nat} (h : ∀ p, p ∈ l → ltR n p.2 = true) : ltRL n (fr N l) = true := by
 have ha : ∀ t, ltR n (al l t) = true := by
  intro t
  induction l with
  | nil => rfl
  | cons p l ih =>
   by_cases e : p.1 = t
   ·subst e; simp only [al, beq_self_eq_true, cond_true]; exact h p (by simp)
   ·obtain ⟨i, v⟩ := p
    rw [al_cons_ne e]; exact ih fun q hq => h q (by simp [hq])
 unfold fr
 generalize 0 = i
 induction N generalizing i with
 | zero => rfl
 | succ N ih => simp only [frF, ltRL, ha, ih, Bool.and_self]
def ltF (n : Nat) : List (Nat × AV) → Bool
 | [] => true
 | (_, v) :: l => ltR n v && ltF n l
theorem ltF_spec {n : Nat} : ∀ {l : List (Nat × AV)}, ltF n l = true → ∀ p, p ∈ l → ltR n p.2 = true
 | [], _, p, h => by simp at h
 | (i, v) :: l, h, p, hp => by
  simp only [ltF, Bool.and_eq_true] at h
  rcases List.mem_cons.1 hp with rfl | hp
  ·exact h.1
  ·exact ltF_spec h.2 p hp
theorem wknH (n : Nat) (h : W P nb R k (fr N l) hp) (ht : toldA l' l) (hh : hp'.take n = hp) (hn : Nat.ble nb n = true) (hn2 : Nat.ble n hp'.length = true) (hl : ltF n l = true) (hc : allLt n hp = true) : W P nb R k (fr N l') hp' :=
 W.less n (Nat.le_of_ble_eq_true hn) (Nat.le_of_ble_eq_true hn2) (wk_toldA ht) (ltRL_fr (ltF_spec hl)) hh.symm (fun _ _ h => allLt_spec hc h) h
theorem atJ (h : W P nb R k tm hp) : hold P nb R (.at_ none k tm hp) := h
theorem atEndF (h : hold P nb R (.fin tm hp)) : hold P nb R (.at_ none [] tm hp) := fun _ => W0.end_ h
section
variable {b : Bool} {x y : Code} {n : Nat}
theorem cnd_ (n : Nat) (hx : b = true → hold P nb R (ex P n none (.code x :: k1) k2 tm hp)) (hy : b = false → hold P nb R (ex P n none (.code y :: k1) k2 tm hp)) : hold P nb R (.cnd b x y k1 k2 tm hp) :=
 ⟨fun e => runX n (hx e), fun e => runX n (hy e)⟩
theorem cnd_t (n : Nat) (hx : hold P nb R (ex P n none (.code x :: k1) k2 tm hp)) : hold P nb R (.cnd true x y k1 k2 tm hp) := cnd_ n (fun _ => hx) (fun e => by cases e)
theorem cnd_f (n : Nat) (hx : hold P nb R (ex P n none (.code y :: k1) k2 tm hp)) : hold P nb R (.cnd false x y k1 k2 tm hp) := cnd_ n (fun e => by cases e) (fun _ => hx)
end
section
variable {id : Nat} {c : Code} {n : Nat} {d : Bool} {ops : List Oper}
theorem blk_ (n : Nat) (h : hold P nb R (ex P n none (.code c :: .inBlock id :: k1) k2 tm hp)) : hold P nb R (.blk id c k1 k2 tm hp) := runX n h
theorem rg_ (n : Nat) (hd : DrawnOk P d (List.toArray ops) tm hp) (h : hold P nb R (ex P n (some (d, ops, ops)) k1 k2 tm hp)) : hold P nb R (.rg id (List.toArray ops) d k1 k2 tm hp) := W.reg hd (ex_sound n _ k1 k2 tm hp h)
theorem grd_ {b want : Bool} {all rest : List Oper} {dst : Option Nat} {op : Op} {ty : TypeId} {pos : String} {after : Array Edge} {t : Nat} (h1 : b = want → hold P nb R (ex P n (some (d, all, ⟨dst, op, ty, pos, after, none⟩ :: rest)) k1 k2 (lset tm t (.bool want)) hp))
    (h2 : b = !want → hold P nb R (ex P n (some (d, all, rest)) k1 k2 (put (lset tm t (.bool (!want))) dst (.tup [])) hp)) : hold P nb R (grdO P n b want d all dst op ty pos after rest t k1 k2 tm hp) := by
  unfold grdO
  cases b <;> cases want <;> simp_all [xn]
theorem lp_back (h : W P nb R (.code c :: .inLoop c :: (k1 ++ k2)) (fr N l) hp) (ht : toldA l' l) : hold P nb R (.lp c k1 k2 (fr N l') hp) := wkn h ht
theorem lp_backH (n : Nat) (h : W P nb R (.code c :: .inLoop c :: (k1 ++ k2)) (fr N l) hp) (ht : toldA l' l) (hh : hp'.take n = hp) (hn : Nat.ble nb n = true) (hn2 : Nat.ble n hp'.length = true) (hl : ltF n l = true) (hc : allLt n hp = true) : hold P nb R (.lp c k1 k2 (fr N l') hp') := wknH n h ht hh hn hn2 hl hc
theorem callX_ {f : FuncId} {args args' : List AV} {all rest : List Oper} {dst : Option Nat} (n : Nat) {r : AV} (hA : ACall P f args' [] r []) (ha : args.map fix = args') (hl : ltRL 0 args' = true) (h : hold P nb R (ex P n (some (d, all, rest)) k1 k2 (put tm dst r) hp)) : hold P nb R (.call f args d all rest dst k1 k2 tm hp) :=
 .inl ⟨r, by rw [ha]; exact hl, by rw [ha]; exact hA, ex_sound n (some (d, all, rest)) k1 k2 _ hp h⟩
theorem callH_ {f : FuncId} {args : List AV} {all rest : List Oper} {dst : Option Nat} (n : Nat) (ids : List Nat) {args' : List AV} {hq : Heap} {r : AV} {hp1 : Heap} (hA : ACall P f args' hq r hp1) (ha : renL (idx ids) (args.map fix) = args') (hh : focus ids hp = hq) (hl : fcOk ids hp (args.map fix) = true)
  (h : hold P nb R (ex P n (some (false, all, rest)) k1 k2 (put tm dst (ren (nth ids) r)) (wb (nth ids) ids hp1 hp))) : hold P nb R (.call f args false all rest dst k1 k2 tm hp) :=
 .inr (.inl ⟨.inl rfl, ids, r, hp1, hl, by rw [ha, hh]; exact hA, ex_sound n (some (false, all, rest)) k1 k2 _ _ h⟩)
theorem callO_ {d : Bool} {f : FuncId} {args args' : List AV} {all rest : List Oper} {dst : Option Nat} (n : Nat) {r : AV} (hA : ACallO P f args' r) (ha : args = args') (hl : ltRL 0 args' = true) (h : hold P nb R (ex P n (some (d, all, rest)) k1 k2 (put tm dst r) hp)) : hold P nb R (.call f args d all rest dst k1 k2 tm hp) :=
 .inr (.inr (.inl ⟨r, by rw [ha]; exact hl, by rw [ha]; exact hA, ex_sound n (some (d, all, rest)) k1 k2 _ hp h⟩))
theorem opx_ {o : Oper} {all rest : List Oper} {tm' : List AV} {hp' : Heap} (n : Nat) (hs : ∀ (gd : Option (Nat × Bool)) (g : Gh) (a : Array Value) (w : World), LayOk g w → Rel g tm hp a w → nb ≤ hp.length → OpN P nb { o with guard := gd } tm' hp' g a w)
  (h : hold P nb R (ex P n (some (false, all, rest)) k1 k2 tm' hp')) : hold P nb R (.opx o false all rest k1 k2 tm hp) :=
 .inr ⟨tm', hp', .inl rfl, hs, ex_sound n (some (false, all, rest)) k1 k2 _ _ h⟩
end
def nums : Nat → List AV → List (Nat × AV)
 | _, [] => []
 | i, a :: l => (i, a) :: nums (i+1) l
theorem al_nums : ∀ (l : List AV) (i j : Nat), al (nums i l) (i + j) = lget l j
 | [], _, _ => rfl
 | a :: l, i, 0 => by simp [nums, al, lget]
 | a :: l, i, j+1 => by
  rw [nums, al_cons_ne (by omega), show i + (j + 1) = (i + 1) + j by omega, al_nums l (i+1) j]; rfl
theorem fr_nums {N : Nat} {args : List AV} (h : args.length ≤ N) : fr N (nums 0 args) = pad N args := by
  apply lget_ext
  · rw [fr_len, pad_eq _ _ h]; simp; omega
  intro t
  by_cases ht : t < N
  · rw [lget_fr ht]
    have := al_nums args 0 t
    rw [Nat.zero_add] at this
    rw [this, pad_eq _ _ h, lget_eq, lget_eq]
    rcases Nat.lt_or_ge t args.length with h' | h'
    · simp [List.getD_eq_getElem?_getD, List.getElem?_append_left h']
    · simp only [List.getD_eq_getElem?_getD, List.getElem?_append_right h', List.getElem?_eq_none h', List.getElem?_replicate]
      split <;> rfl
  · rw [lget_ge (by rw [fr_len]; omega), lget_ge (by rw [pad_eq _ _ h]; simp; omega)]
theorem fOk_le {f : FuncId} {fn : Func} {n : Nat} (hf : P.funcs[f]? = some fn) (hok : fOk P f n = true) : n ≤ fn.ntmps := by
 unfold fOk at hok
 rw [hf] at hok
 dsimp only at hok
 cases hb : fn.body with
 | none => simp [hb] at hok
 | some c => simp only [hb, Bool.and_eq_true, Nat.ble_eq] at hok; exact hok.2
theorem acallX {f : FuncId} {fn : Func} {args : List AV} {r : AV} (n : Nat) (hf : P.funcs[f]? = some fn) (hok : fOk P f args.length = true) (hn : noRef r = true) (hm : Meek r)
  (h : hold P 0 (Res P fn.results r) (ex P n none [.code (fn.body.getD .skip)] [] (fr fn.ntmps (nums 0 args)) [])) : ACall P f args [] r [] :=
 acall_pure hf hok hn hm fun _ => by
  rw [← fr_nums (fOk_le hf hok)]
  exact runX n h
theorem acallHX {f : FuncId} {fn : Func} {args : List AV} {r : AV} {hp1 : Heap} (n : Nat) (hf : P.funcs[f]? = some fn) (hok : fOk P f args.length = true) (hn : ltR hp.length r = true) (hm : Meek r) (hlen : hp1.length = hp.length) (hcl : allLt hp.length hp1 = true)
  (h : hold P hp.length (ResH P fn.results r hp.length hp1) (ex P n none [.code (fn.body.getD .skip)] [] (fr fn.ntmps (nums 0 args)) hp)) : ACall P f args hp r hp1 :=
 acall_heap hf hok hn hm hlen hcl <| by
  rw [← fr_nums (fOk_le hf hok)]
  exact runX n h
end
end Go.Av

