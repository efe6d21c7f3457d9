import Derived.Test.YtmedpledgchipaaGreatDoorAv4
set_option linter.unusedSectionVars false
set_option linter.unusedVariables false
set_option linter.unusedSimpArgs false
set_option linter.unnecessarySimpa false
namespace Go.Av
open Go
def al : List (Nat × AV) → Nat → AV
 | [], _ => .any
 | (i, v) :: l, j => bif i == j then v else al l j
def frF (l : List (Nat × AV)) : Nat → Nat → List AV
 | _, 0 => []
 | i, n+1 => al l i :: frF l (i+1) n
def fr (n : Nat) (l : List (Nat × AV)) : List AV := frF l 0 n
theorem frF_len (l : List (Nat × AV)) : ∀ n i, (frF l i n).length = n
 | 0, _ => rfl
 | n+1, i => by simp [frF, frF_len l n]
theorem frF_get (l : List (Nat × AV)) : ∀ n i j, j < n → lget (frF l i n) j = al l (i + j)
 | 0, _, _, h => by omega
 | n+1, i, 0, h => rfl
 | n+1, i, j+1, h => by
  show lget (frF l (i+1) n) j = _
  rw [frF_get l n (i+1) j (by omega)]; congr 1; omega
theorem fr_len (n : Nat) (l : List (Nat × AV)) : (fr n l).length = n := frF_len l n 0
theorem lget_fr {n : Nat} {l : List (Nat × AV)} {j : Nat} (h : j < n) : lget (fr n l) j = al l j := by
 unfold fr; rw [frF_get l n 0 j h, Nat.zero_add]
theorem al_cons_ne {i j : Nat} {v : AV} {l : List (Nat × AV)} (h : i ≠ j) : al ((i, v) :: l) j = al l j := by
 have : (i == j) = false := by simpa using h
 simp [al, this]
section
variable [Lay]
theorem lset_fr {n : Nat} {l : List (Nat × AV)} {j : Nat} {v : AV} : lset (fr n l) j v = fr n ((j, v) :: l) := by
 apply lget_ext
 ·simp [lset_len, fr_len]
 intro t
 by_cases ht : t < n
 ·by_cases h : j = t
  ·subst h; rw [lget_lset_eq, fr_len, if_pos ht, lget_fr ht]; simp [al]
  ·rw [lget_lset_ne h, lget_fr ht, lget_fr ht, al_cons_ne h]
 ·rw [lget_ge (by simp [lset_len, fr_len]; omega), lget_ge (by simp [fr_len]; omega)]
theorem put_fr {n : Nat} {l : List (Nat × AV)} {j : Nat} {v : AV} : put (fr n l) (some j) v = fr n ((j, v) :: l) := lset_fr
theorem put_none (tm : List AV) (v : AV) : put tm none v = tm := rfl
theorem wk_of : ∀ {l l' : List AV}, l.length = l'.length → (∀ t, t < l.length → lget l t = .any ∨ lget l t = lget l' t) → wk l l'
  | [], _, _, _ => by simp [wk]
  | x :: l, [], h, _ => by simp at h
  | x :: l, y :: l', h, ht => by
    have h0 := ht 0 (by simp)
    have hr : wk l l' := wk_of (by simpa using h) (fun t htl => ht (t+1) (by simp; omega))
    simp only [lget] at h0
    cases x <;> simp_all [wk]
end
inductive Out2 where
 | fin (tm : List AV) (hp : Heap)
 | at_ (cur : Cur) (k : List Item) (tm : List AV) (hp : Heap)
 | cnd (b : Bool) (x y : Code) (k1 k2 : List Item) (tm : List AV) (hp : Heap)
 | blk (id : Nat) (c : Code) (k1 k2 : List Item) (tm : List AV) (hp : Heap)
 | rg (id : Nat) (ops : Array Oper) (d : Bool) (k1 k2 : List Item) (tm : List AV) (hp : Heap)
 | ext (id : Nat) (k : List Item) (tm : List AV) (hp : Heap)
 | lp (c : Code) (k1 k2 : List Item) (tm : List AV) (hp : Heap)
 | call (f : FuncId) (args : List AV) (d : Bool) (all rest : List Oper) (dst : Option Nat) (k1 k2 : List Item) (tm : List AV) (hp : Heap)
 | opx (o : Oper) (d : Bool) (all rest : List Oper) (k1 k2 : List Item) (tm : List AV) (hp : Heap)
 | need (c : Prop) (o : Out2)
 | bad
def nd : Option Prop → Out2 → Out2
 | none, o => o
 | some c, o => .need c o
def callX (v : Option (FuncId × List AV)) (d : Bool) (all rest : List Oper) (dst : Option Nat) (k1 k2 : List Item) (tm : List AV) (hp : Heap) : Out2 :=
 match v with
 | some (f, as) => .call f as d all rest dst k1 k2 tm hp
 | none => .bad
def isRs : AV → Bool
 | .rs _ _ _ _ _ _ => true
 | _ => false
def frzU (all : List Oper) (d : Option Nat) : Bool :=
 match d with
 | some t => all.any fun o => match o.op with
  | .call { callee := .value _, args, .. } => args.toList.any (isT t)
  | .call { callee := .builtin .append, args, .. } => (match args.toList with
   | [_, y] => isT t y
   | _ => false)
  | .build _ parts => parts.toList.any fun p => isT t p.2
  | .buildSlice _ _ parts => parts.toList.any fun p => isT t p.2
  | .box _ v => isT t v
  | .store _ _ v => isT t v
  | .assign v => isT t v
  | .makeInterface _ v => isT t v
  | .makeFunc _ l1 l2 => l1.toList.any (isT t) || l2.toList.any (isT t)
  | .convert _ _ v => isT t v
  | _ => false
 | none => false
def rsF (b : Bool) (all : List Oper) (d : Option Nat) : Bool := match b with
 | true => frzU all d
 | false => false
def isLit : List Oper → Option Nat → Nat → Bool
 | [], _, _ => false
 | [_], _, _ => false
 | [_, o], d, n => match o.op, d with
  | .assign x, some t => isT t x && n == 1
  | _, _ => false
 | _ :: _ :: _ :: _, _, _ => false
def isX (all : List Oper) (d : Option Nat) (o : Op) (tm : List AV) : Bool :=
 match o with
 | .move x => rsF (isRs (opv tm x)) all d
 | .makeSlice _ _ _ => true
 | .buildSlice _ n _ => isLit all d n
 | .slice _ x _ _ _ => isRs (opv tm x)
 | .call { callee := .builtin b, args, .. } => match b, args.toList with
  | .append, [x, _] => isRs (opv tm x)
  | .copy, _ => true
  | .cap, _ => true
  | _, _ => false
 | _ => false
def ifX (b : Bool) (x y : Out2) : Out2 := match b with
 | true => x
 | false => y
def isRange : Op → Bool
 | .range _ _ => true
 | _ => false
def hasG : List Oper → Bool
 | [] => false
 | ⟨_, op, _, _, _, none⟩ :: l => bif isRange op then true else hasG l
 | ⟨_, _, _, _, _, some _⟩ :: _ => true
def ex (P : Program) : Nat → Cur → List Item → List Item → List AV → Heap → Out2
 | 0, cur, k1, k2, tm, hp => .at_ cur (k1 ++ k2) tm hp
 | n+1, some (d, all, []), k1, k2, tm, hp => ex P n none k1 k2 tm hp
 | n+1, some (d, all, o :: rest), k1, k2, tm, hp =>
  match o.guard with
  | none => match callOf o.op with
   | some (f, args) => callX (calleeK (opv tm f) (allOp tm args)) d all rest o.dst k1 k2 tm hp
   | none => ifX (isX all o.dst o.op tm) (.opx o d all rest k1 k2 tm hp) (nd (opM P all o tm hp).c (ex P n (some (d, all, rest)) k1 k2 (put (opM P all o tm hp).tm o.dst (opM P all o tm hp).v) (opM P all o tm hp).hp))
  | some (j, want) => match gslot all j with
   | some t => match lget tm t with
    | .bool b => if xn want b = true then ex P n (some (d, all, ⟨o.dst, o.op, o.type, o.pos, o.after, none⟩ :: rest)) k1 k2 (lset tm t (.bool want)) hp else ex P n (some (d, all, rest)) k1 k2 (put (lset tm t (.bool (!want))) o.dst (.tup [])) hp
    | .tup [] => ex P n (some (d, all, rest)) k1 k2 (put tm o.dst (.tup [])) hp
    | _ => .bad
   | none => .bad
 | n+1, none, [], k2, tm, hp => .at_ none k2 tm hp
 | n+1, none, .code .skip :: k, k2, tm, hp => ex P n none k k2 tm hp
 | n+1, none, .code (.seq a b) :: k, k2, tm, hp => ex P n none (.code a :: .code b :: k) k2 tm hp
 | n+1, none, .code (.cond c x y) :: k, k2, tm, hp =>
  match opv tm c with
  | .bool b => .cnd b x y k k2 tm hp
  | _ => .bad
 | n+1, none, .code (.block id c) :: k, k2, tm, hp => .blk id c k k2 tm hp
 | n+1, none, .inBlock _ :: k, k2, tm, hp => ex P n none k k2 tm hp
 | n+1, none, .code (.exit id) :: k, k2, tm, hp =>
  match exitTo id k with
  | some k => ex P n none k k2 tm hp
  | none => .ext id k2 tm hp
 | n+1, none, .code .ret :: _, k2, tm, hp => .fin tm hp
 | n+1, none, .code (.region id ops d) :: k, k2, tm, hp => bif d || hasG ops.toList then .rg id ops d k k2 tm hp else ex P n (some (d, ops.toList, ops.toList)) k k2 tm hp
 | n+1, none, .code (.loop c) :: k, k2, tm, hp => .lp c k k2 tm hp
 | n+1, none, .inLoop c :: k, k2, tm, hp => .lp c k k2 tm hp
 | _, _, _, _, _, _ => .bad
variable [Lay]
def hold (P : Program) (nb : Nat) (R : Rt) : Out2 → Prop
 | .fin tm hp => R tm hp
 | .at_ cur k tm hp => Wc P nb R cur k tm hp
 | .cnd b x y k1 k2 tm hp => (b = true → W P nb R (.code x :: (k1 ++ k2)) tm hp) ∧ (b = false → W P nb R (.code y :: (k1 ++ k2)) tm hp)
 | .blk id c k1 k2 tm hp => W P nb R (.code c :: .inBlock id :: (k1 ++ k2)) tm hp
 | .rg id ops d k1 k2 tm hp => W P nb R (.code (.region id ops d) :: (k1 ++ k2)) tm hp
 | .ext id k tm hp => ∃ k', exitTo id k = some k' ∧ W P nb R k' tm hp
 | .lp c k1 k2 tm hp => W P nb R (.code c :: .inLoop c :: (k1 ++ k2)) tm hp
 | .call f args d all rest dst k1 k2 tm hp => (∃ r, ltRL 0 (args.map fix) = true ∧ ACall P f (args.map fix) [] r [] ∧ Wr P nb R d all rest (k1 ++ k2) (put tm dst r) hp) ∨
  ((d = false ∨ barD all dst = true) ∧ ∃ ids r hp1, fcOk ids hp (args.map fix) = true ∧ ACall P f (renL (idx ids) (args.map fix)) (focus ids hp) r hp1 ∧ Wr P nb R d all rest (k1 ++ k2) (put tm dst (ren (nth ids) r)) (wb (nth ids) ids hp1 hp)) ∨
  (∃ r, ltRL 0 args = true ∧ ACallO P f args r ∧ Wr P nb R d all rest (k1 ++ k2) (put tm dst r) hp) ∨
  (memD P all dst = true ∧ ∃ id r hp1 x l, args.map fix = x :: l ∧ refOf x = some id ∧ fcOk [id] hp (args.map fix) = true ∧ ACall P f (renL (idx [id]) (args.map fix)) (focus [id] hp) r hp1 ∧ Wr P nb R d all rest (k1 ++ k2) (put tm dst (ren (nth [id]) r)) (wb (nth [id]) [id] hp1 hp)) ∨
  (d = false ∧ ∃ r cs, ltRL 0 args = true ∧ ACallB P f args r cs ∧ Wr P nb R d all rest (k1 ++ k2) (put tm dst (ren (fun _ => hp.length) r)) (hp ++ [some (renL (fun _ => hp.length) cs)]))
 | .opx o d all rest k1 k2 tm hp => (∃ x, o.op = .move x ∧ o.guard = none ∧ Wr P nb R d all rest (k1 ++ k2) (put (mvT all o.dst tm x) o.dst (mvV all o.dst (opv tm x))) hp) ∨ ∃ tm' hp', (d = false ∨ (barD all o.dst = true ∧ KeepT o.dst tm tm')) ∧ (∀ (gd : Option (Nat × Bool)) (g : Gh) (a : Array Value) (w : World), LayOk g w → Rel g tm hp a w → nb ≤ hp.length → OpN P nb { o with guard := gd } tm' hp' g a w) ∧ Wr P nb R d all rest (k1 ++ k2) tm' hp'
 | .need c o => c ∧ hold P nb R o
 | .bad => False
theorem exitTo_append (id : Nat) : ∀ (k1 k2 : List Item), exitTo id (k1 ++ k2) = match exitTo id k1 with | some k => some (k ++ k2) | none => exitTo id k2
 | [], k2 => rfl
 | i :: k1, k2 => by
  rw [List.cons_append]
  cases i with
  | inBlock id' =>
   simp only [exitTo]
   split
   ·rfl
   ·exact exitTo_append id k1 k2
  | _ => exact exitTo_append id k1 k2
section
variable {P : Program} {nb : Nat} {R : Rt}
theorem hold_nd {c : Option Prop} {o : Out2} : hold P nb R (nd c o) ↔ (∀ c', c = some c' → c') ∧ hold P nb R o := by
 cases c with
 | none => simp [nd]
 | some c => exact ⟨fun h => ⟨fun c' e => by cases e; exact h.1, h.2⟩, fun h => ⟨h.1 c rfl, h.2⟩⟩
def DrawnOk (P : Program) (d : Bool) (ops : Array Oper) (tm : List AV) (hp : Heap) : Prop := d = false ∨ ∃ rt, drawOk P rt ops = true ∧ rtOk rt ops.toList = true ∧ invB rt tm hp = true
theorem W.reg {id : Nat} {ops : Array Oper} {d : Bool} {k : List Item} {tm : List AV} {hp : Heap} (hd : DrawnOk P d ops tm hp) (h : Wr P nb R d ops.toList ops.toList k tm hp) : W P nb R (.code (.region id ops d) :: k) tm hp := by
 intro hk
 simp only [okK, okItem, okCode, Bool.and_eq_true, List.all_eq_true, Bool.or_eq_true, Bool.not_eq_true'] at hk
 obtain ⟨S', q1, q2⟩ := h hk.2
 cases d with
 | false => exact W0.regionLex hk.1.1 q1 q2
 | true =>
  rcases hd with hd | ⟨rt, h1, h2, h3⟩
  ·cases hd
  have := hk.1.2
  simp at this
  exact W0.regionDraw this hk.1.1 h1 h2 (invB_spec h3) q1 q2
theorem keep_put {d : Option Nat} {tm : List AV} {v : AV} : KeepT d tm (put tm d v) := fun t h => .inl (by
 cases d with
 | none => rfl
 | some d => exact lget_lset_ne (fun e => h (by rw [e])))
theorem ex_sound : ∀ (n : Nat) (cur : Cur) (k1 k2 : List Item) (tm : List AV) (hp : Heap), hold P nb R (ex P n cur k1 k2 tm hp) → Wc P nb R cur (k1 ++ k2) tm hp := by
  intro n
  induction n with
  | zero => intro cur k1 k2 tm hp h; simpa [ex, hold] using h
  | succ n ih =>
    intro cur k1 k2 tm hp h
    match cur with
    | some (d, all, []) =>
      simp only [ex] at h
      exact fun hk => ⟨(tm, hp), .nil, ih none k1 k2 tm hp h hk⟩
    | some (d, all, o :: rest) =>
      obtain ⟨dst, op, ty, pos, after, gd⟩ := o
      cases gd with
      | some p =>
        obtain ⟨j, want⟩ := p
        simp only [ex] at h
        split at h
        · rename_i t ht
          split at h
          · rename_i b hb
            intro hk
            have hcase : hold P nb R (ex P n (some (d, all, ⟨dst, op, ty, pos, after, none⟩ :: rest)) k1 k2 (lset tm t (.bool want)) hp) ∧ b = want ∨ hold P nb R (ex P n (some (d, all, rest)) k1 k2 (put (lset tm t (.bool (!want))) dst (.tup [])) hp) ∧ b = !want := by
              cases want <;> cases b <;> simp_all [xn, hold]
            clear h
            rcases hcase with ⟨h1, rfl⟩ | ⟨h1, rfl⟩
            · rw [lset_same hb] at h1
              obtain ⟨S', q1, q2⟩ := ih _ k1 k2 tm hp h1 hk
              exact ⟨S', Run.unguard ⟨t, ht, hb⟩ q1, q2⟩
            · rw [lset_same hb] at h1
              obtain ⟨S', q1, q2⟩ := ih _ k1 k2 _ hp h1 hk
              exact ⟨S', .cons (T.skip ⟨t, ht, .inl hb⟩) q1, q2⟩
          · rename_i hb
            intro hk
            obtain ⟨S', q1, q2⟩ := ih _ k1 k2 _ hp h hk
            exact ⟨S', .cons (T.skip ⟨t, ht, .inr hb⟩) q1, q2⟩
          · exact h.elim
        · exact h.elim
      | none =>
        simp only [ex] at h
        cases hco : callOf op with
        | some fa =>
          obtain ⟨fo, args⟩ := fa
          obtain ⟨argTypes, rfl⟩ := callOf_some hco
          rw [hco] at h
          dsimp only at h
          cases hcal : calleeK (opv tm fo) (allOp tm args) with
          | none => rw [hcal] at h; exact h.elim
          | some p =>
            obtain ⟨f', as⟩ := p
            rw [hcal] at h
            intro hk
            rcases h with ⟨r, h1, h2, h3⟩ | ⟨hd, ids, r, hp1, h1, h2, h3⟩ | ⟨r, h1, h2, h3⟩ | ⟨hd, id, r, hp1, x, l, h4, h5, h1, h2, h3⟩ | ⟨hd, r, cs, h1, h2, h3⟩
            · obtain ⟨S', q1, q2⟩ := h3 hk
              exact ⟨S', .cons (T.call trivial rfl (calleeOf_K hcal) h1 h2) q1, q2⟩
            · obtain ⟨S', q1, q2⟩ := h3 hk
              rcases hd with hd | hd
              · exact ⟨S', .cons (T.callF hd trivial rfl (calleeOf_K hcal) h1 h2) q1, q2⟩
              · exact ⟨S', .bar hd keep_put (T.callF rfl trivial rfl (calleeOf_K hcal) h1 h2) q1, q2⟩
            · obtain ⟨S', q1, q2⟩ := h3 hk
              exact ⟨S', .cons (T.callO trivial rfl hcal h1 h2) q1, q2⟩
            · obtain ⟨S', q1, q2⟩ := h3 hk
              exact ⟨S', .mid hd ⟨_, _, _, _, _, _, _, _, _, trivial, rfl, calleeOf_K hcal, h4, h5, h1, h2, rfl⟩ q1, q2⟩
            · obtain ⟨S', q1, q2⟩ := h3 hk
              exact ⟨S', .cons (T.callB hd trivial rfl hcal h1 h2) q1, q2⟩
        | none =>
          rw [hco] at h
          dsimp only at h
          intro hk
          cases hix : isX all dst op tm with
          | true =>
            rw [hix] at h
            rcases h with ⟨x, hx, _, h2⟩ | ⟨tm', hp', hd, h1, h2⟩
            · dsimp only at hx
              subst hx
              obtain ⟨S', q1, q2⟩ := h2 hk
              exact ⟨S', .cons (T.op (o := ⟨dst, .move x, ty, pos, after, none⟩) (tm := tm) (hp := hp) trivial (fun c hc => by cases hc)) q1, q2⟩
            obtain ⟨S', q1, q2⟩ := h2 hk
            rcases hd with hd | ⟨hd, hkp⟩
            · exact ⟨S', .cons (T.opx hd trivial h1) q1, q2⟩
            · exact ⟨S', .bar hd hkp (T.opx rfl trivial h1) q1, q2⟩
          | false =>
            rw [hix] at h
            have hh := hold_nd.1 h
            obtain ⟨S', q1, q2⟩ := ih _ k1 k2 _ _ hh.2 hk
            exact ⟨S', .cons (T.op trivial hh.1) q1, q2⟩
    | none =>
      match k1, k2 with
      | [], k2 => simpa [ex, hold] using h
      | .code .skip :: k, k2 =>
        simp only [ex] at h
        exact fun hk => W0.skip (ih none k k2 tm hp h (by simpa [okK, okItem, okCode] using hk))
      | .code (.seq a b) :: k, k2 =>
        simp only [ex] at h
        exact fun hk => W0.seq (ih none _ k2 tm hp h (by simpa [okK, okItem, okCode, and_assoc] using hk))
      | .code (.cond c x y) :: k, k2 =>
        intro hk
        simp only [List.cons_append, okK, okItem, okCode, Bool.and_eq_true] at hk
        simp only [ex] at h
        split at h
        · rename_i b hb
          refine W0.cond hb hk.1.1.1 (fun e => ?_) (fun e => ?_)
          · exact h.1 e (by simp [okK, okItem, hk])
          · exact h.2 e (by simp [okK, okItem, hk])
        · exact h.elim
      | .code (.block id c) :: k, k2 =>
        simp only [ex] at h
        exact fun hk => W0.block (h (by simpa [okK, okItem, okCode] using hk))
      | .inBlock id :: k, k2 =>
        simp only [ex] at h
        exact fun hk => W0.inBlock (ih none _ k2 tm hp h (by simpa [okK, okItem] using hk))
      | .code (.exit id) :: k, k2 =>
        simp only [ex] at h
        have he := exitTo_append id k k2
        split at h
        · rename_i k' hk'
          rw [hk'] at he
          exact fun hk => W0.exit he (ih none _ k2 tm hp h (okK_exit (by simp only [List.cons_append, okK, Bool.and_eq_true] at hk; exact hk.2) he))
        · rename_i hk'
          rw [hk'] at he
          dsimp only at he
          obtain ⟨k', hk2, h⟩ := h
          rw [hk2] at he
          exact fun hk => W0.exit he (h (okK_exit (by simp only [List.cons_append, okK, Bool.and_eq_true] at hk; exact hk.2) he))
      | .code .ret :: k, k2 =>
        simp only [ex, hold] at h
        exact fun _ => W0.ret h
      | .code (.region id ops d) :: k, k2 =>
        simp only [ex] at h
        cases hg : (d || hasG ops.toList) with
        | true => rw [hg] at h; exact h
        | false => rw [hg] at h; exact W.reg (.inl (by simp only [Bool.or_eq_false_iff] at hg; exact hg.1)) (ih (some (d, ops.toList, ops.toList)) k k2 tm hp h)
      | .code (.loop c) :: k, k2 =>
        simp only [ex, hold] at h
        exact fun hk => W0.loop (h (by simp_all [okK, okItem, okCode]))
      | .inLoop c :: k, k2 =>
        simp only [ex, hold] at h
        exact fun hk => W0.inLoop (h (by simp_all [okK, okItem, okCode]))
      | .code (.rangeFunc _ _ _ _) :: k, k2 | .code (.scope _) :: k, k2 | .code (.label _) :: k, k2 | .code (.goto _) :: k, k2 | .code (.refuse _) :: k, k2 | .inScope _ :: k, k2 | .inRegion _ _ :: k, k2 | .inRangeFunc _ :: k, k2 | .endRangeFunc _ :: k, k2 | .beginRound :: k, k2 => simp only [ex, hold] at h
end
end Go.Av

