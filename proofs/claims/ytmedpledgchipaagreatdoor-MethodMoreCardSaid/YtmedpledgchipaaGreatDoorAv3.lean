import Derived.Test.YtmedpledgchipaaGreatDoorAv2
set_option linter.unusedSectionVars false
set_option linter.unusedVariables false
set_option linter.unusedSimpArgs false
set_option linter.unnecessarySimpa false
namespace Go.Av
open Go
section
variable {P : Program} {all : List Oper} {dst : Option Nat} {ty : TypeId} {pos : String} {after : Array Edge} {gd : Option (Nat × Bool)} {tm : List AV} {hp : Heap} {g : Gh} {a : Array Value} {w : World}
theorem part_run {t : TypeId} {us : Array Value} {i : Nat} {u : Value} (hk : kindOf P t = 1 ∨ kindOf P t = 4 ∨ kindOf P t = 6) (h : us[i]? = some u) : (part t us i).run P w = .ok u w := by
  have hag : (isAgg t).run P w = .ok false w := by
    apply run_ag
    unfold aggOf
    unfold kindOf at hk
    cases hu : P.underlying t with
    | none => simp [hu] at hk
    | some d => cases d <;> simp_all
  simp [part, hag, h]
theorem eqs_kind {t : TypeId} {x y : AV} {u v : Value} {r : Bool} {d : Nat} (hx : VR g x u) (hy : VR g y v) (hr : eqs x y = some r) (hk : kindOf P t = 1 ∨ kindOf P t = 4 ∨ kindOf P t = 6) (hm : (kindOf P t = 1 ↔ ∃ s, x = .str s) ∧ (kindOf P t = 4 ↔ ∃ k n, x = .int k n)) :
  (Op.equalIn (d + 1) t u v).run P w = .ok r w := by
 rcases hk with hk | hk | hk
 ·exact eqs_run hx hy hr (.inl ⟨hk, hm.1.1 hk⟩)
 ·exact eqs_run hx hy hr (.inr (.inl ⟨hk, hm.2.1 hk⟩))
 ·refine eqs_run hx hy hr (.inr (.inr ⟨hk, ?_⟩))
  cases x with
  | bool b => exact ⟨b, rfl⟩
  | str s => have := hm.1.2 ⟨s, rfl⟩; omega
  | int k n => have := hm.2.2 ⟨k, n, rfl⟩; omega
  | _ => simp [eqs] at hr
theorem eqF_run (d : Nat) (us vs : Array Value) : ∀ (fs : List Field) (i : Nat) (xs ys : List AV) (r : Bool), (fs.zipIdx i).all (flatF P) = true → kindsOk (fs.map fun f => kindOf P f.type) xs = true → xs.length = ys.length →
    (∀ (j : Nat) (x : AV), xs[j]? = some x → ∃ u, us[i + j]? = some u ∧ VR g x u) → (∀ (j : Nat) (y : AV), ys[j]? = some y → ∃ v, vs[i + j]? = some v ∧ VR g y v) → eql_ xs ys = some r →
    (Op.eqFields (d + 1) us vs fs).run P w = .ok r w
  | [], i, [], ys, r, _, _, hl, _, _, hr => by
    cases ys with
    | nil => simp [eql_] at hr; subst hr; simp [Op.eqFields]
    | cons y ys => simp at hl
  | [], i, x :: xs, ys, r, _, hk, _, _, _, _ => by simp [kindsOk] at hk
  | f :: fs, i, [], ys, r, _, hk, _, _, _, _ => by simp [kindsOk] at hk
  | f :: fs, i, x :: xs, [], r, _, _, hl, _, _, _ => by simp at hl
  | f :: fs, i, x :: xs, y :: ys, r, hf, hk, hl, hx, hy, hr => by
    simp only [List.zipIdx_cons, List.all_cons, Bool.and_eq_true, flatF, beq_iff_eq, Bool.or_eq_true, bne_iff_ne, ne_eq] at hf
    obtain ⟨⟨⟨⟨h1, h2⟩, h3⟩, h4⟩, h5⟩ := hf
    simp only [kindsOk, List.map_cons, Bool.and_eq_true] at hk
    obtain ⟨k1, k2⟩ := hk
    obtain ⟨u, hu, hxu⟩ := hx 0 x rfl
    obtain ⟨v, hv, hyv⟩ := hy 0 y rfl
    have h4' : kindOf P f.type = 1 ∨ kindOf P f.type = 4 ∨ kindOf P f.type = 6 := by rcases h4 with (h4 | h4) | h4 <;> simp [h4]
    have hm : (kindOf P f.type = 1 ↔ ∃ s, x = .str s) ∧ (kindOf P f.type = 4 ↔ ∃ k n, x = .int k n) := by
      cases x <;> simp_all
    have hp1 := part_run (w := w) h4' (show us[f.offset]? = some u by rw [h2]; simpa using hu)
    have hp2 := part_run (w := w) h4' (show vs[f.offset]? = some v by rw [h2]; simpa using hv)
    have hrec : ∀ b, eqs x y = some b → (Op.equalIn (d + 1) f.type u v).run P w = .ok b w := fun b hb => eqs_kind hxu hyv hb h4' hm
    have hrest : ∀ b, eql_ xs ys = some b → (Op.eqFields (d + 1) us vs fs).run P w = .ok b w := fun b hb => by
      refine eqF_run d us vs fs (i + 1) xs ys b h5 k2 (by simpa using hl) (fun j z hz => ?_) (fun j z hz => ?_) hb
      · obtain ⟨q, a1, a2⟩ := hx (j + 1) z (by simpa using hz); exact ⟨q, by rw [show i + 1 + j = i + (j + 1) by omega]; exact a1, a2⟩
      · obtain ⟨q, a1, a2⟩ := hy (j + 1) z (by simpa using hz); exact ⟨q, by rw [show i + 1 + j = i + (j + 1) by omega]; exact a1, a2⟩
    have hboth : ∀ b c, eqs x y = some b → eql_ xs ys = some c → (Op.eqFields (d + 1) us vs (f :: fs)).run P w = .ok (b && c) w := by
      intro b c hb hc
      simp only [Op.eqFields, h1, not_false_eq_true, if_true, ne_eq, Sem.run_bind, hp1, Result.andThen_ok, hp2, hrec b hb, Sem.run_ite, hrest c hc, Sem.run_pure]
      cases b <;> simp
    cases xs with
    | nil =>
      cases ys with
      | nil =>
        have := hboth r true (by simpa [eql_] using hr) rfl
        simpa using this
      | cons y' ys => simp at hl
    | cons x' xs =>
      cases ys with
      | nil => simp at hl
      | cons y' ys =>
        simp only [eql_] at hr
        split at hr
        · rename_i b c hb hc
          cases hr
          exact hboth b c hb hc
        · cases hr
theorem binv_agg {op : BinOp} {t : TypeId} {xs ys : List AV} (hk : known (binv P op t (.agg xs) (.agg ys)) = true) : (∃ l, flatSt P t = some l ∧ kindsOk l xs = true ∧ xs.length = ys.length) ∧
  binv P op t (.agg xs) (.agg ys) = eqop op (eql_ xs ys) := by
 have hfl : ∃ l, flatSt P t = some l ∧ kindsOk l xs = true ∧ xs.length = ys.length := by
  simp only [binv] at hk
  cases hf : flatSt P t with
  | none => simp [hf, known] at hk
  | some l =>
   refine ⟨l, rfl, ?_⟩
   cases hq : (kindsOk l xs && (xs.length == ys.length)) with
   | true => simpa using hq
   | false => simp [hf, hq, known] at hk
 obtain ⟨l, hf, hko, hlen⟩ := hfl
 exact ⟨⟨l, hf, hko, hlen⟩, by simp only [binv, hf, hko, hlen, BEq.rfl, Bool.and_self, cond_true]⟩
theorem op_agg {op : BinOp} {t : TypeId} {x y : Operand} {t2 : TypeId} {xs ys : List AV} (h : Rel g tm hp a w) (hx : VR g (.agg xs) (Act.eval ⟨a, []⟩ x)) (hy : VR g (.agg ys) (Act.eval ⟨a, []⟩ y))
  (hk : known (binv P op t (.agg xs) (.agg ys)) = true) {m : MR} (hm : m.v = binv P op t (.agg xs) (.agg ys) ∧ m.tm = tm ∧ m.hp = hp) :
  OpOk P ⟨dst, .binOp op t x y t2, ty, pos, after, gd⟩ m hp g a w := by
 obtain ⟨m1, m2, m3⟩ := hm
 obtain ⟨us, e1, h1, h2⟩ := agg_inv hx
 obtain ⟨vs, e2, h3, h4⟩ := agg_inv hy
 obtain ⟨⟨l, hf, hko, hlen⟩, hbv⟩ := binv_agg hk
 unfold flatSt at hf
 split at hf
 ·rename_i fs hu
  split at hf
  ·rename_i hcs
   cases hf
   simp only [Bool.and_eq_true, Bool.not_eq_true'] at hcs
   obtain ⟨⟨c1, c2⟩, c3⟩ := hcs
   have hfo : P.fieldsOf t = fs := by unfold Program.fieldsOf; simp [hu]
   have hg := run_eqGuard_agg (P := P) w op t x y us vs c3
   have hrun : ∀ r, eql_ xs ys = some r → (Op.equalIn 10000 t (.agg us) (.agg vs)).run P w = .ok r w := fun r hr => by
    rw [show (10000 : Nat) = 9998 + 1 + 1 from rfl, run_equalIn_agg (P := P) w (9998 + 1) t us vs (by rw [hfo]; exact hu) c2, hfo]
    exact eqF_run (P := P) (g := g) (w := w) 9998 us vs fs.toList 0 xs ys r c1 hko hlen (fun j x hj => by
     have hjl : j < us.size := by rw [← h1]; exact (List.getElem?_eq_some_iff.1 hj).1
     exact ⟨us[j], by simp [hjl], h2 j x _ hj (Array.getElem?_eq_getElem hjl)⟩) (fun j x hj => by
     have hjl : j < vs.size := by rw [← h3]; exact (List.getElem?_eq_some_iff.1 hj).1
     exact ⟨vs[j], by simp [hjl], h4 j x _ hj (Array.getElem?_eq_getElem hjl)⟩) hr
   cases op with
   | eql =>
    rw [hbv] at hk m1
    cases hr : eql_ xs ys with
    | none => simp [hr, eqop, obool, known] at hk
    | some r =>
     refine OpOk.pure h (.bool r) m2 m3 ?_ (by rw [m1, hr]; exact .bool) (fun k => Tail.meek (by rw [m1, hr]; intro l; simp [eqop, obool]))
     simp [execOp, e1, e2, hg, binOp, Op.equal, Op.maxDepth, hrun r hr]
   | neq =>
    rw [hbv] at hk m1
    cases hr : eql_ xs ys with
    | none => simp [hr, eqop, obool, neg, known] at hk
    | some r =>
     refine OpOk.pure h (.bool (!r)) m2 m3 ?_ (by rw [m1, hr]; exact .bool) (fun k => Tail.meek (by rw [m1, hr]; intro l; simp [eqop, obool, neg]))
     simp [execOp, e1, e2, hg, binOp, Op.equal, Op.maxDepth, hrun r hr]
   | _ => rw [hbv] at hk; simp [eqop, known] at hk
  ·cases hf
 ·cases hf
theorem kind3 {t : TypeId} (h : kindOf P t = 3) : ∃ ms, P.underlying t = some (.interface ms) := by unfold kindOf at h; split at h <;> simp_all
theorem kind5 {t : TypeId} (h : kindOf P t = 5) : ∃ ms, P.underlying t = some (.pointer ms) := by unfold kindOf at h; split at h <;> simp_all
theorem kind6 {t : TypeId} (h : kindOf P t = 6) : P.underlying t = some .bool := by unfold kindOf at h; split at h <;> simp_all
theorem kind8 {t : TypeId} (h : kindOf P t = 8) : ∃ a b c, P.underlying t = some (.func a b c) := by unfold kindOf at h; split at h <;> simp_all
theorem eqv_run {t : TypeId} {x y : AV} {u v : Value} {r : Bool} (hx : VR g x u) (hy : VR g y v) (hr : eqv (kindOf P t) x y = some r) :
    (∀ d, (Op.equalIn (d + 1) t u v).run P w = .ok r w) ∧ (binOp .eql t u v = do pure (.bool (← Op.equal t u v))) ∧ (binOp .neq t u v = do pure (.bool (!(← Op.equal t u v)))) ∧ (∀ c d, ¬ (u = .agg c ∧ v = .agg d)) ∧ (u = .nilIface ∧ v = .nilIface → x = .nilI ∧ y = .nilI) := by
  unfold eqv at hr
  split at hr
  · rename_i hk
    obtain ⟨ms, hu⟩ := kind3 hk
    split at hr <;> cases hr <;> cases hx <;> cases hy <;> refine ⟨fun d => ?_, rfl, rfl, by simp, by simp⟩ <;> simp [Op.equalIn, run_underlying hu]
  · rename_i hk
    obtain ⟨ms, hu⟩ := kind5 hk
    split at hr <;> cases hr <;> cases hx <;> cases hy <;> refine ⟨fun d => ?_, rfl, rfl, by simp, by simp⟩ <;> simp [Op.equalIn, run_underlying hu]
  · rename_i hk
    have hu := kind6 hk
    split at hr <;> cases hr <;> cases hx <;> cases hy <;> refine ⟨fun d => ?_, rfl, rfl, by simp, by simp⟩ <;> simp [Op.equalIn, run_underlying hu]
  · rename_i hk
    obtain ⟨_, _, _, hu⟩ := kind8 hk
    split at hr <;> cases hr <;> cases hx <;> cases hy <;> refine ⟨fun d => ?_, rfl, rfl, by simp, by simp⟩ <;> simp [Op.equalIn, run_underlying hu]
  · cases hr
theorem binv_other {op : BinOp} {t : TypeId} {x y : AV} (h1 : ∀ k n k' n', ¬ (x = .int k n ∧ y = .int k' n')) (h2 : ∀ s s', ¬ (x = .str s ∧ y = .str s')) (h3 : ∀ s s', ¬ (x = .agg s ∧ y = .agg s')) :
  binv P op t x y = eqop op (eqv (kindOf P t) x y) := by
 unfold binv
 split
 ·exact absurd ⟨rfl, rfl⟩ (h1 _ _ _ _)
 ·exact absurd ⟨rfl, rfl⟩ (h2 _ _)
 ·exact absurd ⟨rfl, rfl⟩ (h3 _ _)
 ·rfl
theorem op_other {op : BinOp} {t : TypeId} {x y : Operand} {t2 : TypeId} (h : Rel g tm hp a w) (hx : VR g (opv tm x) (Act.eval ⟨a, []⟩ x)) (hy : VR g (opv tm y) (Act.eval ⟨a, []⟩ y))
  (h1 : ∀ k n k' n', ¬ (opv tm x = .int k n ∧ opv tm y = .int k' n')) (h2 : ∀ s s', ¬ (opv tm x = .str s ∧ opv tm y = .str s')) (h3 : ∀ s s', ¬ (opv tm x = .agg s ∧ opv tm y = .agg s'))
  (hk : known (binv P op t (opv tm x) (opv tm y)) = true) (hn : nilOk x y (opv tm x) (opv tm y) = true) {m : MR} (hm : m.v = binv P op t (opv tm x) (opv tm y) ∧ m.tm = tm ∧ m.hp = hp) :
  OpOk P ⟨dst, .binOp op t x y t2, ty, pos, after, gd⟩ m hp g a w := by
 obtain ⟨m1, m2, m3⟩ := hm
 rw [binv_other h1 h2 h3] at hk m1
 have key : ∀ r, eqv (kindOf P t) (opv tm x) (opv tm y) = some r → (eqGuard op t x y (Act.eval ⟨a, []⟩ x) (Act.eval ⟨a, []⟩ y)).run P w = .ok () w := fun r hr => by
  obtain ⟨_, _, _, e4, e5⟩ := eqv_run (P := P) (w := w) hx hy hr
  by_cases hnn : Act.eval ⟨a, []⟩ x = .nilIface ∧ Act.eval ⟨a, []⟩ y = .nilIface
  ·obtain ⟨q1, q2⟩ := e5 hnn
   rw [q1, q2] at hn
   rw [hnn.1, hnn.2]
   exact guard_nil hn
  ·exact guard_other hnn e4
 cases op with
 | eql =>
  cases hr : eqv (kindOf P t) (opv tm x) (opv tm y) with
  | none => simp [hr, eqop, obool, known] at hk
  | some r =>
   obtain ⟨e1, e2, e3, _, _⟩ := eqv_run (P := P) (w := w) hx hy hr
   refine OpOk.pure h (.bool r) m2 m3 ?_ (by rw [m1, hr]; exact .bool) (fun k => Tail.meek (by rw [m1, hr]; intro l; simp [eqop, obool]))
   have e1' := e1 9999
   simp only [execOp, Sem.run_bind, key r hr, Result.andThen_ok, e2, Op.equal, Op.maxDepth]
   simp [e1']
 | neq =>
  cases hr : eqv (kindOf P t) (opv tm x) (opv tm y) with
  | none => simp [hr, eqop, obool, neg, known] at hk
  | some r =>
   obtain ⟨e1, e2, e3, _, _⟩ := eqv_run (P := P) (w := w) hx hy hr
   refine OpOk.pure h (.bool (!r)) m2 m3 ?_ (by rw [m1, hr]; exact .bool) (fun k => Tail.meek (by rw [m1, hr]; intro l; simp [eqop, obool, neg]))
   have e1' := e1 9999
   simp only [execOp, Sem.run_bind, key r hr, Result.andThen_ok, e3, Op.equal, Op.maxDepth]
   simp [e1']
 | _ => simp [eqop, known] at hk
theorem op_binOp {op : BinOp} {t : TypeId} {x y : Operand} {t2 : TypeId} (h : Rel g tm hp a w) (hx : okOpd x = true) (hy : okOpd y = true) (hc : ∀ c', (opM P all ⟨dst, .binOp op t x y t2, ty, pos, after, gd⟩ tm hp).c = some c' → c') :
  OpOk P ⟨dst, .binOp op t x y t2, ty, pos, after, gd⟩ (opM P all ⟨dst, .binOp op t x y t2, ty, pos, after, gd⟩ tm hp) hp g a w := by
 have hv := opv_VR h hx
 have hv2 := opv_VR h hy
 simp only [opM] at *
 cases hk : (known (binv P op t (opv tm x) (opv tm y)) && nilOk x y (opv tm x) (opv tm y)) with
 | false => exact (hc False (by simp [hk])).elim
 | true =>
  have hc' : ∀ c, binc op (opv tm x) (opv tm y) = some c → c := fun c h => hc c (by simpa [hk] using h)
  simp only [Bool.and_eq_true] at hk
  by_cases h1 : ∃ k n k' n', opv tm x = .int k n ∧ opv tm y = .int k' n'
  ·obtain ⟨k, n, k', n', e1, e2⟩ := h1
   rw [e1] at hv; rw [e2] at hv2
   exact op_int h hv hv2 (by rw [← e1, ← e2]; exact hk.1) (by rw [← e1, ← e2]; exact hc') ⟨by rw [e1, e2], rfl, rfl⟩
  ·by_cases h2 : ∃ s s', opv tm x = .str s ∧ opv tm y = .str s'
   ·obtain ⟨s, s', e1, e2⟩ := h2
    rw [e1] at hv; rw [e2] at hv2
    exact op_str h hv hv2 (by rw [← e1, ← e2]; exact hk.1) (by rw [← e1, ← e2]; exact hc') ⟨by rw [e1, e2], rfl, rfl⟩
   ·by_cases h3 : ∃ s s', opv tm x = .agg s ∧ opv tm y = .agg s'
    ·obtain ⟨s, s', e1, e2⟩ := h3
     rw [e1] at hv; rw [e2] at hv2
     exact op_agg h hv hv2 (by rw [← e1, ← e2]; exact hk.1) ⟨by rw [e1, e2], rfl, rfl⟩
    ·exact op_other h hv hv2 (fun k n k' n' e => h1 ⟨k, n, k', n', e⟩) (fun s s' e => h2 ⟨s, s', e⟩) (fun s s' e => h3 ⟨s, s', e⟩) hk.1 hk.2 ⟨rfl, rfl, rfl⟩
end
end Go.Av

namespace Go.Av
open Go
def okOper (o : Oper) : Bool := o.op.operands.toList.all okOpd
section
variable {P : Program} {all : List Oper} {tm : List AV} {hp : Heap} {g : Gh} {a : Array Value} {w : World}
theorem opM_sound {o : Oper} (h : Rel g tm hp a w) (hok : okOper o = true) (hc : ∀ c', (opM P all o tm hp).c = some c' → c') : OpOk P o (opM P all o tm hp) hp g a w := by
 obtain ⟨dst, op, ty, pos, after, gd⟩ := o
 have hm : ∀ x, x ∈ op.operands → okOpd x = true := fun x hx => List.all_eq_true.1 hok x (by simpa using hx)
 clear hok
 cases op with
 | move x => exact op_move h (hm x (by simp [Op.operands]))
 | assign x => exact op_assign h (hm x (by simp [Op.operands]))
 | pick c x y => exact op_pick h (hm c (by simp [Op.operands])) (hm x (by simp [Op.operands])) (hm y (by simp [Op.operands])) hc
 | alloc t => exact op_alloc h hc
 | box t x => exact op_box h (hm x (by simp [Op.operands])) hc
 | build t ps => exact op_build h (fun p hp => hm p.2 (by simp only [Op.operands]; exact List.mem_toArray.2 (List.mem_map.2 ⟨p, hp, rfl⟩))) hc
 | buildSlice t n ps => exact op_buildSlice h (fun p hp => hm p.2 (by simp only [Op.operands]; exact List.mem_toArray.2 (List.mem_map.2 ⟨p, hp, rfl⟩))) hc
 | load t x => exact op_load h (hm x (by simp [Op.operands])) hc
 | store t x y => exact op_store h (hm x (by simp [Op.operands])) (hm y (by simp [Op.operands])) hc
 | nilCheck x => exact op_nilCheck h (hm x (by simp [Op.operands])) hc
 | binOp op t x y t2 => exact op_binOp h (hm x (by simp [Op.operands])) (hm y (by simp [Op.operands])) hc
 | unOp op t x => exact op_unOp h (hm x (by simp [Op.operands])) hc
 | convert s d x => exact op_convert h (hm x (by simp [Op.operands])) hc
 | makeInterface t x => exact op_makeInterface h (hm x (by simp [Op.operands])) hc
 | makeFunc f l1 l2 => exact op_makeFunc h (fun x hx => hm x (by simp [Op.operands, hx])) (fun x hx => hm x (by simp [Op.operands, hx]))
 | slice t x lo hi mx =>
  have hx := hm x (by simp [Op.operands])
  have hlo : ∀ z, lo = some z → okOpd z = true := fun z e => hm z (by subst e; simp [Op.operands])
  have hhi : ∀ z, hi = some z → okOpd z = true := fun z e => hm z (by subst e; simp [Op.operands])
  have hmx : ∀ z, mx = some z → okOpd z = true := fun z e => hm z (by subst e; simp [Op.operands])
  cases mx with
  | none => exact op_slice h hx hlo hhi hc
  | some m =>
   cases hi with
   | none => exact (hc False rfl).elim
   | some hi => exact op_slice3 h hx hlo (hhi hi rfl) (hmx m rfl) hc
 | fieldAddr t x f => exact op_fieldAddr h (hm x (by simp [Op.operands])) hc
 | field t x f => exact op_field h (hm x (by simp [Op.operands])) hc
 | indexAddr t x i => exact op_indexAddr h (hm x (by simp [Op.operands])) (hm i (by simp [Op.operands])) hc
 | index t x i => exact op_index h (hm x (by simp [Op.operands])) (hm i (by simp [Op.operands])) hc
 | extract x i => exact op_extract h (hm x (by simp [Op.operands])) hc
 | call c =>
  obtain ⟨callee, args, argTypes⟩ := c
  cases callee with
  | value f => exact (hc False rfl).elim
  | invoke r m => exact (hc False rfl).elim
  | builtin b =>
   have ha : ∀ x, x ∈ args.toList → okOpd x = true := fun x hx => hm x (by simp [Op.operands, Call.operands]; simpa using hx)
   simp only [opM] at hc ⊢
   split at hc
   ·rename_i x t e1 e2
    exact op_len h (ha x (by rw [e1]; simp)) rfl hc e1 e2
   ·rename_i x y t t2 r e1 e2
    split at hc
    ·rename_i e he
     cases hk : (kindOf P t2 == 1 || kindOf P t2 == 2) with
     | false => exact (hc False (by simp [hk])).elim
     | true =>
      exact op_append h (ha x (by rw [e1]; simp)) (ha y (by rw [e1]; simp)) he (hc _ (by simp [hk])) (by simpa using hk) e1 e2 ⟨rfl, rfl, rfl⟩
    ·exact (hc False rfl).elim
   ·rename_i x y e1
    exact op_min h (ha x (by rw [e1]; simp)) (ha y (by rw [e1]; simp)) rfl hc e1
   ·rename_i x y e1
    exact op_max h (ha x (by rw [e1]; simp)) (ha y (by rw [e1]; simp)) rfl hc e1
   ·exact (hc False rfl).elim
 | _ => exact (hc False rfl).elim
end
class Lay where
 L : Nat → Nat → Value → Prop
 S : Nat → Nat → Prop := fun _ _ => False   -- how many cells a variable has
 O : Nat → Obj → Prop := fun _ _ => False   -- what is no cells: an iterator
variable [Lay]
def SizeOk (w : World) (b n : Nat) : Prop := ∃ c e f, w.heap[b]? = some (Obj.cells c e f) ∧ c.size = n
def LayOk (g : Gh) (w : World) : Prop := (∀ b o v, Lay.L b o v → g.ow b o = .imm v) ∧ (∀ b n, Lay.S b n → SizeOk w b n) ∧ ∀ b o, Lay.O b o → w.heap[b]? = some o ∧ ∀ c e f, o ≠ Obj.cells c e f
theorem SizeOk.upd {g : Gh} {w w' : World} {b n : Nat} (h : SizeOk w b n) (hs : Upd g w w') : SizeOk w' b n := by
 obtain ⟨c, e, f, h1, h2⟩ := h
 obtain ⟨c', f', q1, q2, _⟩ := hs.cells b c e f h1
 exact ⟨c', e, f', q1, q2.trans h2⟩
theorem LayOk.stp {n : Nat} {g g' : Gh} {w w' : World} (h : LayOk g w) (hs : Stp n g w g' w') : LayOk g' w' := ⟨fun b o v hv => hs.imm _ _ _ (h.1 b o v hv), fun b n hn => (h.2.1 b n hn).upd hs.upd, fun b o ho => ⟨hs.upd.other b o (h.2.2 b o ho).1 (h.2.2 b o ho).2, (h.2.2 b o ho).2⟩⟩
structure Rt where
 R : List AV → Heap → Prop
 X : Nat → Prop := fun _ => False
instance : CoeFun Rt fun _ => List AV → Heap → Prop := ⟨Rt.R⟩
structure UpdX (X : Nat → Prop) (g : Gh) (w w' : World) : Prop where
 os : w'.os = w.os
 tape : w'.tape = w.tape
 output : w'.output = w.output
 size : w.heap.size ≤ w'.heap.size
 cells : ∀ (b : Nat) c e f, w.heap[b]? = some (Obj.cells c e f) → ∃ c' f', w'.heap[b]? = some (Obj.cells c' e f') ∧ c'.size = c.size ∧ (∀ o, (g.ow b o = .free ∨ ∃ v, g.ow b o = .imm v) → c'[o]? = c[o]?) ∧
  (g.fz b = none → f' = f) ∧ ∀ o, g.ow b o = .free → (decide (f'.1 ≤ o) && decide (o < f'.2)) = (decide (f.1 ≤ o) && decide (o < f.2))
 other : ∀ (b : Nat) o, ¬ X b → w.heap[b]? = some o → (∀ c e f, o ≠ Obj.cells c e f) → w'.heap[b]? = some o
structure StpX (X : Nat → Prop) (n : Nat) (g : Gh) (w : World) (g' : Gh) (w' : World) : Prop where
 imm : ∀ b o v, g.ow b o = .imm v → g'.ow b o = .imm v
 perm : ∀ b o, b < w.heap.size → g.ow b o = .free → g'.ow b o = .free
 loc : ∀ id l, id < n → g.loc id = some l → g'.loc id = some l
 upd : UpdX X g w w'
 fzm : ∀ b e, g.fz b = some e → g'.fz b = some e
 fzn : ∀ b, b < w.heap.size → g.fz b = none → g'.fz b = none
theorem Stp.x {X : Nat → Prop} {n : Nat} {g g' : Gh} {w w' : World} (h : Stp n g w g' w') : StpX X n g w g' w' :=
 ⟨h.imm, h.perm, h.loc, ⟨h.upd.os, h.upd.tape, h.upd.output, h.upd.size, h.upd.cells, fun b o _ h1 h2 => h.upd.other b o h1 h2⟩, h.fzm, h.fzn⟩
theorem StpX.strict {n : Nat} {g g' : Gh} {w w' : World} (h : StpX (fun _ => False) n g w g' w') : Stp n g w g' w' :=
 ⟨h.imm, h.perm, h.loc, ⟨h.upd.os, h.upd.tape, h.upd.output, h.upd.size, h.upd.cells, fun b o h1 h2 => h.upd.other b o (fun h => h) h1 h2⟩, h.fzm, h.fzn⟩
theorem StpX.trans {X : Nat → Prop} {n : Nat} {g g1 g2 : Gh} {w w1 w2 : World} (h : StpX X n g w g1 w1) (k : StpX X n g1 w1 g2 w2) : StpX X n g w g2 w2 := by
 refine ⟨fun b o v hv => k.imm _ _ _ (h.imm _ _ _ hv), fun b o hb hv => k.perm _ _ (Nat.lt_of_lt_of_le hb h.upd.size) (h.perm _ _ hb hv), fun id l hi hl => k.loc _ _ hi (h.loc _ _ hi hl), ?_, fun b e he => k.fzm _ _ (h.fzm _ _ he), fun b hb hn => k.fzn _ (Nat.lt_of_lt_of_le hb h.upd.size) (h.fzn _ hb hn)⟩
 refine ⟨k.upd.os.trans h.upd.os, k.upd.tape.trans h.upd.tape, k.upd.output.trans h.upd.output, Nat.le_trans h.upd.size k.upd.size, ?_, ?_⟩
 ·intro b c e f hb
  have hlt : b < w.heap.size := by
   rcases Nat.lt_or_ge b w.heap.size with h' | h'
   ·exact h'
   ·simp [Array.getElem?_eq_none h'] at hb
  obtain ⟨c1, f1, h1, hs1, hc1, hf1, hg1⟩ := h.upd.cells b c e f hb
  obtain ⟨c2, f2, h2, hs2, hc2, hf2, hg2⟩ := k.upd.cells b c1 e f1 h1
  refine ⟨c2, f2, h2, hs2.trans hs1, fun o ho => ?_, fun hn => (hf2 (h.fzn _ hlt hn)).trans (hf1 hn), fun o ho => ?_⟩
  ·rw [hc2 o ?_, hc1 o ho]
   rcases ho with ho | ⟨v, ho⟩
   ·exact .inl (h.perm _ _ hlt ho)
   ·exact .inr ⟨v, h.imm _ _ _ ho⟩
  ·rw [hg2 o (h.perm _ _ hlt ho), hg1 o ho]
 ·intro b o hx hb hn
  exact k.upd.other b o hx (h.upd.other b o hx hb hn) hn
def W0 (P : Program) (nb : Nat) (R : Rt) (k : List Item) (tm : List AV) (hp : Heap) : Prop :=
 ∀ (g : Gh) (a : Array Value) (w : World) (b : Frame) (cs : List Frame), LayOk g w → Rel g tm hp a w → nb ≤ hp.length →
  ∃ a' w' g' tm' hp' todo, Steps P (lone (b.at ⟨a, []⟩ k) cs w) (lone { b.at ⟨a', []⟩ todo with mode := .returning } cs w') ∧ Rel g' tm' hp' a' w' ∧ StpX R.X nb g w g' w' ∧ nb ≤ hp'.length ∧ R tm' hp'
theorem Stp.mono {n m : Nat} {g g' : Gh} {w w' : World} (h : Stp m g w g' w') (hn : n ≤ m) : Stp n g w g' w' :=
 ⟨h.imm, h.perm, fun id l hi hl => h.loc id l (Nat.lt_of_lt_of_le hi hn) hl, h.upd, h.fzm, h.fzn⟩
section
variable {P : Program} {nb : Nat} {R : Rt} {k : List Item} {tm : List AV} {hp : Heap}
theorem W0.ret {k' : List Item} (h : R tm hp) : W0 P nb R (.code .ret :: k') tm hp :=
 fun g a w b cs hL hr hn => ⟨a, w, g, tm, hp, _, .one step_ret, hr, (Stp.refl _ _ _).x, hn, h⟩
theorem W0.end_ (h : R tm hp) : W0 P nb R [] tm hp :=
 fun g a w b cs hL hr hn => ⟨a, w, g, tm, hp, _, .one step_end, hr, (Stp.refl _ _ _).x, hn, h⟩
theorem W0.step {k' : List Item} (hs : ∀ (a : Act) (b : Frame) (cs : List Frame) (w : World), step P (lone (b.at a k) cs w) = .next (lone (b.at a k') cs w)) (h : W0 P nb R k' tm hp) : W0 P nb R k tm hp :=
 fun g a w b cs hL hr hn =>
  let ⟨a', w', g', tm', hp', todo, h1, h2⟩ := h g a w b cs hL hr hn
  ⟨a', w', g', tm', hp', todo, .head (hs _ _ _ _) h1, h2⟩
theorem W0.skip (h : W0 P nb R k tm hp) : W0 P nb R (.code .skip :: k) tm hp := h.step fun _ _ _ _ => step_skip
theorem W0.seq {x y : Code} (h : W0 P nb R (.code x :: .code y :: k) tm hp) : W0 P nb R (.code (.seq x y) :: k) tm hp := h.step fun _ _ _ _ => step_seq
theorem W0.block {id : Nat} {c : Code} (h : W0 P nb R (.code c :: .inBlock id :: k) tm hp) : W0 P nb R (.code (.block id c) :: k) tm hp := h.step fun _ _ _ _ => step_block
theorem W0.inBlock {id : Nat} (h : W0 P nb R k tm hp) : W0 P nb R (.inBlock id :: k) tm hp := h.step fun _ _ _ _ => step_inBlock
theorem W0.exit {id : Nat} {k' : List Item} (he : exitTo id k = some k') (h : W0 P nb R k' tm hp) : W0 P nb R (.code (.exit id) :: k) tm hp := h.step fun _ _ _ _ => step_exit he
theorem W0.loop {c : Code} (h : W0 P nb R (.code c :: .inLoop c :: k) tm hp) : W0 P nb R (.code (.loop c) :: k) tm hp := h.step fun _ _ _ _ => step_loop
theorem W0.inLoop {c : Code} (h : W0 P nb R (.code c :: .inLoop c :: k) tm hp) : W0 P nb R (.inLoop c :: k) tm hp := h.step fun _ _ _ _ => step_inLoop
theorem W0.region {id : Nat} {ops : Array Oper} (h : W0 P nb R (.inRegion ops (List.range ops.size) :: k) tm hp) : W0 P nb R (.code (.region id ops false) :: k) tm hp := h.step fun _ _ _ _ => step_region
theorem W0.regionEnd {ops : Array Oper} (h : W0 P nb R k tm hp) : W0 P nb R (.inRegion ops [] :: k) tm hp := h.step fun _ _ _ _ => step_region_end
theorem W0.cond {c : Operand} {x y : Code} {t : Bool} (hc : opv tm c = .bool t) (hok : okOpd c = true) (h1 : t = true → W0 P nb R (.code x :: k) tm hp) (h2 : t = false → W0 P nb R (.code y :: k) tm hp) : W0 P nb R (.code (.cond c x y) :: k) tm hp := by
 intro g a w b cs hL hr hn
 have hv := opv_VR hr hok
 rw [hc] at hv
 have he := bool_inv hv
 cases t with
 | true =>
  obtain ⟨a', w', g', tm', hp', todo, q1, q2⟩ := h1 rfl g a w b cs hL hr hn
  exact ⟨a', w', g', tm', hp', todo, .head (step_cond he) q1, q2⟩
 | false =>
  obtain ⟨a', w', g', tm', hp', todo, q1, q2⟩ := h2 rfl g a w b cs hL hr hn
  exact ⟨a', w', g', tm', hp', todo, .head (step_cond he) q1, q2⟩
end
section
variable {P : Program} {b : Frame} {a : Act} {k : List Item} {cs : List Frame} {w w' : World} {ops : Array Oper} {i : Nat} {rest : List Nat} {o : Oper}
theorem step_value {v : Value} (ho : ops[i]? = some o) (hw : Region.wanted o (yielded ops a.tmps) = true) (hr : (execOp a.eval o).run P w = .ok (.value v) w') :
  step P (lone (b.at a (.inRegion ops (i :: rest) :: k)) cs w) = .next (lone (b.at (a.put o.dst v) (.inRegion ops rest :: k)) cs w') := by
 have hg := stepG_op (P := P) (b := b) (k := k) (cs := cs) (w := w) (rest := rest) ho hw
 have hfin : (b.at a (.inRegion ops (i :: rest) :: k)).finish v = b.at (a.put o.dst v) (.inRegion ops rest :: k) := by rw [Frame.finish_at, ho]; rfl
 exact step_lone_go (by rw [hg, ← hfin]; simp [stepG.apply, hr])
theorem step_skipv (ho : ops[i]? = some o) (hw : Region.wanted o (yielded ops a.tmps) = true) (hr : (execOp a.eval o).run P w = .ok .skip w') :
  step P (lone (b.at a (.inRegion ops (i :: rest) :: k)) cs w) = .next (lone (b.at (a.put o.dst undef) (.inRegion ops rest :: k)) cs w') := by
 have hg := stepG_op (P := P) (b := b) (k := k) (cs := cs) (w := w) (rest := rest) ho hw
 have hfin : (b.at a (.inRegion ops (i :: rest) :: k)).finish undef = b.at (a.put o.dst undef) (.inRegion ops rest :: k) := by rw [Frame.finish_at, ho]; rfl
 exact step_lone_go (by rw [hg, ← hfin]; simp [stepG.apply, hr])
theorem step_unwanted (ho : ops[i]? = some o) (hw : Region.wanted o (yielded ops a.tmps) = false) :
  step P (lone (b.at a (.inRegion ops (i :: rest) :: k)) cs w) = .next (lone (b.at (a.put o.dst undef) (.inRegion ops rest :: k)) cs w) := by
 have := step_op_skip (P := P) (b := b) (a := a) (k := k) (cs := cs) (w := w) (ops := ops) (i := i) (rest := rest) (by simp [ho, hw])
 simpa [ho] using this
theorem steps_call {f : FuncId} {args : Array Value} {v : Value} {w1 w2 : World} (ho : ops[i]? = some o) (hw : Region.wanted o (yielded ops a.tmps) = true) (hr : (execOp a.eval o).run P w = .ok (.enter f args) w1) {Q : Ending → World → Prop}
  (hc : Calls P f args w1 Q) (hq : ∀ e w', Q e w' → ∃ v, e = .returned v) : ∃ v w', Q (.returned v) w' ∧ Steps P (lone (b.at a (.inRegion ops (i :: rest) :: k)) cs w) (lone (b.at (a.put o.dst v) (.inRegion ops rest :: k)) cs w') := by
 have hg := stepG_op (P := P) (b := b) (k := k) (cs := cs) (w := w) (rest := rest) ho hw
 obtain ⟨e, w'', fr, hR, hsteps, _, hleave⟩ := hc (b.at a (.inRegion ops (i :: rest) :: k) :: cs)
 obtain ⟨v, rfl⟩ := hq e w'' hR
 have henter : step P (lone (b.at a (.inRegion ops (i :: rest) :: k)) cs w) =
   .next (lone (Frame.enter P f args .normal) (b.at a (.inRegion ops (i :: rest) :: k) :: cs) w1) :=
  step_lone_go (by rw [hg]; simp [stepG.apply, hr, Frame.at])
 refine ⟨v, w'', hR, .head henter (Steps.trans hsteps (.one ?_))⟩
 have hfin : (b.at a (.inRegion ops (i :: rest) :: k)).finish v = b.at (a.put o.dst v) (.inRegion ops rest :: k) := by rw [Frame.finish_at, ho]; rfl
 rw [← hfin]; exact step_leave_returned hleave
end
end Go.Av

namespace Go.Av
open Go
def resOne (P : Program) (tm : List AV) (hp : Heap) : ResultVar → Option AV
 | .tmp t => some (fix (lget tm t))
 | .cell x t => match szOf P t, aggOf P t, lget tm x with
  | some sz, some true, .ptr id off => bif decide (off + sz ≤ (hget hp id).length) then some (.agg ((ltake sz (ldrop off (hget hp id))).map fix)) else none
  | some _, some false, .ptr id off => bif decide (off < (hget hp id).length) then some (fix (lget (hget hp id) off)) else none
  | _, _, _ => none
def resAll (P : Program) (tm : List AV) (hp : Heap) : List ResultVar → Option (List AV)
 | [] => some []
 | r :: rs => match resOne P tm hp r, resAll P tm hp rs with
  | some v, some l => some (v :: l)
  | _, _ => none
def resAV (P : Program) (rs : List ResultVar) (tm : List AV) (hp : Heap) : Option AV :=
 match resAll P tm hp rs with
 | some [v] => some v
 | some l => some (.tup l)
 | none => none
theorem run_mapM_at {α β : Type} {P : Program} (f : α → Sem β) (r : α → β) (w : World) : ∀ (l : List α), (∀ x, x ∈ l → (f x).run P w = .ok (r x) w) → (l.mapM f).run P w = .ok (l.map r) w
 | [], h => by simp
 | x :: l, h => by
  have ih := run_mapM_at f r w l (fun y hy => h y (by simp [hy]))
  simp [List.mapM_cons, h x (by simp), ih]
section
variable {P : Program} {tm : List AV} {hp : Heap} {g : Gh} {a : Array Value} {w : World}
theorem resOne_run (h : Rel g tm hp a w) {r : ResultVar} {v : AV} (hr : resOne P tm hp r = some v) :
  ∃ u, ((match r with | .tmp t => pure (a.getD t undef) | .cell x t => do loadVar t (← asAddr (a.getD x undef))) : Sem Value).run P w = .ok u w ∧ VR g v u ∧ Meek v := by
 cases r with
 | tmp t =>
  simp only [resOne, Option.some.injEq] at hr
  subst hr
  exact ⟨_, rfl, (h.slots t).1.fix, meek_fix _⟩
 | cell x t =>
  simp only [resOne] at hr
  have hv := (h.slots x).1
  split at hr
  ·rename_i sz id off h1 h2 h3
   cases hk : decide (off + sz ≤ (hget hp id).length) with
   | false => simp [hk] at hr
   | true =>
    simp only [hk, cond_true, Option.some.injEq] at hr
    simp only [decide_eq_true_eq] at hk
    subst hr
    rw [h3] at hv
    obtain ⟨b, base, c, hloc, hve⟩ := ptr_inv hv
    have hcell : ∀ j, j < sz → w.cell? ⟨b, base + off + j, none⟩ = some ((w.cell? ⟨b, base + off + j, none⟩).getD undef) := fun j hj => by
     obtain ⟨v, e, _, _⟩ := h.cellAt (off := off + j) (by omega) hloc
     rw [← Nat.add_assoc] at e; simp [e]
    have hrun := run_loadAgg (P := P) (b := b) (o := base + off) h1 h2 (fun j => (w.cell? ⟨b, base + off + j, none⟩).getD undef) hcell
    refine ⟨_, ?_, vr_agg_take (off := off) hk (f := fun j => (w.cell? ⟨b, base + off + j, none⟩).getD undef) (fun j x hx h1 h2 => ?_), by intro l; simp⟩
    ·simp [hve, asAddr, hrun]
    ·obtain ⟨v, e1, e2, _⟩ := h.cellAt (off := j) (by omega) hloc
     rw [lget_eq] at e2
     simp [List.getD_eq_getElem?_getD, hx] at e2
     rw [show base + off + (j - off) = base + j by omega]; simp [e1]; exact e2
  ·rename_i sz id off h1 h2 h3
   cases hk : decide (off < (hget hp id).length) with
   | false => simp [hk] at hr
   | true =>
    simp only [hk, cond_true, Option.some.injEq] at hr
    simp only [decide_eq_true_eq] at hk
    subst hr
    rw [h3] at hv
    obtain ⟨b, base, c, hloc, hve⟩ := ptr_inv hv
    obtain ⟨v, e1, e2, _⟩ := h.cellAt hk hloc
    exact ⟨v, by simp [hve, asAddr, run_loadOne (P := P) h2 e1], e2.fix, meek_fix _⟩
  ·cases hr
theorem resAll_get {rs : List ResultVar} {l : List AV} (h : resAll P tm hp rs = some l) : l.length = rs.length ∧ ∀ (j : Nat) r, rs[j]? = some r → ∃ v, l[j]? = some v ∧ resOne P tm hp r = some v := by
 induction rs generalizing l with
 | nil => simp [resAll] at h; subst h; exact ⟨rfl, fun j r hr => by simp at hr⟩
 | cons r rs ih =>
  simp only [resAll] at h
  split at h
  ·rename_i v l' hv hl'
   cases h
   obtain ⟨e1, e2⟩ := ih hl'
   refine ⟨by simp [e1], fun j r' hr' => ?_⟩
   cases j with
   | zero => simp at hr'; subst hr'; exact ⟨v, rfl, hv⟩
   | succ j => obtain ⟨v', a1, a2⟩ := e2 j r' (by simpa using hr'); exact ⟨v', by simpa using a1, a2⟩
  ·cases h
theorem results_sound (h : Rel g tm hp a w) {fn : Func} {r : AV} (hr : resAV P fn.results.toList tm hp = some r) : ∃ v, (results fn a).run P w = .ok v w ∧ VR g r v ∧ Meek r := by
  classical
  unfold resAV at hr
  have hall : ∃ l, resAll P tm hp fn.results.toList = some l := by split at hr <;> first | exact ⟨_, by assumption⟩ | cases hr
  obtain ⟨l, hl⟩ := hall
  obtain ⟨h1, h2⟩ := resAll_get hl
  let val : ResultVar → Value := fun r => match ((match r with | .tmp t => pure (a.getD t undef) | .cell x t => do loadVar t (← asAddr (a.getD x undef))) : Sem Value).run P w with | .ok u _ => u | _ => undef
  have hval : ∀ r v, resOne P tm hp r = some v → ((match r with | .tmp t => pure (a.getD t undef) | .cell x t => do loadVar t (← asAddr (a.getD x undef))) : Sem Value).run P w = .ok (val r) w ∧ VR g v (val r) ∧ Meek v := fun r v hv => by
    obtain ⟨u, e1, e2, e3⟩ := resOne_run (P := P) h hv
    have : val r = u := by simp only [val, e1]
    rw [this]; exact ⟨e1, e2, e3⟩
  have hm := run_mapM_at (P := P) (fun r => ((match r with | .tmp t => pure (a.getD t undef) | .cell x t => do loadVar t (← asAddr (a.getD x undef))) : Sem Value)) val w fn.results.toList (fun r hr => by
    obtain ⟨j, hj⟩ := List.getElem?_of_mem hr
    obtain ⟨v, _, hv⟩ := h2 j r hj
    exact (hval r v hv).1)
  have hma : (fn.results.mapM (fun r => ((match r with | .tmp t => pure (a.getD t undef) | .cell x t => do loadVar t (← asAddr (a.getD x undef))) : Sem Value))).run P w = .ok (fn.results.toList.map val).toArray w := by
    rw [← Array.toArray_toList (xs := fn.results), List.mapM_toArray]
    simp only [Sem.run_map, hm, Result.andThen_ok]
  have hrun : (results fn a).run P w = .ok (if h : (fn.results.toList.map val).toArray.size = 1 then (fn.results.toList.map val).toArray[0] else .tuple (fn.results.toList.map val).toArray) w := by
    unfold results
    simp only [Sem.run_bind]
    exact (congrArg (fun r => Result.andThen r _) hma).trans rfl
  have hpt : ∀ (j : Nat) (v : AV), l[j]? = some v → ∃ r, fn.results.toList[j]? = some r ∧ VR g v (val r) ∧ Meek v := fun j v hj => by
    have hjl : j < fn.results.toList.length := by rw [← h1]; exact (List.getElem?_eq_some_iff.1 hj).1
    obtain ⟨v', e1, e2⟩ := h2 j _ (List.getElem?_eq_getElem hjl)
    rw [hj] at e1; cases e1
    exact ⟨_, List.getElem?_eq_getElem hjl, (hval _ _ e2).2⟩
  refine ⟨_, hrun, ?_⟩
  rw [hl] at hr
  split at hr
  · rename_i v hv
    cases hv; cases hr
    have hlen : fn.results.toList.length = 1 := by rw [← h1]; rfl
    rw [dif_pos (by simpa using hlen)]
    obtain ⟨r, e1, e2, e3⟩ := hpt 0 _ rfl
    refine ⟨?_, e3⟩
    have : (fn.results.toList.map val).toArray[0]'(by simp at hlen ⊢; omega) = val r := by
      simp only [List.getElem_toArray, List.getElem_map]
      have := (List.getElem?_eq_some_iff.1 e1).2
      rw [this]
    rw [this]; exact e2
  · rename_i l' hne hv
    cases hv; cases hr
    have hlen : ¬ fn.results.toList.length = 1 := by
      rw [← h1]
      intro e
      obtain ⟨x, hx⟩ := List.length_eq_one_iff.1 e
      exact hne x (by rw [hx])
    rw [dif_neg (by simpa using hlen)]
    refine ⟨.tup (by simp [h1]) (fun j av v hj hv => ?_), by intro l; simp⟩
    obtain ⟨r, e1, e2, _⟩ := hpt j av hj
    rw [List.getElem?_toArray, List.getElem?_map, e1] at hv
    cases hv; exact e2
  · rename_i hv; cases hv
end
end Go.Av

namespace Go.Av
open Go
variable [Lay]
mutual
def wfA : AV → Prop
 | .int k n => k.min ≤ n ∧ n ≤ k.max
 | .str s => s.length ≤ maxB
 | .sl _ l => l.length ≤ maxB ∧ wfAL l
 | .agg cs => wfAL cs
 | .tup cs => wfAL cs
 | .iface _ v => wfA v
 | _ => True
def wfAL : List AV → Prop
 | [] => True
 | x :: xs => wfA x ∧ wfAL xs
end
theorem wfAL_of {l : List AV} (h : ∀ x, x ∈ l → wfA x) : wfAL l := by
 induction l with
 | nil => simp [wfAL]
 | cons x l ih => exact ⟨h x (by simp), ih fun y hy => h y (by simp [hy])⟩
theorem VR.wf {g : Gh} {av : AV} {v : Value} (h : VR g av v) : wfA av := by
 induction h with
 | int h1 h2 => exact ⟨h1, h2⟩
 | str h hb => exact hb
 | sl hl hc hb b o es vs ha hes h0 hn hi hv hq ih =>
  refine ⟨by omega, wfAL_of fun x hx => ?_⟩
  have hcell : ∀ c, c ∈ x.cells → wfA c := fun c hc => by
   obtain ⟨j, hj⟩ := List.getElem?_of_mem (List.mem_flatMap.2 ⟨x, hx, hc⟩)
   exact ih j c hj
  cases x with
  | agg cs => exact wfAL_of hcell
  | _ => exact hcell _ (by simp [AV.cells])
 | agg hs h ih =>
  rename_i cs vs
  refine wfAL_of fun x hx => ?_
  obtain ⟨j, hj⟩ := List.getElem?_of_mem hx
  have hjl : j < vs.size := by rw [← hs]; exact (List.getElem?_eq_some_iff.1 hj).1
  exact ih j x _ hj (Array.getElem?_eq_getElem hjl)
 | tup hs h ih =>
  rename_i cs vs
  refine wfAL_of fun x hx => ?_
  obtain ⟨j, hj⟩ := List.getElem?_of_mem hx
  have hjl : j < vs.size := by rw [← hs]; exact (List.getElem?_eq_some_iff.1 hj).1
  exact ih j x _ hj (Array.getElem?_eq_getElem hjl)
 | iface h ih => exact ih
 | _ => trivial
def Gh.trunc (g : Gh) (n : Nat) (ks : Bool) : Gh where
 ow := fun b o => match g.ow b o with
  | .blk id => if id < n then .blk id else .free
  | .cell id off => if id < n then .cell id off else .free
  | .slot i => if ks then .slot i else .free
  | .imm v => .imm v
  | .free => .free
 loc := fun id => if id < n then g.loc id else none
 fz := g.fz
section
variable {g : Gh} {tm : List AV} {hp : Heap} {a : Array Value} {w : World}
theorem trunc_imm {n : Nat} {ks : Bool} {b o : Nat} {v : Value} : (g.trunc n ks).ow b o = .imm v ↔ g.ow b o = .imm v := by
  simp only [Gh.trunc]
  split <;> (try split) <;> simp_all
theorem Rel.drop (h : Rel g tm hp a w) (n : Nat) (ks : Bool) {tm2 : List AV} {a2 : Array Value} (hsz : tm2.length ≤ a2.size) (hc : ∀ (id : Nat) cs, id < n → hp[id]? = some (some cs) → ltRL n cs = true)
  (ht : ∀ t, VR g (lget tm2 t) (a2.getD t undef) ∧ ltR n (lget tm2 t) = true ∧ (Meek (lget tm2 t) ∨ (ks = true ∧ Tail g (.slot t) (lget tm2 t) (a2.getD t undef)))) : Rel (g.trunc n ks) tm2 (hp.take n) a2 w := by
 have hm : ∀ {av v}, VR g av v → ltR n av = true → VR (g.trunc n ks) av v := fun hv hn => hv.lt (fun b o v hv => trunc_imm.2 hv) (fun id l hid hl => by simp only [Gh.trunc]; rw [if_pos hid]; exact hl) (fun _ _ h => h) hn
 have htl : ∀ {k : Owner} {av v}, (∀ b o, g.ow b o = k → (g.trunc n ks).ow b o = k) → Tail g k av v → Tail (g.trunc n ks) k av v := by
  intro k av v hk ht
  cases av with
  | sl own l =>
   cases own with
   | none => exact Tail.meek (by intro l; simp)
   | some oe =>
    cases v with
    | slice a' n' cap =>
     rcases ht with ht | ⟨h0, b, o, es, e1, e2, e3, e4, e5⟩
     ·exact .inl ht
     ·exact .inr ⟨h0, b, o, es, e1, e2, e3, fun j hj hj' => hk _ _ (e4 j hj hj'), e5⟩
    | _ => trivial
  | _ => exact Tail.meek (by intro l; simp)
 refine ⟨hsz, fun t => ⟨hm (ht t).1 (ht t).2.1, ?_⟩, fun id cs hcs => ?_, fun id hid => ?_, fun b o v hv => h.imms _ _ _ (trunc_imm.1 hv), fun b o hv => ?_, fzs_of h.fzs (fun b c e f h => ⟨c, h, rfl⟩) (fun b o v hv => trunc_imm.2 hv) rfl⟩
 ·rcases (ht t).2.2 with hmk | ⟨hks, htt⟩
  ·exact Tail.meek hmk
  ·exact htl (fun b o e => by simp only [Gh.trunc, e, hks, if_true]) htt
 ·have hlt : id < n := by
   have := (List.getElem?_eq_some_iff.1 hcs).1
   simp at this; omega
  have hcs' : hp[id]? = some (some cs) := by rwa [List.getElem?_take_of_lt hlt] at hcs
  obtain ⟨b, base, c, e1, e2, e3, e4⟩ := h.heap id cs hcs'
  refine ⟨b, base, c, by simp only [Gh.trunc]; rw [if_pos hlt]; exact e1, e2, fun j hj => by simp only [Gh.trunc, e3 j hj, hlt, if_true], fun j av hj => ?_⟩
  obtain ⟨v, a1, a2', a3⟩ := e4 j av hj
  exact ⟨v, a1, hm a2' (ltRL_mem (hc id cs hlt hcs') _ (List.mem_of_getElem? hj)), htl (fun b o e => by simp only [Gh.trunc, e, hlt, if_true]) a3⟩
 ·simp only [Gh.trunc]
  split
  ·rename_i hlt
   simp at hid
   exact h.locs id (by omega)
  ·rfl
 ·have hne : g.ow b o ≠ .free := by intro e; simp [Gh.trunc, e] at hv
  refine ⟨(h.owns b o hne).1, fun hi => (h.owns b o hne).2 fun v e => hi v (trunc_imm.2 e)⟩
theorem Stp.trunc {n : Nat} {ks : Bool} : Stp n g w (g.trunc n ks) w := by
 exact .of (fun b o v hv => trunc_imm.2 hv) (fun b o _ hv => by simp [Gh.trunc, hv]) (fun id l hid hl => by simp only [Gh.trunc]; rw [if_pos hid]; exact hl) (.refl _ _) rfl
end
def wk : List AV → List AV → Prop
 | [], _ => True
 | _ :: _, [] => False
 | .any :: l, _ :: l' => wk l l'
 | x :: l, y :: l' => x = y ∧ wk l l'
theorem wk_get : ∀ {l l' : List AV}, wk l l' → l.length ≤ l'.length ∧ ∀ t, lget l t = .any ∨ lget l t = lget l' t
  | [], _, _ => ⟨by simp, fun t => .inl rfl⟩
  | x :: l, [], h => by simp [wk] at h
  | x :: l, y :: l', h => by
    have h2 : wk l l' ∧ (x = .any ∨ x = y) := by
      cases x <;> simp_all [wk]
    obtain ⟨e1, e2⟩ := wk_get h2.1
    refine ⟨by simp; exact e1, fun t => ?_⟩
    cases t with
    | zero => exact h2.2.imp id id
    | succ t => exact e2 t
section
variable {P : Program} {nb : Nat} {R : Rt} {k : List Item} {tm tm2 : List AV} {hp : Heap}
theorem W0.less (n : Nat) (hn : nb ≤ n) (hn2 : n ≤ hp.length) (hw : wk tm2 tm) (hl : ltRL n tm2 = true) (hc : ∀ (id : Nat) cs, id < n → hp[id]? = some (some cs) → ltRL n cs = true) (h : W0 P nb R k tm2 (hp.take n)) : W0 P nb R k tm hp := by
 intro g a w b cs hL hr hnb
 obtain ⟨e1, e2⟩ := wk_get hw
 have hltg : ∀ t, ltR n (lget tm2 t) = true := fun t => by
  rcases Nat.lt_or_ge t tm2.length with h' | h'
  ·exact ltRL_mem hl _ (List.mem_of_getElem? (lget_some h'))
  ·rw [lget_ge h']; rfl
 have hd := hr.drop n true (tm2 := tm2) (a2 := a) (Nat.le_trans e1 hr.size) hc (fun t => by
  refine ⟨?_, hltg t, ?_⟩
  ·rcases e2 t with e | e
   ·rw [e]; exact .any _
   ·rw [e]; exact (hr.slots t).1
  ·rcases e2 t with e | e
   ·rw [e]; exact .inl (by intro l; simp)
   ·rw [e]; exact .inr ⟨rfl, (hr.slots t).2⟩)
 obtain ⟨a', w', g', tm', hp', todo, q1, q2, q3, q4⟩ := h _ a w b cs (hL.stp (Stp.trunc (n := n) (ks := true) (w := w))) hd (by simp; omega)
 exact ⟨a', w', g', tm', hp', todo, q1, q2, (Stp.trunc.mono hn).x.trans q3, q4⟩
theorem W0.same {tm2 : List AV} (hw : wk tm2 tm) (h : W0 P nb R k tm2 hp) : W0 P nb R k tm hp := by
 intro g a w b cs hL hr hnb
 obtain ⟨e1, e2⟩ := wk_get hw
 have hd : Rel g tm2 hp a w := ⟨Nat.le_trans e1 hr.size, fun t => by
  rcases e2 t with e | e
  ·rw [e]; exact ⟨.any _, Tail.meek (by intro l; simp)⟩
  ·rw [e]; exact hr.slots t, hr.heap, hr.locs, hr.imms, hr.owns, hr.fzs⟩
 exact h g a w b cs hL hd hnb
end
def Enters (P : Program) (f : FuncId) : Prop := ∀ (vs : Array Value) (w : World), (callFunc f vs).run P w = .ok (.enter f vs) w
def Ans (P : Program) (f : FuncId) (vs : Array Value) (w : World) (Q : Ending → World → Prop) : Prop :=
 ((callFunc f vs).run P w = .ok (.enter f vs) w ∧ Calls P f vs w Q) ∨ ∃ v w', (callFunc f vs).run P w = .ok (.value v) w' ∧ Q (.returned v) w'
def ACall (P : Program) (f : FuncId) (args : List AV) (hp : Heap) (r : AV) (hp' : Heap) : Prop :=
 ltR hp.length r = true ∧ hp'.length = hp.length ∧ Meek r ∧ ∀ (g : Gh) (w : World) (vs : Array Value), LayOk g w → Rel g args hp vs w → vs.size = args.length →
  Ans P f vs w fun e w' => ∃ v g', e = .returned v ∧ Rel g' [r] hp' #[v] w' ∧ Stp hp.length g w g' w'
def ACallO (P : Program) (f : FuncId) (args : List AV) (r : AV) : Prop :=
 ltR 0 r = true ∧ ∀ (g : Gh) (w : World) (vs : Array Value), LayOk g w → Rel g args [] vs w → vs.size = args.length →
  Ans P f vs w fun e w' => ∃ v g', e = .returned v ∧ Rel g' [r] [] #[v] w' ∧ Stp 0 g w g' w'
theorem acall_of {P : Program} {f : FuncId} {fn : Func} {c : Code} {args : List AV} {hp : Heap} {r : AV} {hp' : Heap} (hf : P.funcs[f]? = some fn) (hb : fn.body = some c) (he : Enters P f) (hn : args.length ≤ fn.ntmps)
    (hlt : ltR hp.length r = true) (hmk : Meek r) (hlh : ∀ (id : Nat) cs, hp'[id]? = some (some cs) → ltRL hp.length cs = true)
    (hW : wfAL args → W0 P hp.length ⟨fun tm' h' => resAV P fn.results.toList tm' h' = some r ∧ h'.take hp.length = hp', fun _ => False⟩ [.code c] (args ++ List.replicate (fn.ntmps - args.length) .any) hp) (hlen : hp'.length = hp.length) : ACall P f args hp r hp' := by
  refine ⟨hlt, hlen, hmk, fun g w vs hL hr hvs => .inl ⟨he vs w, ?_⟩⟩
  intro cs
  let b : Frame := { (default : Frame) with fn := f, kind := .normal }
  have henter : Frame.enter P f vs .normal = b.at { tmps := vs ++ Array.replicate (fn.ntmps - vs.size) undef, defers := [] } [.code c] := by
    simp [Frame.enter, Frame.at, hf, hb, b]
  have hlget : ∀ t, lget (args ++ List.replicate (fn.ntmps - args.length) .any) t = lget args t := fun t => by
    rw [lget_eq, lget_eq]
    rcases Nat.lt_or_ge t args.length with h' | h'
    · simp [List.getD_eq_getElem?_getD, List.getElem?_append_left h']
    · simp only [List.getD_eq_getElem?_getD, List.getElem?_append_right h', List.getElem?_eq_none h', List.getElem?_replicate]
      split <;> rfl
  have hget : ∀ t, (vs ++ Array.replicate (fn.ntmps - vs.size) undef).getD t undef = vs.getD t undef := fun t => by
    simp only [Array.getD_eq_getD_getElem?]
    rcases Nat.lt_or_ge t vs.size with h' | h'
    · rw [Array.getElem?_append_left h']
    · rw [Array.getElem?_append_right h', Array.getElem?_eq_none h', Array.getElem?_replicate]
      split <;> rfl
  have hr0 : Rel g (args ++ List.replicate (fn.ntmps - args.length) .any) hp (vs ++ Array.replicate (fn.ntmps - vs.size) undef) w :=
    ⟨by simp; omega, fun t => by rw [hlget, hget]; exact hr.slots t, hr.heap, hr.locs, hr.imms, hr.owns, hr.fzs⟩
  have hwf : wfAL args := wfAL_of fun x hx => by
    obtain ⟨j, hj⟩ := List.getElem?_of_mem hx
    have hjl := (List.getElem?_eq_some_iff.1 hj).1
    have := (hr.slots j).1.wf
    rw [lget_eq] at this
    simpa [List.getD_eq_getElem?_getD, hj] using this
  obtain ⟨a', w', g', tm', h', todo, q1, q2, q3, q4, q5, q6⟩ := hW hwf g _ w b cs hL hr0 (Nat.le_refl _)
  obtain ⟨v, hrun, hv, _⟩ := results_sound (P := P) q2 q5
  rw [← henter] at q1
  refine ⟨.returned v, w', _, ⟨v, g'.trunc hp.length false, rfl, ?_, q3.strict.trans Stp.trunc⟩, q1, rfl, rfl, rfl, rfl, fn, hf, hrun⟩
  rw [← q6]
  refine q2.drop hp.length false (tm2 := [r]) (a2 := #[v]) (by simp) (fun id cs hid hcs => hlh id cs (by rw [← q6, List.getElem?_take_of_lt hid]; exact hcs)) (fun t => ?_)
  cases t with
  | zero => exact ⟨hv, hlt, .inl hmk⟩
  | succ t => exact ⟨.any _, rfl, .inl (by intro l; simp [lget])⟩
end Go.Av

namespace Go.Av
open Go
variable [Lay]
section
variable {P : Program} {nb : Nat} {R : Rt} {k : List Item} {tm : List AV} {hp : Heap} {ops : Array Oper} {i : Nat} {is : List Nat} {o : Oper}
def Wanted (ops : List Oper) (o : Oper) (tm : List AV) : Prop :=
 match o.guard with
 | none => True
 | some (j, want) => ∃ t, gslot ops j = some t ∧ lget tm t = .bool want
def Unwanted (ops : List Oper) (o : Oper) (tm : List AV) : Prop :=
 match o.guard with
 | none => False
 | some (j, want) => ∃ t, gslot ops j = some t ∧ (lget tm t = .bool (!want) ∨ lget tm t = .tup [])
theorem gslot_eq (l : List Oper) (j : Nat) : gslot l j = (l[j]?).bind (·.dst) := by
 induction l generalizing j with
 | nil => rfl
 | cons o l ih => cases j with
  | zero => rfl
  | succ j => simpa [gslot] using ih j
theorem yielded_of {g : Gh} {a : Array Value} {w : World} (hr : Rel g tm hp a w) {j t : Nat} {b : Bool} (h1 : gslot ops.toList j = some t) (h2 : lget tm t = .bool b) : yielded ops a j = some b := by
 have hv := (hr.slots t).1
 rw [h2] at hv
 have he := bool_inv hv
 have ht : t < a.size := by
  rcases Nat.lt_or_ge t a.size with h | h
  ·exact h
  ·simp [Array.getD_eq_getD_getElem?, Array.getElem?_eq_none h, undef] at he
 rw [gslot_eq, Array.getElem?_toList] at h1
 simp only [yielded, h1, Option.bind_some]
 have : a[t]? = some (.bool b) := by
  rw [Array.getElem?_eq_getElem ht]
  simp [Array.getD_eq_getD_getElem?, Array.getElem?_eq_getElem ht] at he
  rw [he]
 rw [this]
theorem wanted_of {g : Gh} {a : Array Value} {w : World} (hr : Rel g tm hp a w) (h : Wanted ops.toList o tm) : Region.wanted o (yielded ops a) = true := by
 unfold Wanted at h
 unfold Region.wanted
 cases hg : o.guard with
 | none => rfl
 | some p =>
  obtain ⟨j, want⟩ := p
  rw [hg] at h
  obtain ⟨t, h1, h2⟩ := h
  simp [yielded_of hr h1 h2]
theorem unwanted_of {g : Gh} {a : Array Value} {w : World} (hr : Rel g tm hp a w) (h : Unwanted ops.toList o tm) : Region.wanted o (yielded ops a) = false := by
  unfold Unwanted at h
  unfold Region.wanted
  cases hg : o.guard with
  | none => rw [hg] at h; exact h.elim
  | some p =>
    obtain ⟨j, want⟩ := p
    rw [hg] at h
    obtain ⟨t, h1, h2 | h2⟩ := h
    · simp [yielded_of hr h1 h2]
    · have hv := (hr.slots t).1
      rw [h2] at hv
      have he : a.getD t undef = .tuple #[] := by
        generalize a.getD t undef = u at hv
        cases hv with
        | @tup _ vs hs h => have : vs = #[] := by apply Array.eq_empty_of_size_eq_zero; simpa using hs.symm
                            rw [this]
      have hy : yielded ops a j = none := by
        rw [gslot_eq, Array.getElem?_toList] at h1
        simp only [yielded, h1, Option.bind_some]
        rcases Nat.lt_or_ge t a.size with h | h
        · have : a[t]? = some (.tuple #[]) := by
            rw [Array.getElem?_eq_getElem h]
            simp [Array.getD_eq_getD_getElem?, Array.getElem?_eq_getElem h] at he
            rw [he]
          rw [this]
        · simp [Array.getElem?_eq_none h]
      simp [hy]
def Sim1 (P : Program) (ops : Array Oper) (i : Nat) (tm : List AV) (hp : Heap) (tm' : List AV) (hp' : Heap) : Prop :=
 ∀ (g : Gh) (a : Array Value) (w : World), LayOk g w → Rel g tm hp a w → ∀ (b : Frame) (is : List Nat) (k : List Item) (cs : List Frame), ∃ a' w' g', Rel g' tm' hp' a' w' ∧ Stp hp.length g w g' w' ∧ hp.length ≤ hp'.length ∧
  Steps P (lone (b.at ⟨a, []⟩ (.inRegion ops (i :: is) :: k)) cs w) (lone (b.at ⟨a', []⟩ (.inRegion ops is :: k)) cs w')
def OpN (P : Program) (nb : Nat) (o : Oper) (tm' : List AV) (hp' : Heap) (g : Gh) (a : Array Value) (w : World) : Prop :=
 ∃ n v w' g', (execOp (Act.eval ⟨a, []⟩) o).run P w = .ok n w' ∧ (n = .value v ∨ (n = .skip ∧ v = undef)) ∧
  Rel g' tm' hp' (Act.put ⟨a, []⟩ o.dst v).tmps w' ∧ Stp nb g w g' w' ∧ nb ≤ hp'.length
def SimN (P : Program) (nb : Nat) (ops : Array Oper) (i : Nat) (tm : List AV) (hp : Heap) (tm' : List AV) (hp' : Heap) : Prop :=
 ∀ (g : Gh) (a : Array Value) (w : World), LayOk g w → Rel g tm hp a w → nb ≤ hp.length → ∀ (b : Frame) (is : List Nat) (k : List Item) (cs : List Frame), ∃ a' w' g', Rel g' tm' hp' a' w' ∧ Stp nb g w g' w' ∧ nb ≤ hp'.length ∧
  Steps P (lone (b.at ⟨a, []⟩ (.inRegion ops (i :: is) :: k)) cs w) (lone (b.at ⟨a', []⟩ (.inRegion ops is :: k)) cs w')
theorem Sim1.toN {tm' : List AV} {hp' : Heap} (h : Sim1 P ops i tm hp tm' hp') : SimN P nb ops i tm hp tm' hp' := by
 intro g a w hL hr hn b is k cs
 obtain ⟨a1, w1, g1, h1, h2, hle, h3⟩ := h g a w hL hr b is k cs
 exact ⟨a1, w1, g1, h1, h2.mono hn, by omega, h3⟩
theorem W0.simN {tm' : List AV} {hp' : Heap} (hs : SimN P nb ops i tm hp tm' hp') (h : W0 P nb R (.inRegion ops is :: k) tm' hp') : W0 P nb R (.inRegion ops (i :: is) :: k) tm hp := by
 intro g a w b cs hL hr hn
 obtain ⟨a1, w1, g1, h1, h2, hle, h3⟩ := hs g a w hL hr hn b is k cs
 obtain ⟨a', w', g', tm'', hp'', todo, q1, q2, q3, q4⟩ := h g1 a1 w1 b cs (hL.stp h2) h1 hle
 exact ⟨a', w', g', tm'', hp'', todo, Steps.trans h3 q1, q2, h2.x.trans q3, q4⟩
theorem sim_op (ho : ops[i]? = some o) (hok : okOper o = true) (hw : Wanted ops.toList o tm) (hc : ∀ c, (opM P ops.toList o tm hp).c = some c → c) :
    Sim1 P ops i tm hp (put (opM P ops.toList o tm hp).tm o.dst (opM P ops.toList o tm hp).v) (opM P ops.toList o tm hp).hp := by
  intro g a w hL hr b is k cs
  obtain ⟨n, v, w', g', hrun, hn, hr', hs, hl⟩ := opM_sound (P := P) hr hok hc
  refine ⟨_, w', g', hr', hs, hl, ?_⟩
  have hwt := wanted_of hr hw
  have hdef : (Act.put ⟨a, []⟩ o.dst v) = ⟨(Act.put ⟨a, []⟩ o.dst v).tmps, []⟩ := by cases o.dst <;> rfl
  rw [← hdef]
  rcases hn with rfl | ⟨rfl, rfl⟩
  · exact .one (step_value ho hwt hrun)
  · exact .one (step_skipv ho hwt hrun)
theorem sim_opx {tm' : List AV} {hp' : Heap} (ho : ops[i]? = some o) (hw : Wanted ops.toList o tm) (h : ∀ (g : Gh) (a : Array Value) (w : World), LayOk g w → Rel g tm hp a w → nb ≤ hp.length → OpN P nb o tm' hp' g a w) : SimN P nb ops i tm hp tm' hp' := by
  intro g a w hL hr hn b is k cs
  obtain ⟨n, v, w', g', hrun, hnv, hr', hs, hl⟩ := h g a w hL hr hn
  refine ⟨_, w', g', hr', hs, hl, ?_⟩
  have hwt := wanted_of hr hw
  have hdef : (Act.put ⟨a, []⟩ o.dst v) = ⟨(Act.put ⟨a, []⟩ o.dst v).tmps, []⟩ := by cases o.dst <;> rfl
  rw [← hdef]
  rcases hnv with rfl | ⟨rfl, rfl⟩
  · exact .one (step_value ho hwt hrun)
  · exact .one (step_skipv ho hwt hrun)
theorem sim_skip (ho : ops[i]? = some o) (hw : Unwanted ops.toList o tm) : Sim1 P ops i tm hp (put tm o.dst (.tup [])) hp := by
  intro g a w hL hr b is k cs
  refine ⟨_, w, g, hr.put (v := undef) o.dst (.tup (vs := #[]) rfl (fun j av v hj hv => by simp at hj)) (fun d _ => Tail.meek (by intro l; simp)), .refl _ _ _, Nat.le_refl _, ?_⟩
  have hdef : (Act.put ⟨a, []⟩ o.dst undef) = ⟨(Act.put ⟨a, []⟩ o.dst undef).tmps, []⟩ := by cases o.dst <;> rfl
  rw [← hdef]
  exact .one (step_unwanted ho (unwanted_of hr hw))
end
def Gh.out (g : Gh) : Gh where
 ow := fun b o => match g.ow b o with | .imm v => .imm v | _ => .free
 loc := fun _ => none
 fz := g.fz
def Gh.back (g g1 : Gh) : Gh where
 ow := fun b o => match g.ow b o with
  | .free => (match g1.ow b o with | .imm v => .imm v | _ => .free)
  | x => x
 loc := g.loc
 fz := g1.fz
theorem out_imm {g : Gh} {b o : Nat} {v : Value} : g.out.ow b o = .imm v ↔ g.ow b o = .imm v := by
  simp only [Gh.out]; split <;> simp_all
theorem back_imm {g g1 : Gh} {b o : Nat} {v : Value} (h : g.ow b o = .imm v) : (g.back g1).ow b o = .imm v := by simp [Gh.back, h]
section
variable {P : Program} {tm : List AV} {hp : Heap} {g : Gh} {a : Array Value} {w : World}
theorem Rel.out (h : Rel g tm hp a w) (args : List AV) (vs : Array Value) (hsz : args.length ≤ vs.size) (hv : ∀ t, VR g (lget args t) (vs.getD t undef)) (hn : ∀ x, x ∈ args → noRef x = true) (hm : ∀ x, x ∈ args → Meek x) : Rel g.out args [] vs w := by
 refine ⟨hsz, fun t => ?_, fun id cs hc => by simp at hc, fun _ _ => rfl, fun b o v hv => h.imms _ _ _ (out_imm.1 hv), fun b o hb => ?_, fzs_of h.fzs (fun b c e f h => ⟨c, h, rfl⟩) (fun b o v hv => out_imm.2 hv) rfl⟩
 ·rcases Nat.lt_or_ge t args.length with h' | h'
  ·have hmem := List.mem_of_getElem? (lget_some h')
   exact ⟨(hv t).noref (fun b o v hv => out_imm.2 hv) (fun _ _ h => h) (hn _ hmem), Tail.meek (hm _ hmem)⟩
  ·rw [lget_ge h']; exact ⟨.any _, Tail.meek (by intro l; simp)⟩
 ·have hne : g.ow b o ≠ .free := by intro e; simp [Gh.out, e] at hb
  refine ⟨(h.owns b o hne).1, fun hi => ?_⟩
  cases e : g.ow b o with
  | imm v => exact absurd (out_imm.2 e) (hi v)
  | _ => simp [Gh.out, e] at hb
theorem Rel.back (h : Rel g tm hp a w) {g1 : Gh} {w1 : World} {r : AV} {v : Value} (h1 : Rel g1 [r] [] #[v] w1) (hs : Stp 0 g.out w g1 w1) (hr : noRef r = true) :
    Rel (g.back g1) tm hp a w1 ∧ Stp hp.length g w (g.back g1) w1 ∧ VR (g.back g1) r v := by
  have himm : ∀ b o v, g1.ow b o = .imm v → (g.back g1).ow b o = .imm v := fun b o v hv => by
    simp only [Gh.back]
    cases e : g.ow b o with
    | free => simp [hv]
    | imm v' =>
      have := hs.imm b o v' (out_imm.2 e)
      rw [hv] at this; cases this; rfl
    | _ =>
      have hb := h.lt (b := b) (o := o) (by simp [e])
      have := hs.perm b o hb (by simp [Gh.out, e])
      rw [hv] at this; cases this
  have hkeep : ∀ b o, g.ow b o ≠ .free → (g.back g1).ow b o = g.ow b o := fun b o hne => by
    cases e : g.ow b o <;> simp_all [Gh.back]
  have hout : ∀ b o, g.out.ow b o = .free ∨ ∃ v, g.out.ow b o = .imm v := fun b o => by
    simp only [Gh.out]; split
    · exact .inr ⟨_, rfl⟩
    · exact .inl rfl
  have hcell : ∀ {b o : Nat} {v : Value}, w.cell? ⟨b, o, none⟩ = some v → w1.cell? ⟨b, o, none⟩ = some v := fun hc => hs.upd.cell (hout _ _) hc
  have hm : ∀ {x u}, VR g x u → VR (g.back g1) x u := fun hv => hv.mono (g' := g.back g1) (fun b o v hv => back_imm hv) (fun _ _ h => h) (fun b e he => hs.fzm b e (show g.out.fz b = some e from he))
  have ht : ∀ {k : Owner} {x u}, k ≠ .free → Tail g k x u → Tail (g.back g1) k x u := by
    intro k x u hk ht
    cases x with
    | sl own l =>
      cases own with
      | none => exact Tail.meek (by intro l; simp)
      | some oe =>
        cases u with
        | slice a' n' cap =>
          rcases ht with ht | ⟨h0, b, o, es, e1, e2, e3, e4, e5, e6⟩
          · exact .inl ⟨ht.1, ht.2.1, ht.2.2.imp id (fun ⟨b, o, e1, e, e2⟩ => ⟨b, o, e1, e, hs.fzm b e e2⟩)⟩
          · exact .inr ⟨h0, b, o, es, e1, e2, e3, fun j hj hj' => by rw [hkeep _ _ (by rw [e4 j hj hj']; exact hk)]; exact e4 j hj hj', e5, fun e' he => by obtain ⟨e, q1, q2⟩ := e6 e' he; exact ⟨e, hs.fzm b e q1, q2⟩⟩
        | _ => trivial
    | _ => exact Tail.meek (by intro l; simp)
  refine ⟨⟨h.size, fun t => ⟨hm (h.slots t).1, ht (by simp) (h.slots t).2⟩, fun id cs hc => ?_, h.locs, fun b o v hv => ?_, fun b o hv => ?_, fzs_of h1.fzs (fun b c e f h => ⟨c, h, rfl⟩) himm rfl⟩, ⟨fun b o v hv => back_imm hv, fun b o hb hv => ?_, fun _ _ _ h => h, ?_, fun b e he => hs.fzm b e he, fun b hb hn => hs.fzn b hb hn⟩, (h1.slots 0).1.noref himm (fun _ _ h => h) hr⟩
  · obtain ⟨b, base, c, e1, e2, e3, e4⟩ := h.heap id cs hc
    refine ⟨b, base, c, e1, e2, fun j hj => by rw [hkeep _ _ (by rw [e3 j hj]; simp)]; exact e3 j hj, fun j av hj => ?_⟩
    obtain ⟨v, a1, a2, a3⟩ := e4 j av hj
    exact ⟨v, hcell a1, hm a2, ht (by simp) a3⟩
  · by_cases hne : g.ow b o = .free
    · simp only [Gh.back, hne] at hv
      split at hv
      · rename_i v' e; cases hv; exact h1.imms _ _ _ e
      · cases hv
    · rw [hkeep _ _ hne] at hv; exact hcell (h.imms _ _ _ hv)
  · by_cases hne : g.ow b o = .free
    · simp only [Gh.back, hne] at hv ⊢
      split at hv
      · rename_i v' e
        exact ⟨(h1.owns b o (by simp [e])).1, fun hi => by first | exact absurd rfl (hi v') | (simp only [e] at hi; exact absurd rfl (hi v'))⟩
      · exact absurd rfl hv
    · rw [hkeep _ _ hne]
      obtain ⟨⟨v, hv⟩, hf⟩ := h.owns b o hne
      exact ⟨⟨v, hcell hv⟩, fun hi => by
        rw [hs.upd.frozen (by rcases hout b o with h | ⟨v, h⟩; exact h; exact absurd (out_imm.1 h) (hi v)) hv]; exact hf hi⟩
  · have := hs.perm b o hb (by simp [Gh.out, hv])
    simp [Gh.back, hv, this]
  · refine ⟨hs.upd.os, hs.upd.tape, hs.upd.output, hs.upd.size, fun b c e f hb => ?_, hs.upd.other⟩
    obtain ⟨c', f', q1, q2, q3, q4, q5⟩ := hs.upd.cells b c e f hb
    exact ⟨c', f', q1, q2, fun o _ => q3 o (hout b o), q4, fun o ho => q5 o (by simp [Gh.out, ho])⟩
def Gh.backK (g g1 : Gh) (k : Owner) : Gh where
 ow := fun b o => match g.ow b o with
  | .free => (match g1.ow b o with | .imm v => .imm v | .slot 0 => k | _ => .free)
  | x => x
 loc := g.loc
 fz := g1.fz
theorem backK_imm {g g1 : Gh} {k : Owner} {b o : Nat} {v : Value} (h : g.ow b o = .imm v) : (g.backK g1 k).ow b o = .imm v := by simp [Gh.backK, h]
theorem Rel.outK (h : Rel g tm hp a w) (args : List AV) (vs : Array Value) (hsz : args.length ≤ vs.size) (hv : ∀ t, VR g (lget args t) (vs.getD t undef)) (hn : ∀ x, x ∈ args → noRef x = true) (hm : ∀ x, x ∈ args → Meek x ∨ x = .sl (some none) []) : Rel g.out args [] vs w := by
  have ho : Rel g.out (args.map fix) [] vs w := h.out (args.map fix) vs (by simpa using hsz) (fun t => by
    rw [lget_eq, List.getD_eq_getElem?_getD, List.getElem?_map]
    cases hx : args[t]? with
    | none => exact .any _
    | some x =>
      have := hv t
      rw [lget_eq, List.getD_eq_getElem?_getD, hx] at this
      exact this.fix) (fun x hx => by
    obtain ⟨y, hy, rfl⟩ := List.mem_map.1 hx
    have := hn y hy
    cases y <;> simp_all [fix, noRef, ltR]) (fun x hx => by obtain ⟨y, _, rfl⟩ := List.mem_map.1 hx; exact meek_fix y)
  refine ⟨hsz, fun t => ?_, ho.heap, ho.locs, ho.imms, ho.owns, ho.fzs⟩
  rcases Nat.lt_or_ge t args.length with h' | h'
  · have hmem := List.mem_of_getElem? (lget_some h')
    have hvr : VR g.out (lget args t) (vs.getD t undef) := (hv t).noref (fun b o v hv => out_imm.2 hv) (fun _ _ h => h) (hn _ hmem)
    refine ⟨hvr, ?_⟩
    rcases hm _ hmem with hm | hm
    · exact Tail.meek hm
    · rw [hm] at hvr ⊢; exact Tail.ofNil hvr
  · rw [lget_ge h']; exact ⟨.any _, Tail.meek (by intro l; simp)⟩
theorem Rel.backK (h : Rel g tm hp a w) {g1 : Gh} {w1 : World} {r : AV} {v : Value} (h1 : Rel g1 [r] [] #[v] w1) (hs : Stp 0 g.out w g1 w1) (hr : noRef r = true) (k : Owner) (hk : k = .free ∨ ∃ t, k = .slot t) :
    Rel (g.backK g1 k) tm hp a w1 ∧ Stp hp.length g w (g.backK g1 k) w1 ∧ VR (g.backK g1 k) r v ∧ (k ≠ .free → Tail (g.backK g1 k) k r v) := by
  have himm : ∀ b o v, g1.ow b o = .imm v → (g.backK g1 k).ow b o = .imm v := fun b o v hv => by
    simp only [Gh.backK]
    cases e : g.ow b o with
    | free => simp [hv]
    | imm v' =>
      have := hs.imm b o v' (out_imm.2 e)
      rw [hv] at this; cases this; rfl
    | _ =>
      have hb := h.lt (b := b) (o := o) (by simp [e])
      have := hs.perm b o hb (by simp [Gh.out, e])
      rw [hv] at this; cases this
  have hkeep : ∀ b o, g.ow b o ≠ .free → (g.backK g1 k).ow b o = g.ow b o := fun b o hne => by
    cases e : g.ow b o <;> simp_all [Gh.backK]
  have hout : ∀ b o, g.out.ow b o = .free ∨ ∃ v, g.out.ow b o = .imm v := fun b o => by
    simp only [Gh.out]; split
    · exact .inr ⟨_, rfl⟩
    · exact .inl rfl
  have hcell : ∀ {b o : Nat} {v : Value}, w.cell? ⟨b, o, none⟩ = some v → w1.cell? ⟨b, o, none⟩ = some v := fun hc => hs.upd.cell (hout _ _) hc
  have hm : ∀ {x u}, VR g x u → VR (g.backK g1 k) x u := fun hv => hv.mono (g' := g.backK g1 k) (fun b o v hv => backK_imm hv) (fun _ _ h => h) (fun b e he => hs.fzm b e (show g.out.fz b = some e from he))
  have ht : ∀ {k' : Owner} {x u}, k' ≠ .free → Tail g k' x u → Tail (g.backK g1 k) k' x u := by
    intro k' x u hk' ht
    cases x with
    | sl own l =>
      cases own with
      | none => exact Tail.meek (by intro l; simp)
      | some oe =>
        cases u with
        | slice a' n' cap =>
          rcases ht with ht | ⟨h0, b, o, es, e1, e2, e3, e4, e5, e6⟩
          · exact .inl ⟨ht.1, ht.2.1, ht.2.2.imp id (fun ⟨b, o, e1, e, e2⟩ => ⟨b, o, e1, e, hs.fzm b e e2⟩)⟩
          · exact .inr ⟨h0, b, o, es, e1, e2, e3, fun j hj hj' => by rw [hkeep _ _ (by rw [e4 j hj hj']; exact hk')]; exact e4 j hj hj', e5, fun e' he => by obtain ⟨e, q1, q2⟩ := e6 e' he; exact ⟨e, hs.fzm b e q1, q2⟩⟩
        | _ => trivial
    | _ => exact Tail.meek (by intro l; simp)
  have hslot : ∀ b o, g1.ow b o = .slot 0 → (g.backK g1 k).ow b o = k := fun b o hv => by
    simp only [Gh.backK]
    cases e : g.ow b o with
    | free => simp [hv]
    | imm v' =>
      have := hs.imm b o v' (out_imm.2 e)
      rw [hv] at this; cases this
    | _ =>
      have hb := h.lt (b := b) (o := o) (by simp [e])
      have := hs.perm b o hb (by simp [Gh.out, e])
      rw [hv] at this; cases this
  have htr : k ≠ .free → Tail (g.backK g1 k) k r v := fun hkf => by
    have ht0 := (h1.slots 0).2
    simp only [lget] at ht0
    have e0 : (#[v] : Array Value).getD 0 undef = v := rfl
    rw [e0] at ht0
    cases r with
    | sl own l =>
      cases own with
      | none => exact Tail.meek (by intro l; simp)
      | some oe =>
        cases v with
        | slice a' n' cap =>
          rcases ht0 with ht0 | ⟨h0, b, o, es, e1, e2, e3, e4, e5⟩
          · exact .inl ht0
          · exact .inr ⟨h0, b, o, es, e1, e2, e3, fun j hj hj' => hslot _ _ (e4 j hj hj'), e5⟩
        | _ => trivial
    | _ => exact Tail.meek (by intro l; simp)
  refine ⟨⟨h.size, fun t => ⟨hm (h.slots t).1, ht (by simp) (h.slots t).2⟩, fun id cs hc => ?_, h.locs, fun b o v hv => ?_, fun b o hv => ?_, fzs_of h1.fzs (fun b c e f h => ⟨c, h, rfl⟩) himm rfl⟩, ⟨fun b o v hv => backK_imm hv, fun b o hb hv => ?_, fun _ _ _ h => h, ?_, fun b e he => hs.fzm b e he, fun b hb hn => hs.fzn b hb hn⟩, (h1.slots 0).1.noref himm (fun _ _ h => h) hr, htr⟩
  · obtain ⟨b, base, c, e1, e2, e3, e4⟩ := h.heap id cs hc
    refine ⟨b, base, c, e1, e2, fun j hj => by rw [hkeep _ _ (by rw [e3 j hj]; simp)]; exact e3 j hj, fun j av hj => ?_⟩
    obtain ⟨v, a1, a2, a3⟩ := e4 j av hj
    exact ⟨v, hcell a1, hm a2, ht (by simp) a3⟩
  · by_cases hne : g.ow b o = .free
    · simp only [Gh.backK, hne] at hv
      split at hv
      · rename_i v' e; cases hv; exact h1.imms _ _ _ e
      · rcases hk with rfl | ⟨t, rfl⟩ <;> cases hv
      · cases hv
    · rw [hkeep _ _ hne] at hv; exact hcell (h.imms _ _ _ hv)
  · by_cases hne : g.ow b o = .free
    · simp only [Gh.backK, hne] at hv ⊢
      split at hv
      · rename_i v' e
        exact ⟨(h1.owns b o (by simp [e])).1, fun hi => by first | exact absurd rfl (hi v') | (simp only [e] at hi; exact absurd rfl (hi v'))⟩
      · rename_i e
        have := h1.owns b o (by simp [e])
        exact ⟨this.1, fun _ => this.2 (fun v => by simp [e])⟩
      · exact absurd rfl hv
    · rw [hkeep _ _ hne]
      obtain ⟨⟨v, hv⟩, hf⟩ := h.owns b o hne
      exact ⟨⟨v, hcell hv⟩, fun hi => by
        rw [hs.upd.frozen (by rcases hout b o with h | ⟨v, h⟩; exact h; exact absurd (out_imm.1 h) (hi v)) hv]; exact hf hi⟩
  · have := hs.perm b o hb (by simp [Gh.out, hv])
    simp [Gh.backK, hv, this]
  · refine ⟨hs.upd.os, hs.upd.tape, hs.upd.output, hs.upd.size, fun b c e f hb => ?_, hs.upd.other⟩
    obtain ⟨c', f', q1, q2, q3, q4, q5⟩ := hs.upd.cells b c e f hb
    exact ⟨c', f', q1, q2, fun o _ => q3 o (hout b o), q4, fun o ho => q5 o (by simp [Gh.out, ho])⟩
end
section
variable {P : Program} {tm : List AV} {hp : Heap} {ops : Array Oper} {i : Nat} {o : Oper}
theorem vr_argsG (φ : AV → AV) (hφ : ∀ {g : Gh} {x : AV} {v : Value}, VR g x v → VR g (φ x) v) {g : Gh} {tm : List AV} {hp : Heap} {a : Array Value} {w : World} (h : Rel g tm hp a w) {fo : Operand} {args : Array Operand} (hfo : okOpd fo = true) (hargs : ∀ x, x ∈ args → okOpd x = true) {f : FuncId} {as : List AV} {l1 l2 : List AV} (hfn : opv tm fo = .fn (.func f) l1 l2) (has : as = (l1 ++ allOp tm args ++ l2).map φ) :
  ∃ a1 a2 : Array Value, Act.eval ⟨a, []⟩ fo = .func (.func f) a1 a2 ∧ as.length = (a1 ++ args.map (Act.eval ⟨a, []⟩) ++ a2).size ∧ (∀ t, VR g (lget as t) ((a1 ++ args.map (Act.eval ⟨a, []⟩) ++ a2).getD t undef)) := by
 have hv := opv_VR h hfo
 subst has
 rw [hfn] at hv
 obtain ⟨a1, a2, he, h1, h2, h3, h4⟩ := fn_inv hv
 refine ⟨a1, a2, he, by simp [allOp, h1, h2], fun t => ?_⟩
 ·rcases Nat.lt_or_ge t ((l1 ++ allOp tm args ++ l2).map φ).length with h' | h'
  ·have hlen : ((l1 ++ allOp tm args ++ l2).map φ).length = a1.size + args.size + a2.size := by simp [allOp, h1, h2]; omega
   rw [lget_eq, List.getD_eq_getElem?_getD, List.getElem?_map]
   by_cases c1 : t < a1.size
   ·rw [List.append_assoc, List.getElem?_append_left (by omega)]
    have e1 := List.getElem?_eq_getElem (show t < l1.length by omega)
    have e2 := Array.getElem?_eq_getElem c1
    rw [e1]
    have : (a1 ++ args.map (Act.eval ⟨a, []⟩) ++ a2).getD t undef = a1[t] := by
     simp only [Array.getD_eq_getD_getElem?]
     rw [Array.append_assoc, Array.getElem?_append_left c1, e2]; rfl
    rw [this]
    exact hφ (h3 t _ _ e1 e2)
   ·by_cases c2 : t < a1.size + args.size
    ·have ha : t - a1.size < args.size := by omega
     rw [List.append_assoc, List.getElem?_append_right (by omega), List.getElem?_append_left (by simp [allOp]; omega)]
     have e1 : (allOp tm args)[t - l1.length]? = some (opv tm args[t - a1.size]) := by simp [allOp, h1, ha]
     rw [e1]
     have : (a1 ++ args.map (Act.eval ⟨a, []⟩) ++ a2).getD t undef = Act.eval ⟨a, []⟩ args[t - a1.size] := by
      simp only [Array.getD_eq_getD_getElem?]
      rw [Array.append_assoc, Array.getElem?_append_right (by omega), Array.getElem?_append_left (by simp; exact ha)]
      simp [ha]
     rw [this]
     exact hφ (opv_VR h (hargs _ (Array.getElem_mem ha)))
    ·have ha : t - a1.size - args.size < a2.size := by omega
     rw [List.append_assoc, List.getElem?_append_right (by omega), List.getElem?_append_right (by simp [allOp]; omega)]
     have hl : t - l1.length - (allOp tm args).length = t - a1.size - args.size := by simp [allOp, h1]
     rw [hl]
     have e1 := List.getElem?_eq_getElem (show t - a1.size - args.size < l2.length by omega)
     have e2 := Array.getElem?_eq_getElem ha
     rw [e1]
     have : (a1 ++ args.map (Act.eval ⟨a, []⟩) ++ a2).getD t undef = a2[t - a1.size - args.size] := by
      simp only [Array.getD_eq_getD_getElem?]
      rw [Array.append_assoc, Array.getElem?_append_right (by omega), Array.getElem?_append_right (by simp; omega)]
      simp [ha]
     rw [this]
     exact hφ (h4 _ _ _ e1 e2)
  ·rw [lget_ge h']; exact .any _
theorem vr_args {g : Gh} {tm : List AV} {hp : Heap} {a : Array Value} {w : World} (h : Rel g tm hp a w) {fo : Operand} {args : Array Operand} (hfo : okOpd fo = true) (hargs : ∀ x, x ∈ args → okOpd x = true) {f : FuncId} {as : List AV} (hcal : calleeOf (opv tm fo) (allOp tm args) = some (f, as)) :
  ∃ a1 a2 : Array Value, Act.eval ⟨a, []⟩ fo = .func (.func f) a1 a2 ∧ as.length = (a1 ++ args.map (Act.eval ⟨a, []⟩) ++ a2).size ∧ (∀ t, VR g (lget as t) ((a1 ++ args.map (Act.eval ⟨a, []⟩) ++ a2).getD t undef)) ∧ ∀ x, x ∈ as → Meek x := by
 unfold calleeOf at hcal
 split at hcal
 ·rename_i f' l1 l2 e
  simp only [Option.some.injEq, Prod.mk.injEq] at hcal
  obtain ⟨rfl, has⟩ := hcal
  obtain ⟨a1, a2, q1, q2, q3⟩ := vr_argsG fix (fun h => h.fix) h hfo hargs e has.symm
  refine ⟨a1, a2, q1, q2, q3, fun x hx => ?_⟩
  subst has
  obtain ⟨y, _, rfl⟩ := List.mem_map.1 hx
  exact meek_fix y
 ·cases hcal
theorem vr_argsK {g : Gh} {tm : List AV} {hp : Heap} {a : Array Value} {w : World} (h : Rel g tm hp a w) {fo : Operand} {args : Array Operand} (hfo : okOpd fo = true) (hargs : ∀ x, x ∈ args → okOpd x = true) {f : FuncId} {as : List AV} (hcal : calleeK (opv tm fo) (allOp tm args) = some (f, as)) :
  ∃ a1 a2 : Array Value, Act.eval ⟨a, []⟩ fo = .func (.func f) a1 a2 ∧ as.length = (a1 ++ args.map (Act.eval ⟨a, []⟩) ++ a2).size ∧ (∀ t, VR g (lget as t) ((a1 ++ args.map (Act.eval ⟨a, []⟩) ++ a2).getD t undef)) ∧ ∀ x, x ∈ as → Meek x ∨ x = .sl (some none) [] := by
 unfold calleeK at hcal
 split at hcal
 ·rename_i f' l1 l2 e
  simp only [Option.some.injEq, Prod.mk.injEq] at hcal
  obtain ⟨rfl, has⟩ := hcal
  obtain ⟨a1, a2, q1, q2, q3⟩ := vr_argsG keepE (fun h => h.keepE) h hfo hargs e has.symm
  refine ⟨a1, a2, q1, q2, q3, fun x hx => ?_⟩
  subst has
  obtain ⟨y, _, rfl⟩ := List.mem_map.1 hx
  rcases keepE_or y with e | ⟨_, e⟩
  ·rw [e]; exact .inl (meek_fix y)
  ·exact .inr e
 ·cases hcal
theorem sim_call {fo : Operand} {args : Array Operand} {tys : Array TypeId} (ho : ops[i]? = some o) (hop : o.op = .call { callee := .value fo, args, argTypes := tys }) (hok : okOper o = true) (hw : Wanted ops.toList o tm) {f : FuncId} {as : List AV}
    (hcal : calleeOf (opv tm fo) (allOp tm args) = some (f, as)) (hn : ltRL 0 as = true) {r : AV} (hA : ACall P f as [] r []) : Sim1 P ops i tm hp (put tm o.dst r) hp := by
  obtain ⟨hlt, _, hmk, hcl⟩ := hA
  intro g a w hL hr b is k cs
  have hall : ∀ x, x ∈ o.op.operands → okOpd x = true := fun x hx => List.all_eq_true.1 hok x (by simpa using hx)
  rw [hop] at hall
  obtain ⟨a1, a2, he, hsz, hvr, hmeek⟩ := vr_args hr (hall fo (by simp [Op.operands, Call.operands])) (fun x hx => hall x (by simp [Op.operands, Call.operands]; exact .inr hx)) hcal
  have hro := hr.out as (a1 ++ args.map (Act.eval ⟨a, []⟩) ++ a2) (by omega) hvr (fun x hx => ltRL_mem hn x hx) hmeek
  have hC := hcl g.out w _ ⟨fun b o v hv => out_imm.2 (hL.1 b o v hv), hL.2⟩ hro hsz.symm
  have hwt := wanted_of hr hw
  have hex : (execOp (Act.eval ⟨a, []⟩) o).run P w = (callFunc f (a1 ++ args.map (Act.eval ⟨a, []⟩) ++ a2)).run P w := by
    obtain ⟨dst, op, ty, pos, after, gd⟩ := o
    dsimp only at hop
    subst hop
    simp [execOp, resolve, Deferred.ofValue, he, invoke, Array.append_assoc]
  have hst : ∃ v w1, (∃ v' g1, Ending.returned v = Ending.returned v' ∧ Rel g1 [r] [] #[v'] w1 ∧ Stp 0 g.out w g1 w1) ∧ Steps P (lone (b.at ⟨a, []⟩ (.inRegion ops (i :: is) :: k)) cs w) (lone (b.at (Act.put ⟨a, []⟩ o.dst v) (.inRegion ops is :: k)) cs w1) := by
    rcases hC with ⟨hent, hC⟩ | ⟨v, w1, hv, hq⟩
    · exact steps_call (b := b) (k := k) (cs := cs) (rest := is) (v := undef) (w2 := w) ho hwt (hex.trans hent) hC (fun e w' hq => by obtain ⟨v, g', e1, _⟩ := hq; exact ⟨v, e1⟩)
    · exact ⟨v, w1, hq, .one (step_value ho hwt (hex.trans hv))⟩
  obtain ⟨v, w1, ⟨v', g1, e1, h1, h2⟩, hst⟩ := hst
  cases e1
  obtain ⟨q1, q2, q3⟩ := hr.back h1 h2 hlt
  have hdef : (Act.put ⟨a, []⟩ o.dst v) = ⟨(Act.put ⟨a, []⟩ o.dst v).tmps, []⟩ := by cases o.dst <;> rfl
  rw [hdef] at hst
  exact ⟨_, w1, g.back g1, q1.put o.dst q3 (fun d _ => Tail.meek hmk), q2, Nat.le_refl _, hst⟩
theorem sim_callO {fo : Operand} {args : Array Operand} {tys : Array TypeId} (ho : ops[i]? = some o) (hop : o.op = .call { callee := .value fo, args, argTypes := tys }) (hok : okOper o = true) (hw : Wanted ops.toList o tm) {f : FuncId} {as : List AV}
    (hcal : calleeK (opv tm fo) (allOp tm args) = some (f, as)) (hn : ltRL 0 as = true) {r : AV} (hA : ACallO P f as r) : Sim1 P ops i tm hp (put tm o.dst r) hp := by
  obtain ⟨hlt, hcl⟩ := hA
  intro g a w hL hr b is k cs
  have hall : ∀ x, x ∈ o.op.operands → okOpd x = true := fun x hx => List.all_eq_true.1 hok x (by simpa using hx)
  rw [hop] at hall
  obtain ⟨a1, a2, he, hsz, hvr, hmeek⟩ := vr_argsK hr (hall fo (by simp [Op.operands, Call.operands])) (fun x hx => hall x (by simp [Op.operands, Call.operands]; exact .inr hx)) hcal
  have hro := hr.outK as (a1 ++ args.map (Act.eval ⟨a, []⟩) ++ a2) (by omega) hvr (fun x hx => ltRL_mem hn x hx) hmeek
  have hC := hcl g.out w _ ⟨fun b o v hv => out_imm.2 (hL.1 b o v hv), hL.2⟩ hro hsz.symm
  have hwt := wanted_of hr hw
  have hex : (execOp (Act.eval ⟨a, []⟩) o).run P w = (callFunc f (a1 ++ args.map (Act.eval ⟨a, []⟩) ++ a2)).run P w := by
    obtain ⟨dst, op, ty, pos, after, gd⟩ := o
    dsimp only at hop
    subst hop
    simp [execOp, resolve, Deferred.ofValue, he, invoke, Array.append_assoc]
  have hst : ∃ v w1, (∃ v' g1, Ending.returned v = Ending.returned v' ∧ Rel g1 [r] [] #[v'] w1 ∧ Stp 0 g.out w g1 w1) ∧ Steps P (lone (b.at ⟨a, []⟩ (.inRegion ops (i :: is) :: k)) cs w) (lone (b.at (Act.put ⟨a, []⟩ o.dst v) (.inRegion ops is :: k)) cs w1) := by
    rcases hC with ⟨hent, hC⟩ | ⟨v, w1, hv, hq⟩
    · exact steps_call (b := b) (k := k) (cs := cs) (rest := is) (v := undef) (w2 := w) ho hwt (hex.trans hent) hC (fun e w' hq => by obtain ⟨v, g', e1, _⟩ := hq; exact ⟨v, e1⟩)
    · exact ⟨v, w1, hq, .one (step_value ho hwt (hex.trans hv))⟩
  obtain ⟨v, w1, ⟨v', g1, e1, h1, h2⟩, hst⟩ := hst
  cases e1
  obtain ⟨q1, q2, q3, q4⟩ := hr.backK h1 h2 hlt (match o.dst with | some d => .slot d | none => .free) (by cases o.dst with | none => exact .inl rfl | some d => exact .inr ⟨d, rfl⟩)
  have hdef : (Act.put ⟨a, []⟩ o.dst v) = ⟨(Act.put ⟨a, []⟩ o.dst v).tmps, []⟩ := by cases o.dst <;> rfl
  rw [hdef] at hst
  refine ⟨_, w1, _, q1.put o.dst q3 (fun d hd => ?_), q2, Nat.le_refl _, hst⟩
  rw [hd] at q4 ⊢
  exact q4 (by simp)
end
end Go.Av

namespace Go.Av
open Go
variable [Lay]
mutual
def ren (f : Nat → Nat) : AV → AV
 | .ptr id o => .ptr (f id) o
 | .rs id a b c d e => .rs (f id) a b c d e
 | .agg cs => .agg (renL f cs)
 | .tup cs => .tup (renL f cs)
 | .iface t v => .iface t (ren f v)
 | .fn k l1 l2 => .fn k (renL f l1) (renL f l2)
 | .any => .any
 | .int k n => .int k n
 | .bool b => .bool b
 | .str s => .str s
 | .sl o l => .sl o l
 | .nilp => .nilp
 | .ip cs => .ip cs
 | .nilI => .nilI
 | .nilF => .nilF
 | .nilM => .nilM
 | .adr b => .adr b
 | .fl l => .fl l
 | .bld id T => .bld (f id) T
def renL (f : Nat → Nat) : List AV → List AV
 | [] => []
 | x :: xs => ren f x :: renL f xs
end
mutual
def allR (p : Nat → Bool) : AV → Bool
 | .ptr id _ => p id
 | .rs id _ _ _ _ _ => p id
 | .bld id _ => p id
 | .agg cs => allRL p cs
 | .tup cs => allRL p cs
 | .iface _ v => allR p v
 | .fn _ l1 l2 => allRL p l1 && allRL p l2
 | _ => true
def allRL (p : Nat → Bool) : List AV → Bool
 | [] => true
 | x :: xs => allR p x && allRL p xs
end
theorem allRL_mem {p : Nat → Bool} : ∀ {l : List AV}, allRL p l = true → ∀ x, x ∈ l → allR p x = true
 | [], _, x, hx => by simp at hx
 | y :: l, h, x, hx => by
  simp only [allRL, Bool.and_eq_true] at h
  rcases List.mem_cons.1 hx with rfl | hx
  ·exact h.1
  ·exact allRL_mem h.2 x hx
theorem renL_eq {f : Nat → Nat} : ∀ l : List AV, renL f l = l.map (ren f)
 | [] => rfl
 | x :: l => by simp [renL, renL_eq l]
mutual
theorem ltR_allR {n : Nat} {p : Nat → Bool} (hp : ∀ i, i < n → p i = true) : ∀ {x : AV}, ltR n x = true → allR p x = true
 | .any, _ | .int _ _, _ | .bool _, _ | .str _, _ | .sl _ _, _ | .nilp, _ | .ip _, _ | .nilI, _ | .nilF, _ | .nilM, _ | .adr _, _ | .fl _, _ => by simp [allR]
 | .rs _ _ _ _ _ _, h => by simp [ltR] at h; simpa [allR] using hp _ h
 | .ptr _ _, h => by simp [ltR] at h; simpa [allR] using hp _ h
 | .bld _ _, h => by simp [ltR] at h; simpa [allR] using hp _ h
 | .agg cs, h => by simp only [ltR] at h; simp only [allR]; exact ltRL_allRL hp h
 | .tup cs, h => by simp only [ltR] at h; simp only [allR]; exact ltRL_allRL hp h
 | .iface _ v, h => by simp only [ltR] at h; simp only [allR]; exact ltR_allR hp h
 | .fn _ l1 l2, h => by simp only [ltR, Bool.and_eq_true] at h; simp only [allR, Bool.and_eq_true]; exact ⟨ltRL_allRL hp h.1, ltRL_allRL hp h.2⟩
theorem ltRL_allRL {n : Nat} {p : Nat → Bool} (hp : ∀ i, i < n → p i = true) : ∀ {l : List AV}, ltRL n l = true → allRL p l = true
 | [], _ => by simp [allRL]
 | x :: xs, h => by simp only [ltRL, Bool.and_eq_true] at h; simp only [allRL, Bool.and_eq_true]; exact ⟨ltR_allR hp h.1, ltRL_allRL hp h.2⟩
end
theorem VR.ren {g g' : Gh} {f : Nat → Nat} {p : Nat → Bool} (hi : ∀ b o v, g.ow b o = .imm v → g'.ow b o = .imm v) (hl : ∀ id l, p id = true → g.loc id = some l → g'.loc (f id) = some l) (hz : ∀ b e, g.fz b = some e → g'.fz b = some e) {av : AV} {v : Value} (h : VR g av v) : allR p av = true → VR g' (ren f av) v := by
 have hget : ∀ {l : List AV} {j : Nat} {av : AV}, (renL f l)[j]? = some av → ∃ x, l[j]? = some x ∧ av = Av.ren f x := by
  intro l j av h
  rw [renL_eq, List.getElem?_map, Option.map_eq_some_iff] at h
  obtain ⟨x, h1, h2⟩ := h
  exact ⟨x, h1, h2.symm⟩
 induction h with
 | any v => intro _; exact .any v
 | int h1 h2 => intro _; exact .int h1 h2
 | bool => intro _; exact .bool
 | str h hb => intro _; exact .str h hb
 | sl hl' hc hb b o es vs ha hes h0 hn hi' hv hq ih =>
  intro _
  refine .sl hl' hc hb b o es vs ha hes h0 hn (fun j av h => hi _ _ _ (hi' j av h)) (fun j av h => (hv j av h).noref hi hz ?_) (fun q1 q2 => ⟨(hq q1 q2).1, (hq q1 q2).2.imp id fun ⟨b, o, e1, e, e2⟩ => ⟨b, o, e1, e, hz _ _ e2⟩⟩)
  have hm := List.mem_of_getElem? h
  obtain ⟨x, hx, hxc⟩ := List.mem_flatMap.1 hm
  exact hn x hx _ hxc
 | rs hloc ha h0 h1 hf h2 hb => intro h; exact .rs (hl _ _ (by simpa [allR] using h) hloc) ha h0 h1 hf h2 hb
 | nilp => intro _; exact .nilp
 | ptr hloc => intro h; exact .ptr (hl _ _ (by simpa [allR] using h) hloc)
 | ip vs hn hi' hv ih => intro _; exact .ip vs hn (fun j av h => hi _ _ _ (hi' j av h)) (fun j av h => (hv j av h).noref hi hz (hn av (List.mem_of_getElem? h)))
 | agg hs _ ih =>
  intro h; simp only [allR] at h
  exact .agg (by rw [renL_eq]; simpa using hs) (fun j av v h1 h2 => by
   obtain ⟨x, hx, rfl⟩ := hget h1
   exact ih j x v hx h2 (allRL_mem h _ (List.mem_of_getElem? hx)))
 | tup hs _ ih =>
  intro h; simp only [allR] at h
  exact .tup (by rw [renL_eq]; simpa using hs) (fun j av v h1 h2 => by
   obtain ⟨x, hx, rfl⟩ := hget h1
   exact ih j x v hx h2 (allRL_mem h _ (List.mem_of_getElem? hx)))
 | iface _ ih => intro h; exact .iface (ih (by simpa [allR] using h))
 | nilI => intro _; exact .nilI
 | fn h1 h2 _ _ ih3 ih4 =>
  intro h; simp only [allR, Bool.and_eq_true] at h
  exact .fn (by rw [renL_eq]; simpa using h1) (by rw [renL_eq]; simpa using h2) (fun j av v h1 h2 => by
   obtain ⟨x, hx, rfl⟩ := hget h1
   exact ih3 j x v hx h2 (allRL_mem h.1 _ (List.mem_of_getElem? hx))) (fun j av v h1 h2 => by
   obtain ⟨x, hx, rfl⟩ := hget h1
   exact ih4 j x v hx h2 (allRL_mem h.2 _ (List.mem_of_getElem? hx)))
 | nilF => intro _; exact .nilF
 | nilM => intro _; exact .nilM
 | adr => intro _; exact .adr
 | fl _ hf ih => intro _; exact .fl (ih (by simp [allR])) (hf.imp id fun ⟨b, e, hh⟩ => ⟨b, e, fun hl => (hh hl).imp fun _ => hz _ _⟩)
 | bld hloc hz' hv => intro h; exact .bld (hl _ _ (by simpa [allR] using h) hloc) (hz _ _ hz') hv
theorem Meek.ren {f : Nat → Nat} {av : AV} (h : Meek av) : Meek (Av.ren f av) := by
  intro oe l e
  cases av <;> simp [Av.ren] at e
  exact h oe l (by rw [e.1, e.2])
theorem Tail.ren {g : Gh} {k : Owner} {f : Nat → Nat} {av : AV} {v : Value} (h : Tail g k av v) : Tail g k (Av.ren f av) v := by
  cases av <;> simp only [Av.ren] <;> first | exact h | exact Tail.meek (by intro l; simp)
def idx : List Nat → Nat → Nat
 | [], _ => 0
 | i :: l, x => if i = x then 0 else idx l x + 1
def nth : List Nat → Nat → Nat
 | [], _ => 0
 | i :: _, 0 => i
 | _ :: l, j+1 => nth l j
theorem idx_get : ∀ {ids : List Nat} {id : Nat}, id ∈ ids → ids[idx ids id]? = some id
 | i :: l, x, h => by
  simp only [idx]
  split
  ·rename_i e; simp [e]
  ·rename_i e
   have : x ∈ l := by rcases List.mem_cons.1 h with h | h; exact absurd h.symm e; exact h
   simpa using idx_get this
theorem nth_get : ∀ {ids : List Nat} {j id : Nat}, ids[j]? = some id → nth ids j = id
 | [], j, id, h => by simp at h
 | i :: l, 0, id, h => by simpa [nth] using h
 | i :: l, j+1, id, h => by simpa [nth] using nth_get (ids := l) (j := j) (by simpa using h)
theorem idx_nth {ids : List Nat} (hn : ids.Nodup) {j id : Nat} (h : ids[j]? = some id) : idx ids id = j := by
 induction ids generalizing j with
 | nil => simp at h
 | cons i l ih =>
  cases j with
  | zero => simp at h; simp [idx, h]
  | succ j =>
   have hm : l[j]? = some id := by simpa using h
   have hne : i ≠ id := by
    intro e; subst e
    exact (List.nodup_cons.1 hn).1 (List.mem_of_getElem? hm)
   simp only [idx, if_neg hne, ih (List.nodup_cons.1 hn).2 hm]
theorem hget_of {hp : Heap} {id : Nat} {cs : List AV} (h : hp[id]? = some (some cs)) : hget hp id = cs := by
  induction hp generalizing id with
  | nil => simp at h
  | cons x hp ih =>
    cases id with
    | zero => simp at h; subst h; rfl
    | succ id => cases x <;> exact ih (by simpa using h)
def focus (ids : List Nat) (hp : Heap) : Heap := ids.map fun id => some (renL (idx ids) (hget hp id))
def hsetO : Heap → Nat → Option (List AV) → Heap
 | [], _, _ => []
 | _ :: l, 0, v => v :: l
 | a :: l, n+1, v => a :: hsetO l n v
theorem hsetO_eq (hp : Heap) (n : Nat) (v : Option (List AV)) : hsetO hp n v = hp.set n v := by
 induction hp generalizing n with
 | nil => rfl
 | cons a l ih => cases n with
  | zero => rfl
  | succ n => simp [hsetO, ih]
def wb (f : Nat → Nat) : List Nat → Heap → Heap → Heap
 | id :: ids, h :: hs, hp => wb f ids hs (hsetO hp id (match h with | some cs => some (renL f cs) | none => none))
 | _, _, hp => hp
theorem wb_len {f : Nat → Nat} : ∀ {ids : List Nat} {hs hp : Heap}, (wb f ids hs hp).length = hp.length
  | [], hs, hp => by cases hs <;> rfl
  | id :: ids, [], hp => rfl
  | id :: ids, h :: hs, hp => by
    have := wb_len (f := f) (ids := ids) (hs := hs) (hp := hsetO hp id (match h with | some cs => some (renL f cs) | none => none))
    rw [hsetO_eq] at this
    simp only [wb, hsetO_eq]
    rw [this]; simp
theorem wb_get {f : Nat → Nat} : ∀ {ids : List Nat} {hs hp : Heap} {id : Nat} {cs : List AV}, ids.Nodup → ids.length = hs.length → (wb f ids hs hp)[id]? = some (some cs) →
  (∃ (j : Nat) (cs' : List AV), ids[j]? = some id ∧ hs[j]? = some (some cs') ∧ cs = renL f cs') ∨ (id ∉ ids ∧ hp[id]? = some (some cs))
 | [], hs, hp, id, cs, _, hl, h => by
  cases hs with
  | nil => exact .inr ⟨by simp, h⟩
  | cons _ _ => simp at hl
 | i :: ids, [], hp, id, cs, _, hl, h => by simp at hl
 | i :: ids, x :: hs, hp, id, cs, hn, hl, h => by
  simp only [wb] at h
  obtain ⟨n1, n2⟩ := List.nodup_cons.1 hn
  rcases wb_get n2 (by simpa using hl) h with ⟨j, cs', e1, e2, e3⟩ | ⟨e1, e2⟩
  ·exact .inl ⟨j+1, cs', by simpa using e1, by simpa using e2, e3⟩
  ·rw [hsetO_eq] at e2
   by_cases hi : i = id
   ·subst hi
    rw [List.getElem?_set] at e2
    simp only [if_true] at e2
    split at e2
    ·cases x with
     | none => simp at e2
     | some cs' => simp at e2; exact .inl ⟨0, cs', by simp, by simp, e2.symm⟩
    ·cases e2
   ·rw [List.getElem?_set_ne hi] at e2
    exact .inr ⟨by simp [Ne.symm hi, e1], e2⟩
def Gh.foc (g : Gh) (ids : List Nat) : Gh where
 ow := fun b o => match g.ow b o with
  | .imm v => .imm v
  | .blk id => if id ∈ ids then .blk (idx ids id) else .free
  | .cell id off => if id ∈ ids then .cell (idx ids id) off else .free
  | .slot _ => .free
  | .free => .free
 loc := fun j => match ids[j]? with
  | some id => g.loc id
  | none => none
 fz := g.fz
def given (ids : List Nat) : Owner → Bool
 | .blk id => decide (id ∈ ids)
 | .cell id _ => decide (id ∈ ids)
 | _ => false
def Gh.bk (g g1 : Gh) (ids : List Nat) : Gh where
 ow := fun b o => match g1.ow b o with
  | .imm v => .imm v
  | .blk j => .blk (nth ids j)
  | .cell j off => .cell (nth ids j) off
  | .slot _ => .free
  | .free => if given ids (g.ow b o) then .free else g.ow b o
 loc := g.loc
 fz := g1.fz
theorem foc_imm {g : Gh} {ids : List Nat} {b o : Nat} {v : Value} : (g.foc ids).ow b o = .imm v ↔ g.ow b o = .imm v := by
  simp only [Gh.foc]; split <;> (try split) <;> simp_all
theorem foc_free {g : Gh} {ids : List Nat} {b o : Nat} (h : given ids (g.ow b o) = false) (hi : ∀ v, g.ow b o ≠ .imm v) : (g.foc ids).ow b o = .free := by
 cases e : g.ow b o with
 | imm v => exact absurd e (hi v)
 | _ => simp_all [Gh.foc, given]
section
variable {P : Program} {tm : List AV} {hp : Heap} {g : Gh} {a : Array Value} {w : World} {ids : List Nat}
theorem Rel.focus (h : Rel g tm hp a w) (hn : ids.Nodup) (hh : ∀ id, id ∈ ids → ∃ cs, hp[id]? = some (some cs)) (hc : ∀ id, id ∈ ids → allRL (fun i => decide (i ∈ ids)) (hget hp id) = true) (args : List AV) (vs : Array Value) (hsz : args.length ≤ vs.size) (hv : ∀ t, VR g (lget args t) (vs.getD t undef))
    (ha : allRL (fun i => decide (i ∈ ids)) args = true) (hm : ∀ x, x ∈ args → Meek x) : Rel (g.foc ids) (renL (idx ids) args) (Av.focus ids hp) vs w := by
  have hloc : ∀ id l, decide (id ∈ ids) = true → g.loc id = some l → (g.foc ids).loc (idx ids id) = some l := fun id l hid hl => by
    have hid : id ∈ ids := by simpa using hid
    simp only [Gh.foc, idx_get hid, hl]
  have hvr : ∀ {x u}, VR g x u → allR (fun i => decide (i ∈ ids)) x = true → VR (g.foc ids) (Av.ren (idx ids) x) u := fun hv hx => hv.ren (fun b o v hv => foc_imm.2 hv) hloc (fun _ _ h => h) hx
  refine ⟨by rw [renL_eq]; simpa using hsz, fun t => ?_, fun j cs hc' => ?_, fun j hj => ?_, fun b o v hv => h.imms _ _ _ (foc_imm.1 hv), fun b o hb => ?_, fzs_of h.fzs (fun b c e f h => ⟨c, h, rfl⟩) (fun b o v hv => foc_imm.2 hv) rfl⟩
  · have e : lget (renL (idx ids) args) t = Av.ren (idx ids) (lget args t) := by
      rw [lget_eq, lget_eq, renL_eq, List.getD_eq_getElem?_getD, List.getD_eq_getElem?_getD, List.getElem?_map]
      cases args[t]? <;> rfl
    rw [e]
    rcases Nat.lt_or_ge t args.length with h' | h'
    · have hmem := List.mem_of_getElem? (lget_some h')
      exact ⟨hvr (hv t) (allRL_mem ha _ hmem), Tail.meek (hm _ hmem).ren⟩
    · rw [lget_ge h']; exact ⟨.any _, Tail.meek (by intro l; simp [Av.ren])⟩
  · simp only [Av.focus, List.getElem?_map, Option.map_eq_some_iff] at hc'
    obtain ⟨id, hid, hcs⟩ := hc'
    simp only [Option.some.injEq] at hcs
    subst hcs
    have hmem := List.mem_of_getElem? hid
    obtain ⟨cs, hcs⟩ := hh id hmem
    have hg : hget hp id = cs := hget_of hcs
    obtain ⟨b, base, c, e1, e2, e3, e4⟩ := h.heap id cs hcs
    refine ⟨b, base, c, by simp only [Gh.foc, hid]; exact e1, by rw [hg, renL_eq]; simpa using e2, fun i hi => by simp only [Gh.foc, e3 i hi, hmem, if_true, idx_nth hn hid], fun i av hi => ?_⟩
    rw [hg, renL_eq, List.getElem?_map, Option.map_eq_some_iff] at hi
    obtain ⟨x, hx, rfl⟩ := hi
    obtain ⟨v, a1, a2, a3⟩ := e4 i x hx
    have hcl := hc id hmem
    rw [hg] at hcl
    refine ⟨v, a1, hvr a2 (allRL_mem hcl _ (List.mem_of_getElem? hx)), Tail.ren ?_⟩
    cases x with
    | sl own l =>
      cases own with
      | none => exact Tail.meek (by intro l; simp)
      | some oe =>
        cases v with
        | slice a' n' cap =>
          rcases a3 with ht | ⟨h0, b, o, es, e1, e2, e3, e4, e5⟩
          · exact .inl ht
          · exact .inr ⟨h0, b, o, es, e1, e2, e3, fun k hk hk' => by simp only [Gh.foc, e4 k hk hk', hmem, if_true, idx_nth hn hid], e5⟩
        | _ => trivial
    | _ => exact Tail.meek (by intro l; simp)
  · simp only [Gh.foc]
    have : ids[j]? = none := by simp [Av.focus] at hj; simp [hj]
    rw [this]
  · have hne : g.ow b o ≠ .free := by intro e; simp [Gh.foc, e] at hb
    refine ⟨(h.owns b o hne).1, fun hi => (h.owns b o hne).2 fun v e => hi v (foc_imm.2 e)⟩
mutual
theorem VR.ltR' {g : Gh} {n : Nat} (hl : ∀ id, n ≤ id → g.loc id = none) : ∀ {x : AV} {u : Value}, VR g x u → ltR n x = true
  | .ptr id o, u, h => by
    cases h with
    | ptr hloc => simp only [ltR, decide_eq_true_eq]; rcases Nat.lt_or_ge id n with h | h; exact h; rw [hl id h] at hloc; cases hloc
  | .rs id _ _ _ _ _, u, h => by
    cases h with
    | rs hloc => simp only [ltR, decide_eq_true_eq]; rcases Nat.lt_or_ge id n with h | h; exact h; rw [hl id h] at hloc; cases hloc
  | .bld id _, u, h => by
    cases h with
    | bld hloc => simp only [ltR, decide_eq_true_eq]; rcases Nat.lt_or_ge id n with h | h; exact h; rw [hl id h] at hloc; cases hloc
  | .agg cs, u, h => by
    cases h with
    | agg hs h => rename_i vs; simp only [ltR]; exact VR.ltRL' hl cs fun x hx => by
                    obtain ⟨j, hj⟩ := List.getElem?_of_mem hx
                    have hjl : j < vs.size := by rw [← hs]; exact (List.getElem?_eq_some_iff.1 hj).1
                    exact ⟨_, h j x _ hj (Array.getElem?_eq_getElem hjl)⟩
  | .tup cs, u, h => by
    cases h with
    | tup hs h => rename_i vs; simp only [ltR]; exact VR.ltRL' hl cs fun x hx => by
                    obtain ⟨j, hj⟩ := List.getElem?_of_mem hx
                    have hjl : j < vs.size := by rw [← hs]; exact (List.getElem?_eq_some_iff.1 hj).1
                    exact ⟨_, h j x _ hj (Array.getElem?_eq_getElem hjl)⟩
  | .iface t v, u, h => by
    cases h with
    | iface h => simp only [ltR]; exact VR.ltR' hl h
  | .fn f l1 l2, u, h => by
    cases h with
    | fn h1 h2 h3 h4 =>
      rename_i a1 a2
      simp only [ltR, Bool.and_eq_true]
      refine ⟨VR.ltRL' hl l1 fun x hx => ?_, VR.ltRL' hl l2 fun x hx => ?_⟩
      · obtain ⟨j, hj⟩ := List.getElem?_of_mem hx
        have hjl : j < a1.size := by rw [← h1]; exact (List.getElem?_eq_some_iff.1 hj).1
        exact ⟨_, h3 j x _ hj (Array.getElem?_eq_getElem hjl)⟩
      · obtain ⟨j, hj⟩ := List.getElem?_of_mem hx
        have hjl : j < a2.size := by rw [← h2]; exact (List.getElem?_eq_some_iff.1 hj).1
        exact ⟨_, h4 j x _ hj (Array.getElem?_eq_getElem hjl)⟩
  | .any, u, h | .int _ _, u, h | .bool _, u, h | .str _, u, h | .sl _ _, u, h | .nilp, u, h | .ip _, u, h | .nilI, u, h | .nilF, u, h | .nilM, u, h | .adr _, u, h | .fl _, u, h => by simp [ltR]
theorem VR.ltRL' {g : Gh} {n : Nat} (hl : ∀ id, n ≤ id → g.loc id = none) : ∀ (l : List AV), (∀ x, x ∈ l → ∃ u, VR g x u) → ltRL n l = true
 | [], _ => by simp [ltRL]
 | x :: l, h => by
  obtain ⟨u, hu⟩ := h x (by simp)
  simp only [ltRL, Bool.and_eq_true]
  exact ⟨VR.ltR' hl hu, VR.ltRL' hl l fun y hy => h y (by simp [hy])⟩
end
theorem bk_imm {g g1 : Gh} {b o : Nat} {v : Value} (h : g1.ow b o = .imm v) : (g.bk g1 ids).ow b o = .imm v := by simp [Gh.bk, h]
theorem Rel.unfocus (h : Rel g tm hp a w) (hn : ids.Nodup) (hh : ∀ id, id ∈ ids → ∃ cs, hp[id]? = some (some cs)) {g1 : Gh} {w1 : World} {r : AV} {v : Value} {hp1 : Heap} (h1 : Rel g1 [r] hp1 #[v] w1) (hl : hp1.length = ids.length) (hs : Stp ids.length (g.foc ids) w g1 w1) :
  Rel (g.bk g1 ids) tm (wb (nth ids) ids hp1 hp) a w1 ∧ Stp hp.length g w (g.bk g1 ids) w1 ∧ VR (g.bk g1 ids) (Av.ren (nth ids) r) v := by
 have himm0 : ∀ b o v, g.ow b o = .imm v → (g.bk g1 ids).ow b o = .imm v := fun b o v hv => bk_imm (hs.imm b o v (foc_imm.2 hv))
 have hgiv : ∀ {b o v}, g.ow b o = .imm v → given ids (g.ow b o) = false := fun e => by rw [e]; rfl
 have hfree : ∀ b o, given ids (g.ow b o) = false → (g.foc ids).ow b o = .free ∨ ∃ v, (g.foc ids).ow b o = .imm v := fun b o hg => by
  by_cases hi : ∃ v, g.ow b o = .imm v
  ·obtain ⟨v, hv⟩ := hi; exact .inr ⟨v, foc_imm.2 hv⟩
  ·exact .inl (foc_free hg fun v hv => hi ⟨v, hv⟩)
 have hkeep : ∀ b o, given ids (g.ow b o) = false → g.ow b o ≠ .free → (g.bk g1 ids).ow b o = g.ow b o := fun b o hg hne => by
  by_cases hi : ∃ v, g.ow b o = .imm v
  ·obtain ⟨v, hv⟩ := hi; rw [hv]; exact himm0 b o v hv
  ·have hf := foc_free hg fun v hv => hi ⟨v, hv⟩
   have := hs.perm b o (h.lt hne) hf
   simp [Gh.bk, this, hg]
 have hcell : ∀ {b o : Nat} {v : Value}, given ids (g.ow b o) = false → w.cell? ⟨b, o, none⟩ = some v → w1.cell? ⟨b, o, none⟩ = some v := fun hg hc => hs.upd.cell (hfree _ _ hg) hc
 have hm : ∀ {x u}, VR g x u → VR (g.bk g1 ids) x u := fun hv => hv.mono himm0 (fun _ _ h => h) (fun b e he => hs.fzm b e (show (g.foc ids).fz b = some e from he))
 have hloc : ∀ j id, ids[j]? = some id → ∀ l, g1.loc j = some l → g.loc id = some l := fun j id hid l hl' => by
  obtain ⟨cs, hcs⟩ := hh id (List.mem_of_getElem? hid)
  obtain ⟨b, base, c, e1, _⟩ := h.heap id cs hcs
  have hf : (g.foc ids).loc j = some (b, base, c) := by simp only [Gh.foc, hid]; exact e1
  have := hs.loc j _ (by exact (List.getElem?_eq_some_iff.1 hid).1) hf
  rw [hl'] at this; rw [e1, ← this]
 have hren : ∀ {x u}, VR g1 x u → VR (g.bk g1 ids) (Av.ren (nth ids) x) u := fun {x u} hv => by
  have hlt : ltR ids.length x = true := VR.ltR' (fun id hid => h1.locs id (by omega)) hv
  refine hv.ren (p := fun i => decide (i < ids.length)) (fun b o v hv => bk_imm hv) (fun j l hj hl' => ?_) (fun _ _ h => h) (ltR_allR (fun i hi => by simpa using hi) hlt)
  have hj : j < ids.length := by simpa using hj
  have hid := List.getElem?_eq_getElem hj
  rw [nth_get hid]
  exact hloc j _ hid l hl'
 have ht : ∀ {k : Owner} {x u}, given ids k = false → k ≠ .free → Tail g k x u → Tail (g.bk g1 ids) k x u := by
  intro k x u hg hk ht
  cases x with
  | sl own l =>
   cases own with
   | none => exact Tail.meek (by intro l; simp)
   | some oe =>
    cases u with
    | slice a' n' cap =>
     rcases ht with ht | ⟨h0, b, o, es, e1, e2, e3, e4, e5, e6⟩
     ·exact .inl ⟨ht.1, ht.2.1, ht.2.2.imp id (fun ⟨b, o, e1, e, e2⟩ => ⟨b, o, e1, e, hs.fzm b e e2⟩)⟩
     ·exact .inr ⟨h0, b, o, es, e1, e2, e3, fun j hj hj' => by
       have := e4 j hj hj'
       rw [hkeep _ _ (by rw [this]; exact hg) (by rw [this]; exact hk)]; exact this, e5, fun e' he => by obtain ⟨e, q1, q2⟩ := e6 e' he; exact ⟨e, hs.fzm b e q1, q2⟩⟩
    | _ => trivial
  | _ => exact Tail.meek (by intro l; simp)
 refine ⟨⟨h.size, fun t => ⟨hm (h.slots t).1, ht rfl (by simp) (h.slots t).2⟩, fun id cs hc => ?_, fun id hid => h.locs id (by rwa [wb_len] at hid), fun b o v hv => ?_, fun b o hv => ?_, fzs_of h1.fzs (fun b c e f h => ⟨c, h, rfl⟩) (fun b o v hv => bk_imm hv) rfl⟩, ⟨himm0, fun b o hb hv => ?_, fun _ _ _ h => h, ?_, fun b e he => hs.fzm b e he, fun b hb hn => hs.fzn b hb hn⟩, hren (h1.slots 0).1⟩
 ·rcases wb_get hn hl.symm hc with ⟨j, cs', e1, e2, rfl⟩ | ⟨e1, e2⟩
  ·obtain ⟨b, base, c, f1, f2, f3, f4⟩ := h1.heap j cs' e2
   refine ⟨b, base, c, hloc j id e1 _ f1, by rw [renL_eq]; simpa using f2, fun i hi => by simp only [Gh.bk, f3 i hi, nth_get e1], fun i av hi => ?_⟩
   rw [renL_eq, List.getElem?_map, Option.map_eq_some_iff] at hi
   obtain ⟨x, hx, rfl⟩ := hi
   obtain ⟨v, a1, a2, a3⟩ := f4 i x hx
   refine ⟨v, a1, hren a2, Tail.ren ?_⟩
   cases x with
   | sl own l =>
    cases own with
    | none => exact Tail.meek (by intro l; simp)
    | some oe =>
     cases v with
     | slice a' n' cap =>
      rcases a3 with ht | ⟨h0, b, o, es, g1', g2, g3, g4, g5⟩
      ·exact .inl ht
      ·exact .inr ⟨h0, b, o, es, g1', g2, g3, fun k hk hk' => by simp only [Gh.bk, g4 k hk hk', nth_get e1], g5⟩
     | _ => trivial
   | _ => exact Tail.meek (by intro l; simp)
  ·obtain ⟨b, base, c, f1, f2, f3, f4⟩ := h.heap id cs e2
   have hgv : given ids (.blk id) = false := by simp [given, e1]
   refine ⟨b, base, c, f1, f2, fun j hj => by rw [hkeep _ _ (by rw [f3 j hj]; exact hgv) (by rw [f3 j hj]; simp)]; exact f3 j hj, fun j av hj => ?_⟩
   obtain ⟨v, a1, a2, a3⟩ := f4 j av hj
   have hj' : j < c := Nat.lt_of_lt_of_le (List.getElem?_eq_some_iff.1 hj).1 f2
   exact ⟨v, hcell (by rw [f3 j hj']; exact hgv) a1, hm a2, ht (by simp [given, e1]) (by simp) a3⟩
 ·cases e : g1.ow b o with
  | imm v' =>
   have : (g.bk g1 ids).ow b o = .imm v' := bk_imm e
   rw [this] at hv; cases hv
   exact h1.imms _ _ _ e
  | free =>
   simp only [Gh.bk, e] at hv
   split at hv
   ·cases hv
   ·have := hs.imm b o v (foc_imm.2 hv)
    rw [e] at this; cases this
  | _ => simp [Gh.bk, e] at hv
 ·cases e : g1.ow b o with
  | imm v' =>
   exact ⟨(h1.owns b o (by simp [e])).1, fun hi => absurd (bk_imm e) (hi v')⟩
  | blk j => exact ⟨(h1.owns b o (by simp [e])).1, fun _ => (h1.owns b o (by simp [e])).2 (by simp [e])⟩
  | cell j off => exact ⟨(h1.owns b o (by simp [e])).1, fun _ => (h1.owns b o (by simp [e])).2 (by simp [e])⟩
  | slot j => simp [Gh.bk, e] at hv
  | free =>
   have hbk : (g.bk g1 ids).ow b o = if given ids (g.ow b o) then .free else g.ow b o := by simp [Gh.bk, e]
   rw [hbk] at hv
   split at hv
   ·exact absurd rfl hv
   ·rename_i hg
    obtain ⟨⟨v, hc⟩, hf⟩ := h.owns b o hv
    rw [hbk, if_neg hg]
    exact ⟨⟨v, hcell (by simpa using hg) hc⟩, fun hi => by rw [hs.upd.frozen (foc_free (by simpa using hg) hi) hc]; exact hf hi⟩
 ·have hf : (g.foc ids).ow b o = .free := by simp [Gh.foc, hv]
  have := hs.perm b o hb hf
  simp [Gh.bk, this, hv, given]
 ·refine ⟨hs.upd.os, hs.upd.tape, hs.upd.output, hs.upd.size, fun b c e f hb => ?_, hs.upd.other⟩
  obtain ⟨c', f', q1, q2, q3, q4, q5⟩ := hs.upd.cells b c e f hb
  refine ⟨c', f', q1, q2, fun o ho => q3 o ?_, q4, fun o ho => q5 o (by simp [Gh.foc, ho])⟩
  rcases ho with ho | ⟨v, ho⟩
  ·exact .inl (by simp [Gh.foc, ho])
  ·exact .inr ⟨v, foc_imm.2 ho⟩
end
def hasB : List Nat → Nat → Bool
 | [], _ => false
 | i :: l, x => Nat.beq i x || hasB l x
theorem hasB_mem {l : List Nat} {x : Nat} : hasB l x = true ↔ x ∈ l := by
 induction l with
 | nil => simp [hasB]
 | cons i l ih => simp only [hasB, Bool.or_eq_true, ih, List.mem_cons, Nat.beq_eq]; exact or_congr_left eq_comm
def ndB : List Nat → Bool
 | [] => true
 | i :: l => !hasB l i && ndB l
theorem ndB_nodup {l : List Nat} (h : ndB l = true) : l.Nodup := by
 induction l with
 | nil => simp
 | cons i l ih =>
  simp only [ndB, Bool.and_eq_true, Bool.not_eq_true'] at h
  refine List.nodup_cons.2 ⟨fun hm => ?_, ih h.2⟩
  rw [hasB_mem.2 hm] at h; cases h.1
def isB : Heap → Nat → Bool
 | [], _ => false
 | some _ :: _, 0 => true
 | none :: _, 0 => false
 | _ :: l, n+1 => isB l n
theorem isB_spec : ∀ {hp : Heap} {id : Nat}, isB hp id = true → ∃ cs, hp[id]? = some (some cs)
 | [], _, h => by simp [isB] at h
 | some cs :: _, 0, _ => ⟨cs, rfl⟩
 | none :: _, 0, h => by simp [isB] at h
 | some _ :: l, n+1, h => by simpa using isB_spec (hp := l) (id := n) (by simpa [isB] using h)
 | none :: l, n+1, h => by simpa using isB_spec (hp := l) (id := n) (by simpa [isB] using h)
def fcOk (ids : List Nat) (hp : Heap) (as : List AV) : Bool :=
 ndB ids && ids.all (fun id => isB hp id && allRL (hasB ids) (hget hp id)) && allRL (hasB ids) as
theorem hasB_eq {ids : List Nat} : hasB ids = fun i => decide (i ∈ ids) := by
 funext i
 cases h : hasB ids i with
 | true => simpa using hasB_mem.1 h
 | false => symm; simp only [decide_eq_false_iff_not]; intro hm; rw [hasB_mem.2 hm] at h; cases h
section
variable {P : Program} {tm : List AV} {hp : Heap} {ops : Array Oper} {i : Nat} {o : Oper}
theorem sim_callF {fo : Operand} {args : Array Operand} {tys : Array TypeId} (ho : ops[i]? = some o) (hop : o.op = .call { callee := .value fo, args, argTypes := tys }) (hok : okOper o = true) (hw : Wanted ops.toList o tm) {f : FuncId} {as : List AV}
    (hcal : calleeOf (opv tm fo) (allOp tm args) = some (f, as)) {ids : List Nat} (hfc : fcOk ids hp as = true) {r : AV} {hp1 : Heap} (hA : ACall P f (renL (idx ids) as) (focus ids hp) r hp1) : Sim1 P ops i tm hp (put tm o.dst (ren (nth ids) r)) (wb (nth ids) ids hp1 hp) := by
  obtain ⟨hlt, hlen, hmk, hcl⟩ := hA
  intro g a w hL hr b is k cs
  simp only [fcOk, Bool.and_eq_true, List.all_eq_true] at hfc
  obtain ⟨⟨hnd, hids⟩, hin⟩ := hfc
  have hnd := ndB_nodup hnd
  rw [hasB_eq] at hin hids
  have hpres : ∀ id, id ∈ ids → ∃ cs, hp[id]? = some (some cs) := fun id h => isB_spec (hids id h).1
  have hlenf : (focus ids hp).length = ids.length := by simp [focus]
  have hall : ∀ x, x ∈ o.op.operands → okOpd x = true := fun x hx => List.all_eq_true.1 hok x (by simpa using hx)
  rw [hop] at hall
  obtain ⟨a1, a2, he, hsz, hvr, hmeek⟩ := vr_args hr (hall fo (by simp [Op.operands, Call.operands])) (fun x hx => hall x (by simp [Op.operands, Call.operands]; exact .inr hx)) hcal
  have hro := hr.focus hnd hpres (fun id h => (hids id h).2) as (a1 ++ args.map (Act.eval ⟨a, []⟩) ++ a2) (by omega) hvr hin hmeek
  have hC := hcl (g.foc ids) w _ ⟨fun b o v hv => foc_imm.2 (hL.1 b o v hv), hL.2⟩ hro (by rw [renL_eq]; simpa using hsz.symm)
  have hwt := wanted_of hr hw
  have hex : (execOp (Act.eval ⟨a, []⟩) o).run P w = (callFunc f (a1 ++ args.map (Act.eval ⟨a, []⟩) ++ a2)).run P w := by
    obtain ⟨dst, op, ty, pos, after, gd⟩ := o
    dsimp only at hop
    subst hop
    simp [execOp, resolve, Deferred.ofValue, he, invoke, Array.append_assoc]
  have hst : ∃ v w1, (∃ v' g1, Ending.returned v = Ending.returned v' ∧ Rel g1 [r] hp1 #[v'] w1 ∧ Stp (focus ids hp).length (g.foc ids) w g1 w1) ∧ Steps P (lone (b.at ⟨a, []⟩ (.inRegion ops (i :: is) :: k)) cs w) (lone (b.at (Act.put ⟨a, []⟩ o.dst v) (.inRegion ops is :: k)) cs w1) := by
    rcases hC with ⟨hent, hC⟩ | ⟨v, w1, hv, hq⟩
    · exact steps_call (b := b) (k := k) (cs := cs) (rest := is) (v := undef) (w2 := w) ho hwt (hex.trans hent) hC (fun e w' hq => by obtain ⟨v, g', e1, _⟩ := hq; exact ⟨v, e1⟩)
    · exact ⟨v, w1, hq, .one (step_value ho hwt (hex.trans hv))⟩
  obtain ⟨v, w1, ⟨v', g1, e1, h1, h2⟩, hst⟩ := hst
  cases e1
  rw [hlenf] at h2
  obtain ⟨q1, q2, q3⟩ := hr.unfocus hnd hpres h1 (by omega) h2
  have hdef : (Act.put ⟨a, []⟩ o.dst v) = ⟨(Act.put ⟨a, []⟩ o.dst v).tmps, []⟩ := by cases o.dst <;> rfl
  rw [hdef] at hst
  exact ⟨_, w1, _, q1.put o.dst q3 (fun d _ => Tail.meek hmk.ren), q2, by rw [wb_len]; exact Nat.le_refl _, hst⟩
end
end Go.Av

namespace Go.Av
open Go
variable [Lay]
def ACallB (P : Program) (f : FuncId) (args : List AV) (r : AV) (cs : List AV) : Prop :=
 ltR 1 r = true ∧ ltRL 1 cs = true ∧ Meek r ∧ ∀ (g : Gh) (w : World) (vs : Array Value), LayOk g w → Rel g args [] vs w → vs.size = args.length →
  Ans P f vs w fun e w' => ∃ v g', e = .returned v ∧ Rel g' [r] [some cs] #[v] w' ∧ Stp 0 g w g' w'
def newO (n : Nat) : Owner → Owner
 | .imm v => .imm v
 | .blk 0 => .blk n
 | .cell 0 j => .cell n j
 | _ => .free
theorem newO_imm {n : Nat} {o : Owner} {v : Value} : newO n o = .imm v ↔ o = .imm v := by
  unfold newO; split <;> simp_all
theorem newO_ne {n : Nat} {o : Owner} (h : newO n o ≠ .free) : o ≠ .free := fun e => h (by rw [e]; rfl)
def Gh.backB (g g1 : Gh) (n : Nat) : Gh where
 ow := fun b o => match g.ow b o with
  | .free => newO n (g1.ow b o)
  | x => x
 loc := fun id => if id = n then g1.loc 0 else g.loc id
 fz := g1.fz
section
variable {P : Program} {tm : List AV} {hp : Heap} {g : Gh} {a : Array Value} {w : World}
theorem backB_imm {g1 : Gh} {n : Nat} {b o : Nat} {v : Value} (h : g.ow b o = .imm v) : (g.backB g1 n).ow b o = .imm v := by simp [Gh.backB, h]
theorem Rel.backB (h : Rel g tm hp a w) {g1 : Gh} {w1 : World} {r : AV} {v : Value} {cs : List AV} (h1 : Rel g1 [r] [some cs] #[v] w1) (hs : Stp 0 g.out w g1 w1) (hr : ltR 1 r = true) (hcs : ltRL 1 cs = true) :
    Rel (g.backB g1 hp.length) tm (hp ++ [some (renL (fun _ => hp.length) cs)]) a w1 ∧ Stp hp.length g w (g.backB g1 hp.length) w1 ∧ VR (g.backB g1 hp.length) (ren (fun _ => hp.length) r) v := by
  have hfree : ∀ b o, g1.ow b o ≠ .free → (∀ v, g1.ow b o ≠ .imm v) → g.ow b o = .free := fun b o h0 hi => by
    cases e : g.ow b o with
    | free => rfl
    | imm v' => exact absurd (hs.imm b o v' (out_imm.2 e)) (hi v')
    | _ =>
      have hb := h.lt (b := b) (o := o) (by simp [e])
      exact absurd (hs.perm b o hb (by simp [Gh.out, e])) h0
  have himm : ∀ b o v, g1.ow b o = .imm v → (g.backB g1 hp.length).ow b o = .imm v := fun b o v hv => by
    simp only [Gh.backB]
    cases e : g.ow b o with
    | free => simp only []; rw [newO_imm]; exact hv
    | imm v' =>
      have := hs.imm b o v' (out_imm.2 e)
      rw [hv] at this; cases this; rfl
    | _ =>
      have hb := h.lt (b := b) (o := o) (by simp [e])
      have := hs.perm b o hb (by simp [Gh.out, e])
      rw [hv] at this; cases this
  have hnew : ∀ b o, (∀ v, g1.ow b o ≠ .imm v) → g1.ow b o ≠ .free → (g.backB g1 hp.length).ow b o = newO hp.length (g1.ow b o) := fun b o hi h0 => by
    simp only [Gh.backB]; rw [hfree b o h0 hi]
  have hkeep : ∀ b o, g.ow b o ≠ .free → (g.backB g1 hp.length).ow b o = g.ow b o := fun b o hne => by
    cases e : g.ow b o <;> simp_all [Gh.backB]
  have hout : ∀ b o, g.out.ow b o = .free ∨ ∃ v, g.out.ow b o = .imm v := fun b o => by
    simp only [Gh.out]; split
    · exact .inr ⟨_, rfl⟩
    · exact .inl rfl
  have hcell : ∀ {b o : Nat} {v : Value}, w.cell? ⟨b, o, none⟩ = some v → w1.cell? ⟨b, o, none⟩ = some v := fun hc => hs.upd.cell (hout _ _) hc
  have hloc : ∀ id l, g.loc id = some l → (g.backB g1 hp.length).loc id = some l := fun id l hl => by
    have : id ≠ hp.length := fun e => by
      have := h.locs id (by omega)
      rw [hl] at this; cases this
    simp only [Gh.backB, if_neg this]; exact hl
  have hm : ∀ {x u}, VR g x u → VR (g.backB g1 hp.length) x u := fun hv => hv.mono (g' := g.backB g1 hp.length) (fun b o v hv => backB_imm hv) hloc (fun b e he => hs.fzm b e (show g.out.fz b = some e from he))
  have hm1 : ∀ {x u}, ltR 1 x = true → VR g1 x u → VR (g.backB g1 hp.length) (ren (fun _ => hp.length) x) u := fun hx hv =>
    VR.ren (g := g1) (g' := g.backB g1 hp.length) (f := fun _ => hp.length) (p := fun i => decide (i < 1)) himm (fun id l hp0 hl => by
      obtain rfl : id = 0 := by simpa using hp0
      simp only [Gh.backB, if_true]; exact hl) (fun b e he => he) hv (ltR_allR (fun i hi => by simpa using hi) hx)
  have ht : ∀ {k' : Owner} {x u}, k' ≠ .free → Tail g k' x u → Tail (g.backB g1 hp.length) k' x u := by
    intro k' x u hk' ht
    cases x with
    | sl own l =>
      cases own with
      | none => exact Tail.meek (by intro l; simp)
      | some oe =>
        cases u with
        | slice a' n' cap =>
          rcases ht with ht | ⟨h0, b, o, es, e1, e2, e3, e4, e5, e6⟩
          · exact .inl ⟨ht.1, ht.2.1, ht.2.2.imp id (fun ⟨b, o, e1, e, e2⟩ => ⟨b, o, e1, e, hs.fzm b e e2⟩)⟩
          · exact .inr ⟨h0, b, o, es, e1, e2, e3, fun j hj hj' => by rw [hkeep _ _ (by rw [e4 j hj hj']; exact hk')]; exact e4 j hj hj', e5, fun e' he => by obtain ⟨e, q1, q2⟩ := e6 e' he; exact ⟨e, hs.fzm b e q1, q2⟩⟩
        | _ => trivial
    | _ => exact Tail.meek (by intro l; simp)
  have ht1 : ∀ {j : Nat} {x u}, Tail g1 (.cell 0 j) x u → Tail (g.backB g1 hp.length) (.cell hp.length j) x u := by
    intro j x u ht
    cases x with
    | sl own l =>
      cases own with
      | none => exact Tail.meek (by intro l; simp)
      | some oe =>
        cases u with
        | slice a' n' cap =>
          rcases ht with ht | ⟨h0, b, o, es, e1, e2, e3, e4, e5⟩
          · exact .inl ht
          · exact .inr ⟨h0, b, o, es, e1, e2, e3, fun i hi hi' => by
              rw [hnew _ _ (by intro v; rw [e4 i hi hi']; simp) (by rw [e4 i hi hi']; simp), e4 i hi hi']; rfl, e5⟩
        | _ => trivial
    | _ => exact Tail.meek (by intro l; simp)
  refine ⟨⟨h.size, fun t => ⟨hm (h.slots t).1, ht (by simp) (h.slots t).2⟩, fun id cs' hc => ?_, fun id hid => ?_, fun b o v hv => ?_, fun b o hv => ?_, fzs_of h1.fzs (fun b c e f h => ⟨c, h, rfl⟩) himm rfl⟩, ⟨fun b o v hv => backB_imm hv, fun b o hb hv => ?_, fun id l hid hl => hloc id l hl, ?_, fun b e he => hs.fzm b e he, fun b hb hn => hs.fzn b hb hn⟩, hm1 hr (h1.slots 0).1⟩
  · rw [List.getElem?_append] at hc
    split at hc
    · rename_i hlt
      obtain ⟨b, base, c, e1, e2, e3, e4⟩ := h.heap id cs' hc
      refine ⟨b, base, c, hloc _ _ e1, e2, fun j hj => by rw [hkeep _ _ (by rw [e3 j hj]; simp)]; exact e3 j hj, fun j av hj => ?_⟩
      obtain ⟨v, a1, a2, a3⟩ := e4 j av hj
      exact ⟨v, hcell a1, hm a2, ht (by simp) a3⟩
    · rename_i hge
      have hid : id = hp.length := by
        have := (List.getElem?_eq_some_iff.1 hc).1
        simp at this; omega
      subst hid
      simp at hc
      subst hc
      obtain ⟨b, base, c, e1, e2, e3, e4⟩ := h1.heap 0 cs rfl
      refine ⟨b, base, c, by simp only [Gh.backB, if_true]; exact e1, by rw [renL_eq]; simpa using e2, fun j hj => ?_, fun j av hj => ?_⟩
      · rw [hnew _ _ (by intro v; rw [e3 j hj]; simp) (by rw [e3 j hj]; simp), e3 j hj]; rfl
      · rw [renL_eq, List.getElem?_map, Option.map_eq_some_iff] at hj
        obtain ⟨av0, hj0, rfl⟩ := hj
        obtain ⟨v, a1, a2, a3⟩ := e4 j av0 hj0
        exact ⟨v, a1, hm1 (ltRL_mem hcs _ (List.mem_of_getElem? hj0)) a2, (ht1 a3).ren⟩
  · have : id ≠ hp.length := by simp at hid; omega
    simp only [Gh.backB, if_neg this]; exact h.locs id (by simp at hid; omega)
  · by_cases hne : g.ow b o = .free
    · simp only [Gh.backB, hne, newO_imm] at hv
      exact h1.imms _ _ _ hv
    · rw [hkeep _ _ hne] at hv; exact hcell (h.imms _ _ _ hv)
  · by_cases hne : g.ow b o = .free
    · simp only [Gh.backB, hne] at hv ⊢
      have := h1.owns b o (newO_ne hv)
      exact ⟨this.1, fun hi => this.2 fun v e => hi v (newO_imm.2 e)⟩
    · rw [hkeep _ _ hne]
      obtain ⟨⟨v, hv⟩, hf⟩ := h.owns b o hne
      exact ⟨⟨v, hcell hv⟩, fun hi => by
        rw [hs.upd.frozen (by rcases hout b o with h | ⟨v, h⟩; exact h; exact absurd (out_imm.1 h) (hi v)) hv]; exact hf hi⟩
  · have := hs.perm b o hb (by simp [Gh.out, hv])
    simp [Gh.backB, hv, this, newO]
  · refine ⟨hs.upd.os, hs.upd.tape, hs.upd.output, hs.upd.size, fun b c e f hb => ?_, hs.upd.other⟩
    obtain ⟨c', f', q1, q2, q3, q4, q5⟩ := hs.upd.cells b c e f hb
    exact ⟨c', f', q1, q2, fun o _ => q3 o (hout b o), q4, fun o ho => q5 o (by simp [Gh.out, ho])⟩
end
section
variable {P : Program} {tm : List AV} {hp : Heap} {ops : Array Oper} {i : Nat} {o : Oper}
theorem sim_callB {fo : Operand} {args : Array Operand} {tys : Array TypeId} (ho : ops[i]? = some o) (hop : o.op = .call { callee := .value fo, args, argTypes := tys }) (hok : okOper o = true) (hw : Wanted ops.toList o tm) {f : FuncId} {as : List AV}
    (hcal : calleeK (opv tm fo) (allOp tm args) = some (f, as)) (hn : ltRL 0 as = true) {r : AV} {cs : List AV} (hA : ACallB P f as r cs) : Sim1 P ops i tm hp (put tm o.dst (ren (fun _ => hp.length) r)) (hp ++ [some (renL (fun _ => hp.length) cs)]) := by
  obtain ⟨hlt, hlc, hmk, hcl⟩ := hA
  intro g a w hL hr b is k fs
  have hall : ∀ x, x ∈ o.op.operands → okOpd x = true := fun x hx => List.all_eq_true.1 hok x (by simpa using hx)
  rw [hop] at hall
  obtain ⟨a1, a2, he, hsz, hvr, hmeek⟩ := vr_argsK hr (hall fo (by simp [Op.operands, Call.operands])) (fun x hx => hall x (by simp [Op.operands, Call.operands]; exact .inr hx)) hcal
  have hro := hr.outK as (a1 ++ args.map (Act.eval ⟨a, []⟩) ++ a2) (by omega) hvr (fun x hx => ltRL_mem hn x hx) hmeek
  have hC := hcl g.out w _ ⟨fun b o v hv => out_imm.2 (hL.1 b o v hv), hL.2⟩ hro hsz.symm
  have hwt := wanted_of hr hw
  have hex : (execOp (Act.eval ⟨a, []⟩) o).run P w = (callFunc f (a1 ++ args.map (Act.eval ⟨a, []⟩) ++ a2)).run P w := by
    obtain ⟨dst, op, ty, pos, after, gd⟩ := o
    dsimp only at hop
    subst hop
    simp [execOp, resolve, Deferred.ofValue, he, invoke, Array.append_assoc]
  have hst : ∃ v w1, (∃ v' g1, Ending.returned v = Ending.returned v' ∧ Rel g1 [r] [some cs] #[v'] w1 ∧ Stp 0 g.out w g1 w1) ∧ Steps P (lone (b.at ⟨a, []⟩ (.inRegion ops (i :: is) :: k)) fs w) (lone (b.at (Act.put ⟨a, []⟩ o.dst v) (.inRegion ops is :: k)) fs w1) := by
    rcases hC with ⟨hent, hC⟩ | ⟨v, w1, hv, hq⟩
    · exact steps_call (b := b) (k := k) (cs := fs) (rest := is) (v := undef) (w2 := w) ho hwt (hex.trans hent) hC (fun e w' hq => by obtain ⟨v, g', e1, _⟩ := hq; exact ⟨v, e1⟩)
    · exact ⟨v, w1, hq, .one (step_value ho hwt (hex.trans hv))⟩
  obtain ⟨v, w1, ⟨v', g1, e1, h1, h2⟩, hst⟩ := hst
  cases e1
  obtain ⟨q1, q2, q3⟩ := hr.backB h1 h2 hlt hlc
  have hdef : (Act.put ⟨a, []⟩ o.dst v) = ⟨(Act.put ⟨a, []⟩ o.dst v).tmps, []⟩ := by cases o.dst <;> rfl
  rw [hdef] at hst
  exact ⟨_, w1, _, q1.put o.dst q3 (fun d hd => Tail.meek hmk.ren), q2, by simp, hst⟩
end
end Go.Av

