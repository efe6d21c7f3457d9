import Derived.Test.YtphdekcijjgbeaaGreatDoorAv4
set_option linter.unusedSectionVars false
set_option linter.unusedVariables false
set_option linter.unusedSimpArgs false
set_option linter.unnecessarySimpa false
namespace Go.Av
open Go
variable [Lay]
def dRt (rt : List (Nat × Nat)) (o : Oper) : Option Nat := match o.dst with
 | some t => rtGet rt t
 | none => none
def okA (rt : List (Nat × Nat)) (n : Nat) (o : Oper) : Bool := bif isAl o then o.guard.isNone && (dRt rt o == some n) && !Nat.beq n OO && !pureB rt n else rtOk1 rt o
def alOk (rt : List (Nat × Nat)) : Nat → List Oper → Bool
 | _, [] => true
 | n, o :: os => okA rt n o && alOk rt (bif isAl o then n+1 else n) os
def blk2 (rt : List (Nat × Nat)) (o : Oper) : Option Nat := bif isAl o then dRt rt o else blkOf rt o
def indep2 (rt : List (Nat × Nat)) (all : List Oper) (a b : Oper) : Bool :=
 indepR rt all a b || indepO rt all a b || (apart (wrA all a) (rdA all b) && apart (wrA all b) (rdA all a) && apart (wrA all a) (wrA all b) && neO (blk2 rt a) (blk2 rt b) && (isAl a != isAl b))
theorem neO_spec {x y : Option Nat} (h : neO x y = true) : ∃ i j, x = some i ∧ y = some j ∧ i ≠ j := by
 unfold neO at h
 split at h
 ·rename_i i j; exact ⟨i, j, rfl, rfl, by simpa using h⟩
 ·cases h
theorem hset_len {hp : Heap} {i : Nat} {cs : List AV} : (hset hp i cs).length = hp.length := by rw [hset_eq]; simp
theorem updH_len {hp : Heap} {i : Nat} {u : Option (List AV)} : (updH hp i u).length = hp.length := by cases u <;> simp [updH, hset_len]
theorem updH_app {hp xs : Heap} {i : Nat} {u : Option (List AV)} (h : i < hp.length ∨ hp.length + xs.length ≤ i) : updH (hp ++ xs) i u = updH hp i u ++ xs := by
 cases u with
 | none => rfl
 | some cs =>
  rcases h with h | h
  ·exact hset_app h
  ·show hset (hp ++ xs) i cs = hset hp i cs ++ xs
   rw [hset_eq, hset_eq, List.set_eq_of_length_le (by simp; omega), List.set_eq_of_length_le (by omega)]
theorem hget_ge {hp : Heap} {i : Nat} (h : hp.length ≤ i) : hget hp i = [] := by
 rcases Nat.eq_zero_or_pos (hget hp i).length with e | e
 ·exact List.length_eq_zero_iff.1 e
 ·have := hget_lt e; omega
section
variable {P : Program} {nb : Nat} {all : List Oper} {o : Oper}
theorem T.len {S S1 : St} (ho : isAl o = false) (h : T P nb true all o S S1) : S1.2.length = S.2.length := by
 cases hw : wrH all o with
 | false => rw [h.out.2.2 hw]
 | true =>
  obtain ⟨dst, op, ty, pos, after, gd⟩ := o
  cases op with
  | load t x => exact (T.ldApp (S1 := S1) (tm := S.1) (hp := S.2) rfl h []).2
  | store t x y =>
   cases h with
   | @op tm hp hw hc =>
    simp only [opM]
    split
    ·simp [hset_len]
    ·rfl
   | skip hw => rfl
   | call hw hop hcal hn hA => rfl
   | callF hd hw hop hcal hfc hA => cases hd
   | callO hw hop hcal hn hA => rfl
   | opx hd hw hs => cases hd
  | alloc t => cases ho
  | box t x => cases ho
  | _ => cases hw
theorem T.al {S S1 : St} (ho : isAl o = true) (hg : o.guard = none) (h : T P nb true all o S S1) : S1.2.length = S.2.length + 1 ∧ (∀ t, o.dst = some t → lget S1.1 t = .any ∨ lget S1.1 t = .ptr S.2.length 0) ∧ (∀ t, o.dst ≠ some t → lget S1.1 t = lget S.1 t) := by
 have hput : ∀ (l : List AV) (d : Option Nat) (v : AV) (t : Nat), d = some t → lget (put l d v) t = .any ∨ lget (put l d v) t = v := fun l d v t e => by
  subst e; simp only [put]; rw [lget_lset_eq]; split
  ·exact .inr rfl
  ·exact .inl rfl
 obtain ⟨dst, op, ty, pos, after, gd⟩ := o
 dsimp only at hg
 subst hg
 cases op with
 | alloc t =>
  cases h with
  | @op tm hp hw hc =>
   cases hz : zeroOf P t with
   | none => simp only [opM, hz] at hc; exact (hc False rfl).elim
   | some cs =>
    simp only [opM, hz]
    refine ⟨by simp, fun t e => hput _ _ _ t e, fun t e => lget_put_ne e⟩
  | skip hw => exact hw.elim
  | call hw hop hcal hn hA => cases hop
  | callF hd hw hop hcal hfc hA => cases hd
  | callO hw hop hcal hn hA => cases hop
  | opx hd hw hs => cases hd
 | box t x =>
  cases h with
  | @op tm hp hw hc =>
   simp only [opM]
   refine ⟨by simp, fun t e => hput _ _ _ t e, fun t e => lget_put_ne e⟩
  | skip hw => exact hw.elim
  | call hw hop hcal hn hA => cases hop
  | callF hd hw hop hcal hfc hA => cases hd
  | callO hw hop hcal hn hA => cases hop
  | opx hd hw hs => cases hd
 | _ => cases ho
theorem T.invA {rt : List (Nat × Nat)} {S S1 : St} (ha : okA rt S.2.length o = true) (hI : InvR rt S) (h : T P nb true all o S S1) : InvR rt S1 ∧ S1.2.length = (bif isAl o then S.2.length + 1 else S.2.length) := by
 unfold okA at ha
 cases hal : isAl o with
 | false => rw [hal] at ha; exact ⟨h.inv1 ha hI, h.len hal⟩
 | true =>
  rw [hal] at ha
  simp only [cond_true, Bool.and_eq_true, Option.isNone_iff_eq_none, beq_iff_eq, Bool.not_eq_true'] at ha
  obtain ⟨h1, h2, h3⟩ := T.al hal ha.1.1.1 h
  refine ⟨⟨fun t i hti => ?_, fun i hi => ?_⟩, h1⟩
  ·by_cases e : o.dst = some t
   ·have hr := ha.1.1.2
    unfold dRt at hr
    rw [e] at hr
    dsimp only at hr
    rw [hti] at hr
    obtain rfl := Option.some.inj hr
    rcases h2 t e with h | h
    ·rw [h]; exact okRt_any
    ·rw [h, okRt_ne ha.1.2]; simp [okRt0]
   ·rw [h3 t e]; exact hI.1 t i hti
  ·have hni : i ≠ S.2.length := fun e => by subst e; rw [hi] at ha; cases ha.2
   obtain ⟨xs, x1, _⟩ := T.alH (S1 := S1) (tm := S.1) (hp := S.2) (hp2 := S.2) hal h rfl
   have hxl : xs.length = 1 := by rw [x1] at h1; simp at h1; omega
   rw [x1]
   rcases Nat.lt_or_ge i S.2.length with h4 | h4
   ·rw [hget_app h4]; exact hI.2 i hi
   ·rw [hget_ge (by simp; omega)]; simp [allRL]
theorem T.swap2 {rt : List (Nat × Nat)} {a b : Oper} {S S1 S2 : St} (oka : okA rt S.2.length a = true) (okb : okA rt S.2.length b = true) (hI : InvR rt S) (ha : T P nb true all a S S1) (hb : T P nb true all b S1 S2) (hi : indep2 rt all a b = true) :
    ∃ S3, T P nb true all b S S3 ∧ T P nb true all a S3 S2 := by
  have nal : ∀ {o : Oper}, okA rt S.2.length o = true → (blkOf rt o).isSome = true → rtOk1 rt o = true := fun {o} h hb => by
    unfold okA at h
    cases hal : isAl o with
    | false => rw [hal] at h; exact h
    | true =>
      exfalso
      obtain ⟨dst, op, ty, pos, after, gd⟩ := o
      cases op <;> simp_all [isAl, blkOf]
  simp only [indep2, Bool.or_eq_true] at hi
  rcases hi with (hi | hi) | hi
  · exact ha.swapR1 (nal oka) (nal okb) hI hb hi
  · exact ha.swapO hI (ha.invA oka hI).1 hb hi
  simp only [Bool.and_eq_true] at hi
  obtain ⟨⟨⟨⟨i1, i2⟩, i3⟩, i4⟩, i5⟩ := hi
  obtain ⟨i, j, eb1, eb2, hij⟩ := neO_spec i4
  obtain ⟨la, oa, ha'⟩ := ha.out
  obtain ⟨lb, ob, hb'⟩ := hb.out
  cases hal : isAl a with
  | true =>
    have hbl : isAl b = false := by rw [hal] at i5; cases h : isAl b <;> simp_all
    unfold blk2 at eb1 eb2
    rw [hal] at eb1; rw [hbl] at eb2
    simp only [cond_true, cond_false] at eb1 eb2
    have hai : S.2.length = i := by
      unfold okA at oka
      rw [hal] at oka
      simp only [cond_true, Bool.and_eq_true, beq_iff_eq] at oka
      rw [oka.1.1.2] at eb1
      exact Option.some.inj eb1
    obtain ⟨xs, x1, _⟩ := T.alH (S1 := S1) (tm := S.1) (hp := S.2) (hp2 := S.2) hal ha rfl
    have hxl : xs.length = 1 := by
      have := (T.invA oka hI ha).2
      rw [hal, x1] at this
      simp at this
      omega
    obtain ⟨S5, r1, r2, r3⟩ := hb.frame (S2 := (S.1, S1.2)) la (fun t ht => oa t (fun h => apart_spec i1 h ht)) (fun _ => rfl)
    obtain ⟨ub, y1, y2⟩ := T.heapB eb2 (hI.1 : InvT rt (S.1, S1.2).1) r1
    have hor : j < S.2.length ∨ S.2.length + xs.length ≤ j := by omega
    have h1 := y2 S.2 (by
      rw [x1]
      rcases hor with h | h
      · rw [hget_app h]
      · rw [hget_ge (by omega), hget_ge (by simp; omega)])
    obtain ⟨l3, o3, _⟩ := h1.out
    obtain ⟨S4, q1, q2, q3⟩ := ha.frame (S2 := (S5.1, S.2)) l3.symm (fun t ht => (o3 t (fun h => apart_spec i2 h ht)).symm) (fun _ => rfl)
    obtain ⟨ys, z1, z2⟩ := T.alH (S1 := S4) (tm := S5.1) (hp := S.2) (hp2 := updH S.2 j ub) hal q1 updH_len.symm
    obtain ⟨l4, o4, h4⟩ := q1.out
    refine ⟨(S5.1, updH S.2 j ub), h1, ?_⟩
    have := swap_slots (all := all) (S3 := (S5.1, S.2)) i3 la lb l3 l4 oa ob o3 o4 r2 q2
    have hxy : ys = xs := by
      have h := q3 (isAl_wr hal)
      rw [z1, x1] at h
      exact List.append_cancel_left h
    have e2 : S2.2 = S5.2 := by
      cases hw : wrH all b with
      | true => exact (r3 hw).symm
      | false => rw [hb' hw, r1.out.2.2 hw]
    have e : ((S4.1, updH S.2 j ub ++ ys) : St) = S2 := Prod.ext this (by rw [e2, y1, x1, hxy, updH_app hor])
    rw [← e]; exact z2
  | false =>
    have hbl : isAl b = true := by rw [hal] at i5; cases h : isAl b <;> simp_all
    unfold blk2 at eb1 eb2
    rw [hal] at eb1; rw [hbl] at eb2
    simp only [cond_true, cond_false] at eb1 eb2
    have hbj : S.2.length = j := by
      unfold okA at okb
      rw [hbl] at okb
      simp only [cond_true, Bool.and_eq_true, beq_iff_eq] at okb
      rw [okb.1.1.2] at eb2
      exact Option.some.inj eb2
    obtain ⟨ua, x1, x2⟩ := T.heapB (S1 := S1) (tm := S.1) (hp := S.2) eb1 hI.1 ha
    have hl1 : S1.2.length = S.2.length := by rw [x1, updH_len]
    obtain ⟨S5, r1, r2, r3⟩ := hb.frame (S2 := (S.1, S1.2)) la (fun t ht => oa t (fun h => apart_spec i1 h ht)) (fun _ => rfl)
    obtain ⟨xs, y1, h1⟩ := T.alH (S1 := S5) (tm := S.1) (hp := S1.2) (hp2 := S.2) hbl r1 hl1
    obtain ⟨l3, o3, _⟩ := h1.out
    obtain ⟨S4, q1, q2, q3⟩ := ha.frame (S2 := (S5.1, S.2)) l3.symm (fun t ht => (o3 t (fun h => apart_spec i2 h ht)).symm) (fun _ => rfl)
    have hxl : xs.length = 1 := by
      have h6 := T.invA (S := S) (S1 := (S5.1, S.2 ++ xs)) okb hI h1
      have := h6.2
      rw [hbl] at this
      simp at this
      omega
    have hI5 : InvR rt (S5.1, S.2 ++ xs) := (T.invA (S := S) (S1 := (S5.1, S.2 ++ xs)) okb hI h1).1
    obtain ⟨u', z1, z2⟩ := T.heapB (S1 := S4) (tm := S5.1) (hp := S.2) eb1 hI5.1 q1
    have hor : i < S.2.length ∨ S.2.length + xs.length ≤ i := by omega
    have q5 := z2 (S.2 ++ xs) (by
      rcases hor with h | h
      · rw [hget_app h]
      · rw [hget_ge (by simp; omega), hget_ge (by omega)])
    obtain ⟨l4, o4, h4⟩ := q1.out
    refine ⟨(S5.1, S.2 ++ xs), h1, ?_⟩
    have := swap_slots (all := all) (S3 := (S5.1, S.2)) i3 la lb l3 l4 oa ob o3 o4 r2 q2
    have e4 : updH S.2 i u' = S1.2 := by
      rw [← z1]
      cases hw : wrH all a with
      | true => exact q3 hw
      | false => rw [h4 hw, ha' hw]
    have e : ((S4.1, updH (S.2 ++ xs) i u') : St) = S2 := Prod.ext this (by rw [updH_app hor, e4, ← y1, r3 (isAl_wr hbl)])
    rw [← e]; exact q5
theorem alOk_front {rt : List (Nat × Nat)} : ∀ {pre post : List Oper} {i : Oper} {n : Nat}, alOk rt n (pre ++ i :: post) = true → (isAl i = true → ∀ j, j ∈ pre → isAl j = false) → okA rt n i = true ∧ alOk rt (bif isAl i then n+1 else n) (pre ++ post) = true
 | [], post, i, n, h, _ => by simpa [alOk] using h
 | j :: pre, post, i, n, h, hi => by
  simp only [List.cons_append, alOk, Bool.and_eq_true] at h ⊢
  obtain ⟨h1, h2⟩ := alOk_front (pre := pre) h.2 (fun e x hx => hi e x (by simp [hx]))
  cases hal : isAl i with
  | true =>
   have hj := hi hal j (by simp)
   rw [hj] at h1 h2
   rw [hal] at h2
   simp only [cond_false, cond_true] at h1 h2
   refine ⟨h1, ?_, ?_⟩
   ·have := h.1; unfold okA at this ⊢; rw [hj] at this ⊢; exact this
   ·rw [hj]; exact h2
  | false =>
   rw [hal] at h2
   refine ⟨?_, ?_, ?_⟩
   ·unfold okA at h1 ⊢; rw [hal] at h1 ⊢; exact h1
   ·simpa using h.1
   ·simpa using h2
theorem indep2_al {rt : List (Nat × Nat)} {a b : Oper} (h : indep2 rt all a b = true) (hb : isAl b = true) : isAl a = false := by
  cases ha : isAl a with
  | false => rfl
  | true =>
    exfalso
    simp only [indep2, Bool.or_eq_true] at h
    rcases h with (h | h) | h
    · simp only [indepR, Bool.or_eq_true] at h
      obtain ⟨dst, op, ty, pos, after, gd⟩ := a
      obtain ⟨dst', op', ty', pos', after', gd'⟩ := b
      rcases h with (h | h) | h
      · cases op <;> simp [isAl] at ha <;> cases op' <;> simp [isAl] at hb <;> simp [indep, wrH, rdH, ldP, ldS, isLd] at h
      · cases op <;> simp [isAl] at ha <;> simp [mvPS] at h
      · cases op <;> simp [isAl] at ha <;> simp [blkOf, neO] at h
    · simp only [indepO, Bool.and_eq_true, Bool.or_eq_true] at h
      obtain ⟨dst, op, ty, pos, after, gd⟩ := a
      obtain ⟨dst', op', ty', pos', after', gd'⟩ := b
      rcases h.2 with h | h
      · cases op <;> simp [isAl] at ha <;> simp [ldO] at h
      · cases op' <;> simp [isAl] at hb <;> simp [ldO] at h
    · simp only [Bool.and_eq_true] at h
      rw [ha, hb] at h
      simp at h
def noBar (all : List Oper) : Bool := all.all fun o => !barD all o.dst
theorem Run.front2 {rt : List (Nat × Nat)} {i : Oper} {pre post : List Oper} {S S' : St} (hnb : ∀ j, j ∈ pre ++ i :: post → barD all j.dst = false) (hA : alOk rt S.2.length (pre ++ i :: post) = true) (hI : InvR rt S) (h : Run P nb true all (pre ++ i :: post) S S')
  (hi : ∀ j, j ∈ pre → indep2 rt all j i = true) : ∃ S1, T P nb true all i S S1 ∧ Run P nb true all (pre ++ post) S1 S' := by
 induction pre generalizing S with
 | nil =>
  cases h with
  | cons h h' => exact ⟨_, h, h'⟩
  | bar hb hk h h' => rw [hnb i (by simp)] at hb; cases hb
 | cons j pre ih =>
  cases h with
  | bar hb hk h h' => rw [hnb j (by simp)] at hb; cases hb
  | cons h h' =>
   have hj : okA rt S.2.length j = true := by simp only [List.cons_append, alOk, Bool.and_eq_true] at hA; exact hA.1
   have hii := (alOk_front (pre := j :: pre) hA (fun e x hx => indep2_al (hi x hx) e)).1
   obtain ⟨q1, q2⟩ := T.invA hj hI h
   have hA' : alOk rt (bif isAl j then S.2.length + 1 else S.2.length) (pre ++ i :: post) = true := by simp only [List.cons_append, alOk, Bool.and_eq_true] at hA; exact hA.2
   rw [← q2] at hA'
   obtain ⟨S1, r1, r2⟩ := ih (fun x hx => hnb x (by simp at hx ⊢; right; exact hx)) hA' q1 h' (fun x hx => hi x (by simp [hx]))
   obtain ⟨S3, s1, s2⟩ := T.swap2 hj hii hI h r1 (hi j (by simp))
   exact ⟨S3, s1, .cons s2 r2⟩
end
end Go.Av

namespace Go.Av
open Go
variable [Lay]
section
variable {P : Program} {nb : Nat} {R : Rt} {k : List Item} {ops : Array Oper}
def ascOk (ops : Array Oper) : Bool := (List.range ops.size).all fun i => match ops[i]? with | some o => o.after.toList.all fun e => !Region.binds .any e || decide (e.on < i) | none => true
theorem go_spec (hasc : ascOk ops = true) : ∀ (fuel t : Nat) (listed : Array Bool), listed.size = ops.size → (∀ i, listed.getD i false = true → Done ops listed i) → (remL ops.size listed).length ≤ fuel →
    ∃ is, Region.linearise.go .any ops fuel t listed [] = is ∧ is.Perm (remL ops.size listed) ∧ is.Pairwise fun a b => mustB ops 12 a b = false := by
  intro fuel
  induction fuel with
  | zero =>
    intro t listed hs hd hf
    have : remL ops.size listed = [] := by simpa using hf
    exact ⟨[], by simp [Region.linearise.go], by rw [this], .nil⟩
  | succ fuel ih =>
    intro t listed hs hd hf
    have hchk : ∀ i, i < ops.size → ∀ o, ops[i]? = some o → ∀ e, e ∈ o.after → Region.binds .any e = true → e.on < i := fun i hi o ho e he hb => by
      have := List.all_eq_true.1 hasc i (by simpa using hi)
      simp only [ho, List.all_eq_true] at this
      have := this e (by simpa using he)
      simpa [hb] using this
    have hmem : ∀ i, i ∈ Region.ready .any ops listed → i ∈ remL ops.size listed ∧ i < ops.size ∧ listed.getD i false = false ∧ Done ops listed i := fun i hi => by
      simp only [Region.ready, List.mem_filter, List.mem_range, Bool.and_eq_true] at hi
      obtain ⟨h1, h2, h3⟩ := hi
      refine ⟨by simp [remL, h1]; simpa using h2, h1, ?_, fun o ho e he hb => ?_⟩
      · have : i < listed.size := by omega
        simp [Array.getD_eq_getD_getElem?, this] at h2 ⊢; exact h2
      · simp only [ho, Option.map_some, Option.getD_some, Array.all_eq_true'] at h3
        have := h3 e he
        simpa [hb] using this
    simp only [Region.linearise.go]
    change ∃ is, (match (Region.ready .any ops listed)[t % (Region.ready .any ops listed).length]? with
      | some i => Region.linearise.go .any ops fuel (t / (Region.ready .any ops listed).length) (listed.setIfInBounds i true) [i]
      | none => [].reverse) = is ∧ _
    cases hi : (Region.ready .any ops listed)[t % (Region.ready .any ops listed).length]? with
    | none =>
      have hnil : Region.ready .any ops listed = [] := by
        cases hr : Region.ready .any ops listed with
        | nil => rfl
        | cons x xs =>
          rw [hr] at hi
          have hlt : t % (x :: xs).length < (x :: xs).length := Nat.mod_lt _ (by simp)
          simp at hi
          simp at hlt
          omega
      have hrem : remL ops.size listed = [] := by
        cases hc : remL ops.size listed with
        | nil => rfl
        | cons i is =>
          exfalso
          have hin : i ∈ remL ops.size listed := by rw [hc]; simp
          have hin' := hin
          simp only [remL, List.mem_filter, List.mem_range] at hin'
          have hpw : (remL ops.size listed).Pairwise (· < ·) := List.Pairwise.filter _ (List.pairwise_lt_range)
          rw [hc] at hpw
          have hmin : ∀ j, j < i → listed.getD j true = true := fun j hj => by
            cases hl : listed.getD j true with
            | true => rfl
            | false =>
              have : j ∈ remL ops.size listed := List.mem_filter.2 ⟨List.mem_range.2 (by omega), by simp only [hl]; rfl⟩
              rw [hc] at this
              rcases List.mem_cons.1 this with e | h
              · omega
              · have := (List.pairwise_cons.1 hpw).1 j h; omega
          have : i ∈ Region.ready .any ops listed := by
            simp only [Region.ready, List.mem_filter, List.mem_range, Bool.and_eq_true]
            refine ⟨hin'.1, by simpa using hin'.2, ?_⟩
            rw [Array.getElem?_eq_getElem hin'.1]
            simp only [Option.map_some, Option.getD_some, Array.all_eq_true']
            intro e he
            cases hb : Region.binds .any e with
            | false => rfl
            | true =>
              have hlt := hchk i hin'.1 _ (Array.getElem?_eq_getElem hin'.1) e he hb
              have := hmin _ hlt
              have hsz : e.on < listed.size := by omega
              simp [Array.getD_eq_getD_getElem?, hsz] at this ⊢; exact this
          rw [hnil] at this; simp at this
      exact ⟨[], rfl, by rw [hrem], .nil⟩
    | some i =>
      simp only []
      rw [linearise_go_acc, List.reverse_singleton, List.singleton_append]
      obtain ⟨h1, h2, h3, h4⟩ := hmem i (List.mem_of_getElem? hi)
      obtain ⟨pre, post, e1, e2, e3⟩ := remL_split h1
      obtain ⟨is, q1, q2, q3⟩ := ih (t / (Region.ready .any ops listed).length) (listed.setIfInBounds i true) (by simp [hs]) (fun j hj => by
        have hset : ∀ e, listed.getD e false = true → (listed.setIfInBounds i true).getD e false = true := fun e he => getD_set_true he
        by_cases hji : j = i
        · subst hji
          exact fun o ho e he hb => hset _ (h4 o ho e he hb)
        · rw [getD_set_ne _ (Ne.symm hji)] at hj
          exact fun o ho e he hb => hset _ (hd j hj o ho e he hb)) (by
        rw [remL_set (by omega), e2]
        have : (remL ops.size listed).length = (pre ++ post).length + 1 := by rw [e1]; simp; omega
        omega)
      rw [remL_set (by omega), e2] at q2
      refine ⟨i :: is, by rw [q1], ?_, List.pairwise_cons.2 ⟨fun j hj => ?_, q3⟩⟩
      · rw [e1]
        exact (q2.cons i).trans List.perm_middle.symm
      · cases hm : mustB ops 12 i j with
        | false => rfl
        | true =>
          exfalso
          have hl := mustB_spec hd 12 i j h4 hm
          have hj' : j ∈ pre ++ post := q2.mem_iff.1 hj
          have : j ∈ remL ops.size listed := by rw [e1]; simp at hj' ⊢; rcases hj' with h | h <;> simp [h]
          simp only [remL, List.mem_filter, List.mem_range] at this
          have hsz : j < listed.size := by omega
          simp [Array.getD_eq_getD_getElem?, hsz] at this hl
          rw [hl] at this; simp at this
def opAt (ops : Array Oper) (i : Nat) : Oper := ops.getD i default
def pairOk (rt : List (Nat × Nat)) (ops : Array Oper) (x y : Nat) (a b : Nat) : Bool := mustB ops 12 b a || indep2 rt ops.toList (opAt ops a) (opAt ops b) || (Nat.beq a x && Nat.beq b y)
def pairsB (f : Nat → Nat → Bool) : List Nat → Bool
 | [] => true
 | a :: l => l.all (f a) && pairsB f l
theorem pairsB_spec {f : Nat → Nat → Bool} : ∀ {l : List Nat}, pairsB f l = true → l.Pairwise fun a b => f a b = true
 | [], _ => .nil
 | a :: l, h => by
  simp only [pairsB, Bool.and_eq_true, List.all_eq_true] at h
  exact List.pairwise_cons.2 ⟨h.1, pairsB_spec h.2⟩
theorem two_orders {x y : Nat} (hxy : x ≠ y) : ∀ {l : List Nat}, l.Nodup → (l.Pairwise fun a b => ¬ (b = x ∧ a = y)) ∨ (l.Pairwise fun a b => ¬ (b = y ∧ a = x))
 | [], _ => .inl .nil
 | c :: l, h => by
  obtain ⟨h1, h2⟩ := List.nodup_cons.1 h
  by_cases hx : c = x
  ·left
   refine List.pairwise_cons.2 ⟨fun b hb => fun e => hxy (hx ▸ e.2), ?_⟩
   exact (List.Pairwise.imp_of_mem (R := fun _ _ => True) (fun {a b} _ hb _ e => h1 (by rw [hx, ← e.1]; exact hb)) (by exact List.pairwise_of_forall (fun _ _ => trivial)))
  ·by_cases hy : c = y
   ·right
    refine List.pairwise_cons.2 ⟨fun b hb => fun e => hxy (hy ▸ e.2).symm, ?_⟩
    exact (List.Pairwise.imp_of_mem (R := fun _ _ => True) (fun {a b} _ hb _ e => h1 (by rw [hy, ← e.1]; exact hb)) (by exact List.pairwise_of_forall (fun _ _ => trivial)))
   ·rcases two_orders hxy h2 with h3 | h3
    ·exact .inl (List.pairwise_cons.2 ⟨fun b hb e => hy e.2, h3⟩)
    ·exact .inr (List.pairwise_cons.2 ⟨fun b hb e => hx e.2, h3⟩)
theorem W0.drawsL {rt : List (Nat × Nat)} {x y : Nat} (hok : ∀ o, o ∈ ops.toList → okOper o = true) (hnb : noBar ops.toList = true) : ∀ (is L : List Nat) (S S' : St), is.Perm L → L.Nodup → (∀ i, i ∈ L → i < ops.size) →
    (is.Pairwise fun a b => mustB ops 12 a b = false) → (is.Pairwise fun a b => ¬ (b = x ∧ a = y)) → (L.Pairwise fun a b => pairOk rt ops x y a b = true) →
    alOk rt S.2.length (L.map (opAt ops)) = true → InvR rt S → Run P nb true ops.toList (L.map (opAt ops)) S S' → W0 P nb R k S'.1 S'.2 → W0 P nb R (.inRegion ops is :: k) S.1 S.2 := by
  intro is
  induction is with
  | nil =>
    intro L S S' hp hn hlt hm hs hpr hA hI hr hk
    have : L = [] := by simpa using hp.symm.eq_nil
    subst this
    cases hr
    exact W0.regionEnd (ops := ops) hk
  | cons i is ih =>
    intro L S S' hp hn hlt hm hs hpr hA hI hr hk
    have hiL : i ∈ L := hp.mem_iff.1 (by simp)
    obtain ⟨pre, post, rfl⟩ := List.append_of_mem hiL
    have hp' : is.Perm (pre ++ post) := by
      have := hp.trans List.perm_middle
      exact (List.perm_cons i).1 this
    have hget : ∀ j, j < ops.size → ops[j]? = some (opAt ops j) := fun j hj => by simp [opAt, Array.getD_eq_getD_getElem?, hj]
    have hin : ∀ j, j < ops.size → opAt ops j ∈ ops.toList := fun j hj => by simpa using Array.mem_of_getElem? (hget j hj)
    have hbar : ∀ o, o ∈ ops.toList → barD ops.toList o.dst = false := fun o ho => by simpa using List.all_eq_true.1 hnb o ho
    obtain ⟨m1, m2⟩ := List.pairwise_cons.1 hm
    obtain ⟨s1, s2⟩ := List.pairwise_cons.1 hs
    rw [List.map_append, List.map_cons] at hr hA
    have hind : ∀ o, o ∈ pre.map (opAt ops) → indep2 rt ops.toList o (opAt ops i) = true := fun o ho => by
      obtain ⟨j, hj, rfl⟩ := List.mem_map.1 ho
      have hpo := (List.pairwise_append.1 hpr).2.2 j hj i (by simp)
      have hjis : j ∈ is := hp'.mem_iff.2 (by simp [hj])
      simp only [pairOk, Bool.or_eq_true, Bool.and_eq_true, Nat.beq_eq] at hpo
      rcases hpo with (h | h) | h
      · rw [m1 j hjis] at h; cases h
      · exact h
      · exact absurd h (fun e => s1 j hjis ⟨e.1, e.2⟩)
    obtain ⟨S1, q1, q2⟩ := Run.front2 (rt := rt) (fun o ho => hbar o (by
      rcases List.mem_append.1 ho with h | h
      · obtain ⟨j, hj, rfl⟩ := List.mem_map.1 h; exact hin j (hlt j (by simp [hj]))
      · rcases List.mem_cons.1 h with rfl | h
        · exact hin i (hlt i hiL)
        · obtain ⟨j, hj, rfl⟩ := List.mem_map.1 h; exact hin j (hlt j (by simp [hj])))) hA hI hr hind
    obtain ⟨a1, a2⟩ := alOk_front hA (fun e o ho => indep2_al (hind o ho) e)
    obtain ⟨b1, b2⟩ := T.invA a1 hI q1
    refine W0.simN (q1.sim (hget i (hlt i hiL)) (hok _ (hin i (hlt i hiL)))) (ih (pre ++ post) S1 S' hp' ?_ (fun j hj => hlt j (by simp at hj ⊢; rcases hj with h | h <;> simp [h])) m2 s2 ?_ (by rw [b2, List.map_append]; exact a2) b1 (by rw [List.map_append]; exact q2) hk)
    · exact hn.sublist (List.Sublist.append_left (List.sublist_cons_self i post) pre)
    · exact hpr.sublist (List.Sublist.append_left (List.sublist_cons_self i post) pre)
def draw2Ok (rt1 rt2 : List (Nat × Nat)) (ops : Array Oper) (x y : Nat) (L : List Nat) : Bool :=
 ascOk ops && noBar ops.toList && !Nat.beq x y && pairsB (pairOk rt1 ops x y) (List.range ops.size) && pairsB (pairOk rt2 ops y x) L && decide (L.Perm (List.range ops.size))
theorem W0.regionDraw2 {rt1 rt2 : List (Nat × Nat)} {x y : Nat} {L : List Nat} (hm : P.follows .mixedOrders = true) {id : Nat} (hok : ∀ o, o ∈ ops.toList → okOper o = true) (hdr : draw2Ok rt1 rt2 ops x y L = true) {S S1 S2 : St}
    (hA1 : alOk rt1 S.2.length ops.toList = true) (hA2 : alOk rt2 S.2.length (L.map (opAt ops)) = true) (hI1 : InvR rt1 S) (hI2 : InvR rt2 S)
    (h1 : Run P nb true ops.toList ops.toList S S1) (h2 : Run P nb true ops.toList (L.map (opAt ops)) S S2) (k1 : W0 P nb R k S1.1 S1.2) (k2 : W0 P nb R k S2.1 S2.2) : W0 P nb R (.code (.region id ops true) :: k) S.1 S.2 := by
  intro g a w b cs hL hr hn
  simp only [draw2Ok, Bool.and_eq_true, Bool.not_eq_true', decide_eq_true_eq] at hdr
  obtain ⟨⟨⟨⟨⟨c1, c2⟩, c3⟩, c4⟩, c5⟩, c6⟩ := hdr
  have hxy : x ≠ y := fun e => by subst e; simp at c3
  have hrem : remL ops.size (Array.replicate ops.size false) = List.range ops.size := by
    unfold remL
    apply List.filter_eq_self.2
    intro j hj
    have hj : j < ops.size := by simpa using hj
    simp [Array.getD_eq_getD_getElem?, Array.getElem?_replicate, hj]
  have hmap : (List.range ops.size).map (opAt ops) = ops.toList := by
    apply List.ext_getElem?
    intro j
    by_cases hj : j < ops.size
    · simp [List.getElem?_range hj, hj, opAt, Array.getD_eq_getD_getElem?]
    · simp [hj]
  obtain ⟨is, e1, e2, e3⟩ := go_spec (ops := ops) c1 ops.size (w.tape w.drawn (.order b.fn id)) (Array.replicate ops.size false) (by simp) (fun i hi => by
    simp [Array.getD_eq_getD_getElem?, Array.getElem?_replicate] at hi
    split at hi <;> simp_all) (by rw [hrem]; simp)
  rw [hrem] at e2
  have hnd : is.Nodup := e2.nodup_iff.2 List.nodup_range
  have hW : W0 P nb R (.inRegion ops is :: k) S.1 S.2 := by
    rcases two_orders hxy hnd with h | h
    · exact W0.drawsL hok c2 is (List.range ops.size) S S1 e2 List.nodup_range (fun i hi => by simpa using hi) e3 h (pairsB_spec c4) (by rw [hmap]; exact hA1) hI1 (by rw [hmap]; exact h1) k1
    · exact W0.drawsL hok c2 is L S S2 (e2.trans c6.symm) (c6.nodup_iff.2 List.nodup_range) (fun i hi => by simpa using c6.mem_iff.1 hi) e3 h (pairsB_spec c5) hA2 hI2 h2 k2
  obtain ⟨hr', hs'⟩ := hr.drawn (w.drawn + 1)
  obtain ⟨a', w', g', tm', hp', todo, q1, q2, q3, q4⟩ := hW g a _ b cs (hL.stp (hs' 0)) hr' hn
  refine ⟨a', w', g', tm', hp', todo, .head step_region_draw ?_, q2, (hs' _).x.trans q3, q4⟩
  have e1' : Region.linearise.go .any ops ops.size (w.tape w.drawn (.order b.fn id)) (Array.replicate ops.size false) [] = is := e1
  simp only [Region.schedule, hm, if_true, Region.linearise]
  rw [e1']
  exact q1
end
end Go.Av

namespace Go.Av
open Go
variable [Lay]
def swp (x y : Nat) (i : Nat) : Nat := if i = x then y else if i = y then x else i
theorem swp_swp {x y i : Nat} : swp x y (swp x y i) = i := by
 unfold swp
 by_cases h : i = x
 ·subst h
  rw [if_pos rfl]
  by_cases h2 : y = i
  ·rw [if_pos h2, h2]
  ·rw [if_neg h2, if_pos rfl]
 ·rw [if_neg h]
  by_cases h2 : i = y
  ·subst h2; rw [if_pos rfl, if_pos rfl]
  ·rw [if_neg h2, if_neg h, if_neg h2]
theorem swp_out {x y i n : Nat} (h : n ≤ i) (hx : x < n) (hy : y < n) : swp x y i = i := by
 unfold swp; rw [if_neg (by omega), if_neg (by omega)]
theorem swp_low {x y i n : Nat} (h : i < n) (hx : n ≤ x) (hy : n ≤ y) : swp x y i = i := by
 unfold swp; rw [if_neg (by omega), if_neg (by omega)]
mutual
theorem allR_true : ∀ (v : AV), allR (fun _ => true) v = true
 | .any | .int _ _ | .bool _ | .str _ | .sl _ _ | .nilp | .ip _ | .nilI | .nilF | .nilM | .adr _ | .fl _ => by simp [allR]
 | .rs _ _ _ _ _ _ => by simp [allR]
 | .ptr _ _ => by simp [allR]
 | .bld _ _ => by simp [allR]
 | .agg cs => by simp only [allR]; exact allRL_true cs
 | .tup cs => by simp only [allR]; exact allRL_true cs
 | .iface _ v => by simp only [allR]; exact allR_true v
 | .fn _ l1 l2 => by simp only [allR, Bool.and_eq_true]; exact ⟨allRL_true l1, allRL_true l2⟩
theorem allRL_true : ∀ (l : List AV), allRL (fun _ => true) l = true
 | [] => by simp [allRL]
 | x :: xs => by simp only [allRL, Bool.and_eq_true]; exact ⟨allR_true x, allRL_true xs⟩
end
def Owner.sw (x y : Nat) : Owner → Owner
 | .blk id => .blk (swp x y id)
 | .cell id off => .cell (swp x y id) off
 | o => o
theorem Owner.sw_imm {x y : Nat} {o : Owner} {v : Value} : o.sw x y = .imm v ↔ o = .imm v := by cases o <;> simp [Owner.sw]
theorem Owner.sw_free {x y : Nat} {o : Owner} : o.sw x y = .free ↔ o = .free := by cases o <;> simp [Owner.sw]
def Gh.sw (g : Gh) (x y : Nat) : Gh := ⟨fun b o => (g.ow b o).sw x y, fun id => g.loc (swp x y id), g.fz⟩
def hpSw (x y : Nat) (hp : Heap) : Heap := (List.range hp.length).map fun i => ((hp[swp x y i]?).getD none).map (renL (swp x y))
theorem hpSw_len {x y : Nat} {hp : Heap} : (hpSw x y hp).length = hp.length := by simp [hpSw]
theorem hpSw_get {x y : Nat} {hp : Heap} {id : Nat} {cs : List AV} (h : (hpSw x y hp)[id]? = some (some cs)) : ∃ cs0, hp[swp x y id]? = some (some cs0) ∧ cs = renL (swp x y) cs0 := by
 unfold hpSw at h
 rw [List.getElem?_map, Option.map_eq_some_iff] at h
 obtain ⟨i, h1, h2⟩ := h
 have hi : i = id := by
  have := List.getElem?_eq_some_iff.1 h1
  obtain ⟨h3, h4⟩ := this
  simpa using h4.symm
 subst hi
 cases he : hp[swp x y i]? with
 | none => rw [he] at h2; simp at h2
 | some o =>
  rw [he] at h2
  cases o with
  | none => simp at h2
  | some cs0 => simp at h2; exact ⟨cs0, rfl, h2.symm⟩
theorem lget_ren {f : Nat → Nat} (hf : ren f .any = .any) : ∀ {l : List AV} {t : Nat}, lget (renL f l) t = ren f (lget l t)
 | [], t => by simp [renL, lget, hf]
 | a :: l, 0 => by simp [renL, lget]
 | a :: l, t+1 => by simp only [renL, lget]; exact lget_ren hf
theorem Tail.map {g g' : Gh} {k k' : Owner} {av : AV} {v : Value} (h : Tail g k av v) (ho : ∀ b o, g.ow b o = k → g'.ow b o = k') (hz : ∀ b e, g.fz b = some e → g'.fz b = some e) : Tail g' k' av v := by
 unfold Tail at *
 split
 ·rename_i oe l a n cap
  simp only at h
  rcases h with ⟨h1, h2, h3⟩ | ⟨h0, b, o, es, h1, h2, h3, h4, h5, h6⟩
  ·exact .inl ⟨h1, h2, h3.imp id fun ⟨b, o, e1, e, e2⟩ => ⟨b, o, e1, e, hz _ _ e2⟩⟩
  ·exact .inr ⟨h0, b, o, es, h1, h2, h3, fun j hj hj' => ho _ _ (h4 j hj hj'), h5, fun e' he => by obtain ⟨e, q1, q2⟩ := h6 e' he; exact ⟨e, hz _ _ q1, q2⟩⟩
 ·trivial
theorem Rel.sw {g : Gh} {tm : List AV} {hp : Heap} {a : Array Value} {w : World} {x y : Nat} (h : Rel g tm hp a w) (hx : x < hp.length) (hy : y < hp.length) : Rel (g.sw x y) (renL (swp x y) tm) (hpSw x y hp) a w := by
 have hV : ∀ {av : AV} {v : Value}, VR g av v → VR (g.sw x y) (ren (swp x y) av) v := fun {av v} hv =>
  VR.ren (g := g) (g' := g.sw x y) (f := swp x y) (p := fun _ => true) (fun b o v e => (Owner.sw_imm (x := x) (y := y)).2 e) (fun id l _ e => by show g.loc (swp x y (swp x y id)) = _; rw [swp_swp]; exact e) (fun b e he => he) hv (allR_true av)
 refine ⟨by rw [renL_eq]; simpa using h.size, fun t => ?_, fun id cs hc => ?_, fun id hid => ?_, fun b o v hv => h.imms _ _ _ (Owner.sw_imm.1 hv), fun b o hv => ?_, fun b e he => ?_⟩
 ·rw [lget_ren rfl]
  exact ⟨hV (h.slots t).1, (h.slots t).2.ren.map (fun b o e => by show (g.ow b o).sw x y = _; rw [e]; rfl) (fun b e he => he)⟩
 ·obtain ⟨cs0, e1, rfl⟩ := hpSw_get hc
  obtain ⟨b, base, c, q1, q2, q3, q4⟩ := h.heap _ cs0 e1
  refine ⟨b, base, c, q1, by rw [renL_eq]; simpa using q2, fun j hj => ?_, fun j av hj => ?_⟩
  ·show (g.ow b (base + j)).sw x y = _
   rw [q3 j hj]; simp [Owner.sw, swp_swp]
  ·rw [renL_eq, List.getElem?_map, Option.map_eq_some_iff] at hj
   obtain ⟨av0, h1, rfl⟩ := hj
   obtain ⟨v, v1, v2, v3⟩ := q4 j av0 h1
   refine ⟨v, v1, hV v2, v3.ren.map (fun b o e => by show (g.ow b o).sw x y = _; rw [e]; simp [Owner.sw, swp_swp]) (fun b e he => he)⟩
 ·rw [hpSw_len] at hid
  show g.loc (swp x y id) = none
  rw [swp_out hid hx hy]; exact h.locs id hid
 ·have hne : g.ow b o ≠ .free := fun e => hv (Owner.sw_free.2 e)
  refine ⟨(h.owns b o hne).1, fun hi => (h.owns b o hne).2 fun v e => hi v (Owner.sw_imm.2 e)⟩
 ·obtain ⟨c, lo, hi, q1, q2, q3⟩ := h.fzs b e he
  exact ⟨c, lo, hi, q1, q2, fun o ho ho' => by obtain ⟨v, hv⟩ := q3 o ho ho'; exact ⟨v, Owner.sw_imm.2 hv⟩⟩
theorem Stp.sw {n : Nat} {g : Gh} {w : World} {x y : Nat} (hx : n ≤ x) (hy : n ≤ y) : Stp n g w (g.sw x y) w :=
 .of (fun b o v e => Owner.sw_imm.2 e) (fun b o _ e => Owner.sw_free.2 e) (fun id l hid e => by show g.loc (swp x y id) = _; rw [swp_low hid hx hy]; exact e) (.refl _ _) rfl
section
variable {P : Program} {nb : Nat} {R : Rt} {k : List Item} {tm : List AV} {hp : Heap}
theorem W0.sw {x y : Nat} (h : W0 P nb R k (renL (swp x y) tm) (hpSw x y hp)) (hx : x < hp.length) (hy : y < hp.length) (hx' : nb ≤ x) (hy' : nb ≤ y) : W0 P nb R k tm hp := by
 intro g a w b cs hL hr hn
 have hs : Stp nb g w (g.sw x y) w := Stp.sw hx' hy'
 obtain ⟨a', w', g', tm'', hp'', todo, q1, q2, q3, q4⟩ := h (g.sw x y) a w b cs (hL.stp hs) (hr.sw hx hy) (by rw [hpSw_len]; exact hn)
 exact ⟨a', w', g', tm'', hp'', todo, q1, q2, hs.x.trans q3, q4⟩
end
end Go.Av

