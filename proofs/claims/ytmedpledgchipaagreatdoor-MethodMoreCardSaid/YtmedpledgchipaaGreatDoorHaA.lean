import Derived.Test.YtmedpledgchipaaGreatDoorHa9
import Derived.Laws.AppendOwn
set_option linter.unusedSectionVars false
set_option linter.unusedVariables false
set_option linter.unusedSimpArgs false
set_option linter.unnecessarySimpa false
namespace Go.Av
open Go Go.RowKit Go.Proofs Go.Sort
section
variable [Lay] {P : Program} {f : FuncId} {fn : Func} {g : Gh} {tm : List AV} {hp : Heap} {a : Array Value} {w w1 : World}
theorem Rel.claim (h : Rel g tm hp a w1) {B : Nat} {cur : Array Value} {T : TypeId} (hB : w1.heap[B]? = some (.cells cur T (0, 0))) (hfree : ∀ o, g.ow B o = .free) (f : Nat → Owner) (h1 : ∀ o, f o ≠ .free → o < cur.size) (h2 : ∀ o v, f o = .imm v → cur[o]? = some v) : Rel (g.fresh B f) tm hp a w1 := by
 have hne : ∀ {b o}, g.ow b o ≠ .free → b ≠ B := fun {b o} h e => by subst e; exact h (hfree o)
 have hi : ∀ {b o v}, g.ow b o = .imm v → (g.fresh B f).ow b o = .imm v := fun {b o v} e => by rw [fresh_old (hne (by rw [e]; simp))]; exact e
 have hm : ∀ {av v}, VR g av v → VR (g.fresh B f) av v := fun hv => hv.mono (fun b o v hv => hi hv) (fun _ _ h => h) (fun _ _ h => h)
 have ht : ∀ {k : Owner} {av v}, k ≠ .free → Tail g k av v → Tail (g.fresh B f) k av v := by
  intro k av v hk ht
  unfold Tail at *
  split
  ·rename_i l a' n cap
   simp only at ht
   rcases ht with ht | ⟨h0, b, o, es, h1, h2, h3, h4, h5⟩
   ·exact .inl ht
   ·refine .inr ⟨h0, b, o, es, h1, h2, h3, fun j hj hj' => ?_, h5⟩
    have e := h4 j hj hj'
    rw [fresh_old (hne (by rw [e]; exact hk))]; exact e
  ·trivial
 have hc : ∀ o, w1.cell? ⟨B, o, none⟩ = cur[o]? := fun o => by simp [World.cell?, hB]
 have hz : ∀ o, w1.frozen? ⟨B, o, none⟩ = false := fun o => by simp [World.frozen?, hB]
 refine ⟨h.size, fun t => ⟨hm (h.slots t).1, ht (by simp) (h.slots t).2⟩, fun id cs hcs => ?_, h.locs, fun b o v hv => ?_, fun b o hv => ?_, fun b e he => ?_⟩
 ·obtain ⟨b, base, c, e1, e2, e3, e4⟩ := h.heap id cs hcs
  refine ⟨b, base, c, e1, e2, fun j hj => ?_, fun j av hj => ?_⟩
  ·rw [fresh_old (hne (by rw [e3 j hj]; simp))]; exact e3 j hj
  ·obtain ⟨v, q1, q2, q3⟩ := e4 j av hj
   exact ⟨v, q1, hm q2, ht (by simp) q3⟩
 ·by_cases e : b = B
  ·subst e; rw [fresh_new] at hv; rw [hc]; exact h2 _ _ hv
  ·rw [fresh_old e] at hv; exact h.imms _ _ _ hv
 ·by_cases e : b = B
  ·subst e; rw [fresh_new] at hv; rw [hc, hz]
   exact ⟨⟨_, Array.getElem?_eq_getElem (h1 _ hv)⟩, fun _ => rfl⟩
  ·rw [fresh_old e] at hv ⊢; exact h.owns _ _ hv
 ·obtain ⟨c, lo, hi', q1, q2, q3⟩ := h.fzs b e he
  exact ⟨c, lo, hi', q1, q2, fun o ho ho' => by obtain ⟨v, hv⟩ := q3 o ho ho'; exact ⟨v, hi hv⟩⟩
theorem Rel.rowOf (h : Rel g tm hp a w) (hb : RowKit.Below w.heap.size w w1) {T : TypeId} {v : Value} {n : Nat} {xs : List Value} (ho : w1.ownsRow w.heap.size T 1 v n xs) (k : Nat) {l : List AV} (hl : l.length = n) (hp1 : ∀ x, x ∈ l → x.cells = [x] ∧ noRef x = true) (hv : ∀ (j : Nat) av, l[j]? = some av → ∃ u, xs[j]? = some u ∧ VR g av u) (hm : n ≤ maxB) :
    ∃ g', Rel g' tm hp a w1 ∧ Stp k g w g' w1 ∧ VR g' (.sl (some (some (T, 1))) l) v ∧ Tail g' (.slot 0) (.sl (some (some (T, 1))) l) v := by
  obtain ⟨hw1, hw2⟩ := h.world hb k
  subst hl
  obtain ⟨hxs, ho⟩ := ho
  rcases ho with ⟨rfl, hn⟩ | ⟨B, cap, cur, rfl, hB1, hB2, hcap, hcm, hcs, hxe⟩
  · obtain rfl : l = [] := List.eq_nil_of_length_eq_zero hn
    refine ⟨g, hw1, hw2, .sl rfl (by simp) (by simp) 0 0 1 (fun _ => undef) (fun h => absurd rfl h) (fun x hx => by cases hx) Nat.one_pos (fun x hx => by cases hx) (fun j av hj => by simp at hj) (fun j av hj => by simp at hj) (fun q _ => by cases q), .inl ⟨rfl, rfl, .inl rfl⟩⟩
  · have hfree : ∀ o, g.ow B o = .free := fun o => by
      cases e : g.ow B o with
      | free => rfl
      | _ => have := h.lt (b := B) (o := o) (by rw [e]; simp)
             omega
    have hcs' : cur.size = cap := by omega
    let f : Nat → Owner := fun o => if o < l.length then .imm (cur.getD o undef) else if o < cap then .slot 0 else .free
    have hr := hw1.claim hB2 hfree f (fun o ho => by
      simp only [f] at ho
      split at ho
      · omega
      · split at ho
        · omega
        · exact absurd rfl ho) (fun o u ho => by
      simp only [f] at ho
      split at ho
      · injection ho with ho; subst ho
        have : o < cur.size := by omega
        simp [Array.getD_eq_getD_getElem?, this]
      · split at ho <;> cases ho)
    have hz : (g.fresh B f).fz B = none := h.fzNew hB1
    have hr2 := hr.mark (b := B) (e := (T, cur.size)) hB2 rfl (by simp) (.inl rfl) hz
    have hne : ∀ {b o}, g.ow b o ≠ .free → b ≠ B := fun {b o} h e => by subst e; exact h (hfree o)
    have hst : Stp k g w (g.fresh B f) w1 := ⟨fun b o v e => by rw [fresh_old (hne (by rw [e]; simp))]; exact e, fun b o hb' e => by rw [fresh_old (by omega)]; exact e, fun _ _ _ h => h, hw2.upd, fun _ _ h => h, fun _ _ h => h⟩
    have hst2 := hst.mark (e := (T, cur.size)) hB1 hz
    have hflat : l.flatMap AV.cells = l := by
      have : ∀ m : List AV, (∀ x, x ∈ m → x.cells = [x]) → m.flatMap AV.cells = m := by
        intro m
        induction m with
        | nil => intro _; rfl
        | cons x m ih => intro hx; rw [List.flatMap_cons, hx x (by simp), ih (fun y hy => hx y (by simp [hy]))]; rfl
      exact this l fun x hx => (hp1 x hx).1
    have hvm : ∀ {av u}, VR g av u → VR ((g.fresh B f).mark B (T, cur.size)) av u := fun hv => VR.mono (g := g) (g' := (g.fresh B f).mark B (T, cur.size)) (fun b o v e => by show (g.fresh B f).ow b o = _; rw [fresh_old (hne (by rw [e]; simp))]; exact e) (fun _ _ h => h) (fun b e he => by
      simp only [Gh.mark]; split
      · rename_i hbb; subst hbb; rw [h.fzNew hB1] at he; cases he
      · exact he) hv
    have hcur : ∀ (j : Nat) av, l[j]? = some av → ∃ u, cur.getD j undef = u ∧ VR g av u := fun j av hj => by
      obtain ⟨u, hu, hvr⟩ := hv j av hj
      refine ⟨u, ?_, hvr⟩
      rw [← hxe, List.getElem?_take] at hu
      split at hu
      · simp [Array.getD_eq_getD_getElem?] at hu ⊢; simp [hu]
      · cases hu
    have himm : ∀ j, j < l.length → ((g.fresh B f).mark B (T, cur.size)).ow B (0 + j) = .imm (cur.getD j undef) := fun j hj => by
      show (g.fresh B f).ow B (0 + j) = _
      rw [fresh_new]; simp only [f, Nat.zero_add]; rw [if_pos hj]
    have htl : ∀ j, 0 + l.length * 1 ≤ j → j < 0 + cap * 1 → ((g.fresh B f).mark B (T, cur.size)).ow B j = .slot 0 := fun j hj hj' => by
      show (g.fresh B f).ow B j = _
      rw [fresh_new]; simp only [f]; rw [if_neg (by omega), if_pos (by omega)]
    refine ⟨_, hr2, hst2, .sl rfl hcap hm B 0 1 (fun j => cur.getD j undef) (fun _ => rfl) (fun x hx => by rw [(hp1 x hx).1]; rfl) Nat.one_pos (fun x hx c hc => by rw [(hp1 x hx).1] at hc; simp at hc; subst hc; exact (hp1 _ hx).2) (fun j av hj => ?_) (fun j av hj => ?_) (fun q _ => by cases q), .inr ⟨.inr ⟨_, rfl, Nat.one_pos⟩, B, 0, 1, rfl, Nat.one_pos, fun x hx => by rw [(hp1 x hx).1]; rfl, htl, rfl, fun e' he' => ?_⟩⟩
    · rw [hflat] at hj
      exact himm j (List.getElem?_eq_some_iff.1 hj).1
    · rw [hflat] at hj
      obtain ⟨u, hu, hvr⟩ := hcur j av hj
      rw [hu]; exact hvm hvr
    · cases he'
      exact ⟨(T, cur.size), by simp [Gh.mark], rfl, fun _ => rfl⟩
theorem flat_u8 : ∀ l : List Int, (l.map (AV.int .u8)).flatMap AV.cells = l.map (AV.int .u8)
 | [] => rfl
 | x :: m => by simp only [List.map_cons, List.flatMap_cons, flat_u8 m]; rfl
theorem acallO_clone {T : TypeId} (he : ∀ vs w, (callFunc f vs).run P w = .ok (.enter f vs) w)
  (hsome : ∀ (b off n c : Nat) (zs : List Int) (w : World), zs.length = n → n ≤ 140737488355328 → (∀ j, j < zs.length → w.cell? ⟨b, off + j, none⟩ = some (.int .u8 (zs.getD j 0))) →
   Calls P f #[.slice (some ⟨b, off, none⟩) n c] w fun e w' => ∃ v', e = .returned v' ∧ w'.ownsRow w.heap.size T 1 v' n (zs.map (Value.int .u8)) ∧ Below w.heap.size w w')
  (hnone : ∀ (n c : Nat) (w : World), Calls P f #[.slice none n c] w fun e w' => e = .returned (.slice none 0 0) ∧ w' = w)
  (hzero : ∀ (a : Addr) (c : Nat) (w : World), Calls P f #[.slice (some a) 0 c] w fun e w' => ∃ v', e = .returned v' ∧ w'.ownsRow w.heap.size T 1 v' 0 [] ∧ Below w.heap.size w w')
  {l : List Int} : ACallO P f [.sl none (l.map (AV.int .u8))] (.sl (some (some (T, 1))) (l.map (AV.int .u8))) := by
 refine ⟨rfl, fun g w vs hLg hr hs => .inl ⟨he vs w, ?_⟩⟩
 have hv := (hr.slots 0).1
 rw [vs1 hs]
 obtain ⟨v, hve⟩ : ∃ v, vs.getD 0 undef = v := ⟨_, rfl⟩
 rw [hve] at hv ⊢
 have hplain : ∀ x, x ∈ l.map (AV.int .u8) → x.cells = [x] ∧ noRef x = true := fun x hx => by obtain ⟨y, _, rfl⟩ := List.mem_map.1 hx; exact ⟨rfl, rfl⟩
 have hfin : ∀ (w1 : World) (v' : Value), w1.ownsRow w.heap.size T 1 v' l.length (l.map (Value.int .u8)) → Below w.heap.size w w1 → (∀ j, (hj : j < l.length) → IntKind.u8.min ≤ l[j] ∧ l[j] ≤ IntKind.u8.max) → l.length ≤ maxB →
   ∃ v g', Ending.returned v' = .returned v ∧ Rel g' [.sl (some (some (T, 1))) (l.map (AV.int .u8))] [] #[v] w1 ∧ Stp 0 g w g' w1 := fun w1 v' ho hb hbd hm => by
  obtain ⟨g', q1, q2, q3, q4⟩ := hr.rowOf hb ho 0 (l := l.map (AV.int .u8)) (by simp) hplain (fun j av hj => by
   rw [List.getElem?_map, Option.map_eq_some_iff] at hj
   obtain ⟨y, hy, rfl⟩ := hj
   obtain ⟨hlt, e⟩ := List.getElem?_eq_some_iff.1 hy
   refine ⟨.int .u8 y, by simp [hy], ?_⟩
   have := hbd j hlt
   rw [e] at this
   exact .int this.1 this.2) hm
  refine ⟨_, g', rfl, ⟨by simp, fun t => ?_, q1.heap, q1.locs, q1.imms, q1.owns, q1.fzs⟩, q2⟩
  match t with
  | 0 => exact ⟨q3, q4⟩
  | t+1 => exact ⟨by simp [lget]; exact .any _, trivial⟩
 have hv' : VR g (.sl none (l.map (AV.int .u8))) v := hv
 cases hv' with
 | sl hl hc hbm b o es vs' ha hes h0 hn hi hvv hq =>
  rename_i ad n cap
  simp at hl
  have hflat : (l.map (AV.int .u8)).flatMap AV.cells = l.map (AV.int .u8) := flat_u8 l
  have hint : ∀ j, (hj : j < l.length) → g.ow b (o + j) = .imm (vs' j) ∧ vs' j = .int .u8 l[j] ∧ IntKind.u8.min ≤ l[j] ∧ l[j] ≤ IntKind.u8.max := fun j hj => by
   have e : ((l.map (AV.int .u8)).flatMap AV.cells)[j]? = some (.int .u8 l[j]) := by rw [hflat]; simp [hj]
   obtain ⟨q1, q2, q3⟩ := int_inv (hvv j _ e)
   exact ⟨hi j _ e, q1, q2, q3⟩
  cases ad with
  | none =>
   have hl0 : l = [] := by
    cases l with
    | nil => rfl
    | cons x m => have := ha (by simp); cases this
   subst hl0
   refine (hnone _ _ w).mono ?_
   rintro e w' ⟨rfl, rfl⟩
   exact hfin _ _ ⟨by simp, .inl ⟨rfl, rfl⟩⟩ (.refl _ _) (fun j hj => by simp at hj) (by simp)
  | some ad =>
   by_cases hz : l = []
   ·subst hz
    have hn0 : n = 0 := by simpa using hl.symm
    subst hn0
    refine (hzero ad cap w).mono ?_
    rintro e w' ⟨v', rfl, ho, hb⟩
    exact hfin _ _ ho hb (fun j hj => by simp at hj) (by simp)
   ·obtain ⟨rfl⟩ : ad = ⟨b, o, none⟩ := by have := ha (by simpa using hz); simpa using this
    refine (hsome b o n cap l w hl (by unfold maxB at hbm; omega) (fun j hj => ?_)).mono ?_
    ·obtain ⟨q1, q2, _⟩ := hint j hj
     rw [hr.imms _ _ _ q1, q2]; simp [List.getD_eq_getElem?_getD, hj]
    ·rintro e w' ⟨v', rfl, ho, hb⟩
     rw [← hl] at ho
     exact hfin _ _ ho hb (fun j hj => (hint j hj).2.2) (by rw [hl]; exact hbm)
end
end Go.Av

