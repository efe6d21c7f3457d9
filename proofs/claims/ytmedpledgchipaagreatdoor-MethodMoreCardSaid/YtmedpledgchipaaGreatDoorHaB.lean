import Derived.Test.YtmedpledgchipaaGreatDoorHaA
set_option linter.unusedSectionVars false
set_option linter.unusedVariables false
set_option linter.unusedSimpArgs false
set_option linter.unnecessarySimpa false
namespace Go.Av
open Go Go.RowKit Go.Proofs Go.Sort
section
variable [Lay] {P : Program} {f : FuncId} {fn : Func} {g : Gh} {tm : List AV} {hp : Heap} {a : Array Value} {w w1 : World}
theorem Rel.blkOf (h : Rel g tm [] a w) (hb : RowKit.Below w.heap.size w w1) {B : Nat} {c : Array Value} {T : TypeId} (hB1 : w.heap.size ≤ B) (hB : w1.heap[B]? = some (.cells c T (0, 0))) {cs : List AV} (hl : cs.length = c.size) (hv : ∀ (j : Nat) (x : AV) (u : Value), cs[j]? = some x → c[j]? = some u → VR g x u) (hm : ∀ x, x ∈ cs → Meek x)
    {r : AV} {v : Value} (hr : ∀ g' : Gh, g'.loc 0 = some (B, 0, c.size) → VR g' r v) (hmr : Meek r) : ∃ g', Rel g' [r] [some cs] #[v] w1 ∧ Stp 0 g w g' w1 := by
  obtain ⟨hw1, hw2⟩ := h.world hb 0
  have hfree : ∀ o, g.ow B o = .free := fun o => by
    cases e : g.ow B o with
    | free => rfl
    | _ => have := h.lt (b := B) (o := o) (by rw [e]; simp)
           omega
  let f : Nat → Owner := fun o => if o < c.size then .blk 0 else .free
  have h1 := hw1.claim hB hfree f (fun o ho => by
    simp only [f] at ho
    split at ho
    · assumption
    · exact absurd rfl ho) (fun o u ho => by
    simp only [f] at ho
    split at ho <;> cases ho)
  have hne : ∀ {b o}, g.ow b o ≠ .free → b ≠ B := fun {b o} h e => by subst e; exact h (hfree o)
  have hst : Stp 0 g w (g.fresh B f) w1 := ⟨fun b o v e => by rw [fresh_old (hne (by rw [e]; simp))]; exact e, fun b o hb' e => by rw [fresh_old (by omega)]; exact e, fun _ _ _ h => h, hw2.upd, fun _ _ h => h, fun _ _ h => h⟩
  have hnew : ∀ o, (g.fresh B f).ow B o = f o := fun o => fresh_new
  have hm1 : ∀ {x u}, VR g x u → VR (g.fresh B f) x u := fun hv => VR.mono (g := g) (g' := g.fresh B f) (fun b o v e => by rw [fresh_old (hne (by rw [e]; simp))]; exact e) (fun _ _ h => h) (fun _ _ h => h) hv
  generalize g.fresh B f = g1 at *
  let g2 : Gh := { g1 with loc := fun i => if i = 0 then some (B, 0, c.size) else g1.loc i }
  have hn : g1.loc 0 = none := h1.locs _ (Nat.le_refl _)
  have hm2 : ∀ {x u}, VR g1 x u → VR g2 x u := fun hv => hv.loc hn
  refine ⟨g2, ⟨by simp, fun t => ?_, fun id cs' hc => ?_, fun id hid => ?_, h1.imms, h1.owns, h1.fzs⟩, ⟨hst.imm, hst.perm, fun id l hid hl => by omega, hst.upd, hst.fzm, hst.fzn⟩⟩
  · match t with
    | 0 => exact ⟨hr g2 (by simp [g2]), Tail.meek hmr⟩
    | t+1 => exact ⟨by simp [lget]; exact .any _, trivial⟩
  · match id with
    | 0 =>
      simp at hc; subst hc
      refine ⟨B, 0, c.size, by simp [g2], by omega, fun j hj => ?_, fun j x hx => ?_⟩
      · show g1.ow B (0 + j) = _
        rw [hnew]; simp [f, hj]
      · have hj : j < c.size := by have := (List.getElem?_eq_some_iff.1 hx).1; omega
        refine ⟨c[j], ?_, hm2 (hm1 (hv j x _ hx (Array.getElem?_eq_getElem hj))), Tail.meek (hm x (List.mem_of_getElem? hx))⟩
        simp [World.cell?, hB, hj]
    | id+1 => simp at hc
  · show (if id = 0 then _ else g1.loc id) = none
    simp at hid
    rw [if_neg (by omega)]; exact h1.locs _ (by simp)
theorem acallB_repeat {T : TypeId} (he : ∀ vs w, (callFunc f vs).run P w = .ok (.enter f vs) w)
  (hsome : ∀ (b off c n : Nat) (x : Int) (w : World), w.cell? ⟨b, off, none⟩ = some (.int .i64 x) → n * 8 ≤ 140737488355328 →
   Calls P f #[.slice (some ⟨b, off, none⟩) 1 c, .int .i64 n] w fun e w' => e = .returned (.slice (some ⟨w.heap.size, 0, none⟩) n n) ∧ (∃ c : Array Value, w'.heap[w.heap.size]? = some (.cells c T (0, 0)) ∧ c.size = n ∧ ∀ i, i < n → c[i]? = some (.int .i64 x)) ∧ Below w.heap.size w w')
  {o : Option (Option ETy)} {l r : List Int} {n : Int} (h : (if l.length = 1 ∧ 0 ≤ n ∧ n * 8 ≤ maxB then some (List.replicate n.toNat (l.getD 0 0)) else none) = some r) :
  ACallB P f [.sl o (l.map (AV.int .i64)), .int .i64 n] (.rs 0 0 r.length 1 false false) (r.map (AV.int .i64)) := by
 split at h
 ·rename_i hc
  obtain ⟨h1, h2, h3⟩ := hc
  obtain ⟨x, rfl⟩ : ∃ x, l = [x] := List.length_eq_one_iff.1 h1
  obtain ⟨n, rfl⟩ : ∃ k : Nat, n = (k : Int) := ⟨n.toNat, by omega⟩
  simp only [List.getD_cons_zero, Int.toNat_natCast, Option.some.injEq] at h
  subst h
  refine ⟨by simp [ltR], ltRL_map plain_int 1 _, by intro oe l; simp, fun g w vs hLg hr hs => .inl ⟨he vs w, ?_⟩⟩
  have hv := (hr.slots 0).1
  have hv2 := (hr.slots 1).1
  have hv2' : VR g (.int .i64 (n : Int)) (vs.getD 1 undef) := hv2
  obtain ⟨e1, _, _⟩ := int_inv hv2'
  have hvs : vs = #[vs.getD 0 undef, .int .i64 n] := by
   have := vs2 hs
   rw [e1] at this
   exact this
  rw [hvs]
  obtain ⟨v, hve⟩ : ∃ v, vs.getD 0 undef = v := ⟨_, rfl⟩
  rw [hve] at hv ⊢
  have hv' : VR g (.sl o [AV.int .i64 x]) v := hv
  cases hv' with
  | sl hl hc hbm b off es vs' ha hes h0 hn hi hvv hq =>
   rename_i ad n' cap
   simp at hl
   subst hl
   have hf : [AV.int .i64 x].flatMap AV.cells = [AV.int .i64 x] := rfl
   obtain ⟨q1, q2, q3⟩ := int_inv (hvv 0 _ (by rw [hf]; rfl))
   have him := hr.imms _ _ _ (hi 0 _ (by rw [hf]; rfl))
   rw [q1] at him
   obtain rfl : ad = some ⟨b, off, none⟩ := by have := ha (by simp); simpa using this
   refine (hsome b off cap n x w him (by simp only [maxB] at h3; omega)).mono ?_
   rintro e w' ⟨rfl, ⟨c, hB, hcs, hci⟩, hb⟩
   obtain ⟨g', p1, p2⟩ := hr.blkOf hb (Nat.le_refl _) hB (cs := (List.replicate n x).map (AV.int .i64)) (r := .rs 0 0 (List.replicate n x).length 1 false false) (v := .slice (some ⟨w.heap.size, 0, none⟩) n n) (by simp [hcs]) (fun j y u hj hu => by
     rw [List.getElem?_map, Option.map_eq_some_iff] at hj
     obtain ⟨z, hz, rfl⟩ := hj
     rw [List.getElem?_replicate] at hz
     split at hz
     ·rename_i hjn
      cases hz
      rw [hci j hjn] at hu
      cases hu
      exact .int q2 q3
     ·cases hz) (fun y hy => by obtain ⟨z, _, rfl⟩ := List.mem_map.1 hy; exact (plain_int z).2.2)
    (fun g' hg' => by
     rw [List.length_replicate]
     exact .rs hg' (fun _ => by simp) (by omega) (Nat.le_refl _) (fun e => by cases e) (by omega) (by simp only [maxB] at h3 ⊢; omega)) (by intro oe l; simp)
   exact ⟨_, g', rfl, p1, p2⟩
 ·cases h
end
end Go.Av

