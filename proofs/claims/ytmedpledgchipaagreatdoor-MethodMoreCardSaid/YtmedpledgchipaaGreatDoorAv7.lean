import Derived.Test.YtmedpledgchipaaGreatDoorAv5
import Derived.Test.YtmedpledgchipaaGreatDoorAv4
set_option linter.unusedSectionVars false
set_option linter.unusedVariables false
set_option linter.unusedSimpArgs false
set_option linter.unnecessarySimpa false
namespace Go.Av
open Go
variable [Lay]
section
variable {P : Program} {nb : Nat} {R : Rt} {k : List Item} {ops : Array Oper}
def pairOkM (P : Program) (rt : List (Nat × Nat)) (ops : Array Oper) (x y : Nat) (a b : Nat) : Bool := mustB ops 12 b a || pairI P rt ops.toList (opAt ops a) (opAt ops b) || (Nat.beq a x && Nat.beq b y)
theorem W0.drawsM {rt : List (Nat × Nat)} {x y : Nat} (hok : ∀ o, o ∈ ops.toList → okOper o = true) (hrt : rtOk rt ops.toList = true) (hnb : noBar ops.toList = true) : ∀ (is L : List Nat) (S S' : St), is.Perm L → L.Nodup → (∀ i, i ∈ L → i < ops.size) →
    (is.Pairwise fun a b => mustB ops 12 a b = false) → (is.Pairwise fun a b => ¬ (b = x ∧ a = y)) → (L.Pairwise fun a b => pairOkM P rt ops x y a b = true) →
    InvR rt S → Run P nb true ops.toList (L.map (opAt ops)) S S' → W0 P nb R k S'.1 S'.2 → W0 P nb R (.inRegion ops is :: k) S.1 S.2 := by
  intro is
  induction is with
  | nil =>
    intro L S S' hp hn hlt hm hs hpr hI hr hk
    have : L = [] := by simpa using hp.symm.eq_nil
    subst this
    cases hr
    exact W0.regionEnd (ops := ops) hk
  | cons i is ih =>
    intro L S S' hp hn hlt hm hs hpr hI hr hk
    have hiL : i ∈ L := hp.mem_iff.1 (by simp)
    obtain ⟨pre, post, rfl⟩ := List.append_of_mem hiL
    have hp' : is.Perm (pre ++ post) := by
      have := hp.trans List.perm_middle
      exact (List.perm_cons i).1 this
    have hget : ∀ j, j < ops.size → ops[j]? = some (opAt ops j) := fun j hj => by simp [opAt, Array.getD_eq_getD_getElem?, hj]
    have hin : ∀ j, j < ops.size → opAt ops j ∈ ops.toList := fun j hj => by simpa using Array.mem_of_getElem? (hget j hj)
    have hbar : ∀ o, o ∈ ops.toList → barD ops.toList o.dst = false := fun o ho => by simpa using List.all_eq_true.1 hnb o ho
    obtain ⟨m1, m2⟩ := List.pairwise_cons.1 hm
    obtain ⟨s1, s2⟩ := List.pairwise_cons.1 hs
    rw [List.map_append, List.map_cons] at hr
    have hind : ∀ o, o ∈ pre.map (opAt ops) → pairI P rt ops.toList o (opAt ops i) = true := fun o ho => by
      obtain ⟨j, hj, rfl⟩ := List.mem_map.1 ho
      have hpo := (List.pairwise_append.1 hpr).2.2 j hj i (by simp)
      have hjis : j ∈ is := hp'.mem_iff.2 (by simp [hj])
      simp only [pairOkM, Bool.or_eq_true, Bool.and_eq_true, Nat.beq_eq] at hpo
      rcases hpo with (h | h) | h
      · rw [m1 j hjis] at h; cases h
      · exact h
      · exact absurd h (fun e => s1 j hjis ⟨e.1, e.2⟩)
    obtain ⟨S1, q1, q2⟩ := Run.front (rt := rt) hrt (fun o ho => by
      obtain ⟨j, hj, rfl⟩ := List.mem_map.1 ho; exact hin j (hlt j (by simp [hj]))) (hin i (hlt i hiL)) hI hr (fun o ho => hbar o (by
      obtain ⟨j, hj, rfl⟩ := List.mem_map.1 ho; exact hin j (hlt j (by simp [hj])))) (fun _ => hbar _ (hin i (hlt i hiL))) hind
    have q1 : StT P nb ops.toList (opAt ops i) S S1 := by
      rcases q1 with q1 | ⟨q1, _⟩
      · exact q1
      · rw [hbar _ (hin i (hlt i hiL))] at q1; cases q1
    refine W0.simN (q1.sim (hget i (hlt i hiL)) (hok _ (hin i (hlt i hiL)))) (ih (pre ++ post) S1 S' hp' ?_ (fun j hj => hlt j (by simp at hj ⊢; rcases hj with h | h <;> simp [h])) m2 s2 ?_ (q1.inv hrt (hin i (hlt i hiL)) hI) (by rw [List.map_append]; exact q2) hk)
    · exact hn.sublist (List.Sublist.append_left (List.sublist_cons_self i post) pre)
    · exact hpr.sublist (List.Sublist.append_left (List.sublist_cons_self i post) pre)
def drawMOk (P : Program) (rt : List (Nat × Nat)) (ops : Array Oper) (x y : Nat) (L : List Nat) : Bool :=
 ascOk ops && noBar ops.toList && !Nat.beq x y && pairsB (pairOkM P rt ops x y) (List.range ops.size) && pairsB (pairOkM P rt ops y x) L && decide (L.Perm (List.range ops.size))
theorem W0.regionDrawM {rt : List (Nat × Nat)} {x y : Nat} {L : List Nat} (hm : P.follows .mixedOrders = true) {id : Nat} (hok : ∀ o, o ∈ ops.toList → okOper o = true) (hdr : drawMOk P rt ops x y L = true) (hrt : rtOk rt ops.toList = true) {S S1 S2 : St} (hI : InvR rt S)
    (h1 : Run P nb true ops.toList ops.toList S S1) (h2 : Run P nb true ops.toList (L.map (opAt ops)) S S2) (k1 : W0 P nb R k S1.1 S1.2) (k2 : W0 P nb R k S2.1 S2.2) : W0 P nb R (.code (.region id ops true) :: k) S.1 S.2 := by
  intro g a w b cs hL hr hn
  simp only [drawMOk, Bool.and_eq_true, Bool.not_eq_true', decide_eq_true_eq] at hdr
  obtain ⟨⟨⟨⟨⟨c1, c2⟩, c3⟩, c4⟩, c5⟩, c6⟩ := hdr
  have hxy : x ≠ y := fun e => by subst e; simp at c3
  have hrem : remL ops.size (Array.replicate ops.size false) = List.range ops.size := by
    unfold remL
    apply List.filter_eq_self.2
    intro j hj
    have hj : j < ops.size := by simpa using hj
    simp [Array.getD_eq_getD_getElem?, Array.getElem?_replicate, hj]
  have hmap : (List.range ops.size).map (opAt ops) = ops.toList := by
    apply List.ext_getElem?
    intro j
    by_cases hj : j < ops.size
    · simp [List.getElem?_range hj, hj, opAt, Array.getD_eq_getD_getElem?]
    · simp [hj]
  obtain ⟨is, e1, e2, e3⟩ := go_spec (ops := ops) c1 ops.size (w.tape w.drawn (.order b.fn id)) (Array.replicate ops.size false) (by simp) (fun i hi => by
    simp [Array.getD_eq_getD_getElem?, Array.getElem?_replicate] at hi
    split at hi <;> simp_all) (by rw [hrem]; simp)
  rw [hrem] at e2
  have hnd : is.Nodup := e2.nodup_iff.2 List.nodup_range
  have hW : W0 P nb R (.inRegion ops is :: k) S.1 S.2 := by
    rcases two_orders hxy hnd with h | h
    · exact W0.drawsM hok hrt c2 is (List.range ops.size) S S1 e2 List.nodup_range (fun i hi => by simpa using hi) e3 h (pairsB_spec c4) hI (by rw [hmap]; exact h1) k1
    · exact W0.drawsM hok hrt c2 is L S S2 (e2.trans c6.symm) (c6.nodup_iff.2 List.nodup_range) (fun i hi => by simpa using c6.mem_iff.1 hi) e3 h (pairsB_spec c5) hI h2 k2
  obtain ⟨hr', hs'⟩ := hr.drawn (w.drawn + 1)
  obtain ⟨a', w', g', tm', hp', todo, q1, q2, q3, q4⟩ := hW g a _ b cs (hL.stp (hs' 0)) hr' hn
  refine ⟨a', w', g', tm', hp', todo, .head step_region_draw ?_, q2, (hs' _).x.trans q3, q4⟩
  have e1' : Region.linearise.go .any ops ops.size (w.tape w.drawn (.order b.fn id)) (Array.replicate ops.size false) [] = is := e1
  simp only [Region.schedule, hm, if_true, Region.linearise]
  rw [e1']
  exact q1
end
end Go.Av

