import Derived.Test.YtmedpledgchipaaGreatDoorAv4
set_option linter.unusedSectionVars false
set_option linter.unusedVariables false
set_option linter.unusedSimpArgs false
set_option linter.unnecessarySimpa false
namespace Go.Av
open Go
variable [Lay]
section
variable {P : Program} {nb : Nat} {all : List Oper} {o : Oper}
def noBar (all : List Oper) : Bool := all.all fun o => !barD all o.dst
end
end Go.Av

namespace Go.Av
open Go
variable [Lay]
section
variable {P : Program} {nb : Nat} {R : Rt} {k : List Item} {ops : Array Oper}
def ascOk (ops : Array Oper) : Bool := (List.range ops.size).all fun i => match ops[i]? with | some o => o.after.toList.all fun e => !Region.binds .any e || decide (e.on < i) | none => true
theorem go_spec (hasc : ascOk ops = true) : ∀ (fuel t : Nat) (listed : Array Bool), listed.size = ops.size → (∀ i, listed.getD i false = true → Done ops listed i) → (remL ops.size listed).length ≤ fuel →
    ∃ is, Region.linearise.go .any ops fuel t listed [] = is ∧ is.Perm (remL ops.size listed) ∧ is.Pairwise fun a b => mustB ops 12 a b = false := by
  intro fuel
  induction fuel with
  | zero =>
    intro t listed hs hd hf
    have : remL ops.size listed = [] := by simpa using hf
    exact ⟨[], by simp [Region.linearise.go], by rw [this], .nil⟩
  | succ fuel ih =>
    intro t listed hs hd hf
    have hchk : ∀ i, i < ops.size → ∀ o, ops[i]? = some o → ∀ e, e ∈ o.after → Region.binds .any e = true → e.on < i := fun i hi o ho e he hb => by
      have := List.all_eq_true.1 hasc i (by simpa using hi)
      simp only [ho, List.all_eq_true] at this
      have := this e (by simpa using he)
      simpa [hb] using this
    have hmem : ∀ i, i ∈ Region.ready .any ops listed → i ∈ remL ops.size listed ∧ i < ops.size ∧ listed.getD i false = false ∧ Done ops listed i := fun i hi => by
      simp only [Region.ready, List.mem_filter, List.mem_range, Bool.and_eq_true] at hi
      obtain ⟨h1, h2, h3⟩ := hi
      refine ⟨by simp [remL, h1]; simpa using h2, h1, ?_, fun o ho e he hb => ?_⟩
      · have : i < listed.size := by omega
        simp [Array.getD_eq_getD_getElem?, this] at h2 ⊢; exact h2
      · simp only [ho, Option.map_some, Option.getD_some, Array.all_eq_true'] at h3
        have := h3 e he
        simpa [hb] using this
    simp only [Region.linearise.go]
    change ∃ is, (match (Region.ready .any ops listed)[t % (Region.ready .any ops listed).length]? with
      | some i => Region.linearise.go .any ops fuel (t / (Region.ready .any ops listed).length) (listed.setIfInBounds i true) [i]
      | none => [].reverse) = is ∧ _
    cases hi : (Region.ready .any ops listed)[t % (Region.ready .any ops listed).length]? with
    | none =>
      have hnil : Region.ready .any ops listed = [] := by
        cases hr : Region.ready .any ops listed with
        | nil => rfl
        | cons x xs =>
          rw [hr] at hi
          have hlt : t % (x :: xs).length < (x :: xs).length := Nat.mod_lt _ (by simp)
          simp at hi
          simp at hlt
          omega
      have hrem : remL ops.size listed = [] := by
        cases hc : remL ops.size listed with
        | nil => rfl
        | cons i is =>
          exfalso
          have hin : i ∈ remL ops.size listed := by rw [hc]; simp
          have hin' := hin
          simp only [remL, List.mem_filter, List.mem_range] at hin'
          have hpw : (remL ops.size listed).Pairwise (· < ·) := List.Pairwise.filter _ (List.pairwise_lt_range)
          rw [hc] at hpw
          have hmin : ∀ j, j < i → listed.getD j true = true := fun j hj => by
            cases hl : listed.getD j true with
            | true => rfl
            | false =>
              have : j ∈ remL ops.size listed := List.mem_filter.2 ⟨List.mem_range.2 (by omega), by simp only [hl]; rfl⟩
              rw [hc] at this
              rcases List.mem_cons.1 this with e | h
              · omega
              · have := (List.pairwise_cons.1 hpw).1 j h; omega
          have : i ∈ Region.ready .any ops listed := by
            simp only [Region.ready, List.mem_filter, List.mem_range, Bool.and_eq_true]
            refine ⟨hin'.1, by simpa using hin'.2, ?_⟩
            rw [Array.getElem?_eq_getElem hin'.1]
            simp only [Option.map_some, Option.getD_some, Array.all_eq_true']
            intro e he
            cases hb : Region.binds .any e with
            | false => rfl
            | true =>
              have hlt := hchk i hin'.1 _ (Array.getElem?_eq_getElem hin'.1) e he hb
              have := hmin _ hlt
              have hsz : e.on < listed.size := by omega
              simp [Array.getD_eq_getD_getElem?, hsz] at this ⊢; exact this
          rw [hnil] at this; simp at this
      exact ⟨[], rfl, by rw [hrem], .nil⟩
    | some i =>
      simp only []
      rw [linearise_go_acc, List.reverse_singleton, List.singleton_append]
      obtain ⟨h1, h2, h3, h4⟩ := hmem i (List.mem_of_getElem? hi)
      obtain ⟨pre, post, e1, e2, e3⟩ := remL_split h1
      obtain ⟨is, q1, q2, q3⟩ := ih (t / (Region.ready .any ops listed).length) (listed.setIfInBounds i true) (by simp [hs]) (fun j hj => by
        have hset : ∀ e, listed.getD e false = true → (listed.setIfInBounds i true).getD e false = true := fun e he => getD_set_true he
        by_cases hji : j = i
        · subst hji
          exact fun o ho e he hb => hset _ (h4 o ho e he hb)
        · rw [getD_set_ne _ (Ne.symm hji)] at hj
          exact fun o ho e he hb => hset _ (hd j hj o ho e he hb)) (by
        rw [remL_set (by omega), e2]
        have : (remL ops.size listed).length = (pre ++ post).length + 1 := by rw [e1]; simp; omega
        omega)
      rw [remL_set (by omega), e2] at q2
      refine ⟨i :: is, by rw [q1], ?_, List.pairwise_cons.2 ⟨fun j hj => ?_, q3⟩⟩
      · rw [e1]
        exact (q2.cons i).trans List.perm_middle.symm
      · cases hm : mustB ops 12 i j with
        | false => rfl
        | true =>
          exfalso
          have hl := mustB_spec hd 12 i j h4 hm
          have hj' : j ∈ pre ++ post := q2.mem_iff.1 hj
          have : j ∈ remL ops.size listed := by rw [e1]; simp at hj' ⊢; rcases hj' with h | h <;> simp [h]
          simp only [remL, List.mem_filter, List.mem_range] at this
          have hsz : j < listed.size := by omega
          simp [Array.getD_eq_getD_getElem?, hsz] at this hl
          rw [hl] at this; simp at this
def opAt (ops : Array Oper) (i : Nat) : Oper := ops.getD i default
def pairsB (f : Nat → Nat → Bool) : List Nat → Bool
 | [] => true
 | a :: l => l.all (f a) && pairsB f l
theorem pairsB_spec {f : Nat → Nat → Bool} : ∀ {l : List Nat}, pairsB f l = true → l.Pairwise fun a b => f a b = true
 | [], _ => .nil
 | a :: l, h => by
  simp only [pairsB, Bool.and_eq_true, List.all_eq_true] at h
  exact List.pairwise_cons.2 ⟨h.1, pairsB_spec h.2⟩
theorem two_orders {x y : Nat} (hxy : x ≠ y) : ∀ {l : List Nat}, l.Nodup → (l.Pairwise fun a b => ¬ (b = x ∧ a = y)) ∨ (l.Pairwise fun a b => ¬ (b = y ∧ a = x))
 | [], _ => .inl .nil
 | c :: l, h => by
  obtain ⟨h1, h2⟩ := List.nodup_cons.1 h
  by_cases hx : c = x
  ·left
   refine List.pairwise_cons.2 ⟨fun b hb => fun e => hxy (hx ▸ e.2), ?_⟩
   exact (List.Pairwise.imp_of_mem (R := fun _ _ => True) (fun {a b} _ hb _ e => h1 (by rw [hx, ← e.1]; exact hb)) (by exact List.pairwise_of_forall (fun _ _ => trivial)))
  ·by_cases hy : c = y
   ·right
    refine List.pairwise_cons.2 ⟨fun b hb => fun e => hxy (hy ▸ e.2).symm, ?_⟩
    exact (List.Pairwise.imp_of_mem (R := fun _ _ => True) (fun {a b} _ hb _ e => h1 (by rw [hy, ← e.1]; exact hb)) (by exact List.pairwise_of_forall (fun _ _ => trivial)))
   ·rcases two_orders hxy h2 with h3 | h3
    ·exact .inl (List.pairwise_cons.2 ⟨fun b hb e => hy e.2, h3⟩)
    ·exact .inr (List.pairwise_cons.2 ⟨fun b hb e => hx e.2, h3⟩)
end
end Go.Av

namespace Go.Av
open Go
variable [Lay]
section
variable {P : Program} {nb : Nat} {R : Rt} {k : List Item} {tm : List AV} {hp : Heap}
end
end Go.Av

