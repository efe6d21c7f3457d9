import Derived.Test.YteeokchpojaaoaaGreatDoorHa2
set_option linter.unusedSectionVars false
set_option linter.unusedVariables false
set_option linter.unusedSimpArgs false
set_option linter.unusedVariables false
set_option linter.unusedSimpArgs false
namespace Go.Av
open Go Go.RowKit
section
variable {g : Gh} {tm : List AV} {hp : Heap} {a : Array Value} {w : World}

theorem heap_freeze {b n : Nat} {c : Array Value} {e : TypeId} {lo hi : Nat} (hb : w.heap[b]? = some (Obj.cells c e (lo, hi))) (hn : n ≠ 0) (b' : Nat) :
    (w.freeze ⟨b, 0, none⟩ n).heap[b']? = if b' = b then some (Obj.cells c e (if lo == hi then (0, n) else (min lo 0, max hi n))) else w.heap[b']? := by
  simp only [World.freeze, if_neg hn, Array.getElem?_modify, Nat.zero_add]
  by_cases e : b' = b
  · subst e; rw [if_pos rfl, if_pos rfl, hb]; rfl
  · rw [if_neg e, if_neg (fun h => e h.symm)]

theorem Rel.freeze (h : Rel g tm hp a w) {b n : Nat} {e : TypeId × Nat} (hz : g.fz b = some e) (hi' : ∀ o, o < n → ∃ v, g.ow b o = .imm v) :
    Rel g tm hp a (w.freeze ⟨b, 0, none⟩ n) ∧ ∀ m, Stp m g w g (w.freeze ⟨b, 0, none⟩ n) := by
  by_cases hn : n = 0
  · subst hn
    have e : w.freeze ⟨b, 0, none⟩ 0 = w := by simp [World.freeze]
    rw [e]; exact ⟨h, fun m => .refl _ _ _⟩
  obtain ⟨c, lo, hi, q1, ⟨q2, q2'⟩, q3⟩ := h.fzs b e hz
  have hh := heap_freeze q1 hn
  have hcell : ∀ b' o, (w.freeze ⟨b, 0, none⟩ n).cell? ⟨b', o, none⟩ = w.cell? ⟨b', o, none⟩ := fun b' o => by
    unfold World.cell?
    simp only [hh]
    by_cases e : b' = b
    · subst e; rw [if_pos rfl, q1]
    · rw [if_neg e]
  have himm : ∀ o, (decide ((if lo == hi then ((0 : Nat), n) else (min lo 0, max hi n)).1 ≤ o) && decide (o < (if lo == hi then ((0 : Nat), n) else (min lo 0, max hi n)).2)) = true → ∃ v, g.ow b o = .imm v := fun o ho => by
    by_cases hlh : lo = hi
    · simp [hlh] at ho; exact hi' o ho
    · have : (lo == hi) = false := by simpa using hlh
      simp [this] at ho
      rcases Nat.lt_or_ge o n with h1 | h1
      · exact hi' o h1
      · rcases q2 with q2 | q2
        · exact absurd q2 hlh
        · exact q3 o (by omega) (by omega)
  have hfr : ∀ b' o, (∀ v, g.ow b' o ≠ .imm v) → w.frozen? ⟨b', o, none⟩ = false → (w.freeze ⟨b, 0, none⟩ n).frozen? ⟨b', o, none⟩ = false := fun b' o h1 h2 => by
    unfold World.frozen? at *
    simp only [hh]
    by_cases e : b' = b
    · subst e
      rw [if_pos rfl]
      cases hd : (decide ((if lo == hi then ((0 : Nat), n) else (min lo 0, max hi n)).1 ≤ o) && decide (o < (if lo == hi then ((0 : Nat), n) else (min lo 0, max hi n)).2)) with
      | false => simpa using hd
      | true => obtain ⟨v, hv⟩ := himm o hd; exact absurd hv (h1 v)
    · rw [if_neg e]; exact h2
  refine ⟨⟨h.size, h.slots, fun id cs hc => ?_, h.locs, fun b' o v hv => ?_, fun b' o hv => ?_, fun b' e' he => ?_⟩, fun m => ⟨fun _ _ _ h => h, fun _ _ _ h => h, fun _ _ _ h => h, ⟨?_, ?_, ?_, ?_, fun b' c' e' f' hb => ?_, fun b' o hb ho => ?_⟩, fun _ _ h => h, fun _ _ h => h⟩⟩
  · obtain ⟨b', base, c', e1, e2, e3, e4⟩ := h.heap id cs hc
    refine ⟨b', base, c', e1, e2, e3, fun j av hj => ?_⟩
    rw [hcell]; exact e4 j av hj
  · rw [hcell]; exact h.imms _ _ _ hv
  · obtain ⟨⟨v, h1⟩, h2⟩ := h.owns _ _ hv
    refine ⟨⟨v, by rw [hcell]; exact h1⟩, fun hi => hfr _ _ hi (h2 hi)⟩
  · by_cases e : b' = b
    · subst e
      rw [hz] at he; cases he
      rw [hh, if_pos rfl]
      cases hlh : lo == hi with
      | true => exact ⟨c, 0, n, rfl, ⟨.inr rfl, q2'⟩, fun o _ ho => hi' o ho⟩
      | false =>
        refine ⟨c, min lo 0, max hi n, rfl, ⟨.inr (by omega), q2'⟩, fun o h1 h2 => himm o ?_⟩
        rw [hlh]; simp; omega
    · rw [hh, if_neg e]; exact h.fzs b' e' he
  · simp [World.freeze, if_neg hn]
  · simp [World.freeze, if_neg hn]
  · simp [World.freeze, if_neg hn]
  · simp [World.freeze, if_neg hn]
  · rw [hh]
    by_cases e : b' = b
    · subst e
      rw [q1] at hb; cases hb
      rw [if_pos rfl]
      refine ⟨c, _, rfl, rfl, fun _ _ => rfl, fun hnn => (by rw [hz] at hnn; cases hnn), fun o ho => ?_⟩
      have h1 : (decide (lo ≤ o) && decide (o < hi)) = false := by
        cases hd : (decide (lo ≤ o) && decide (o < hi)) with
        | false => rfl
        | true => simp at hd; obtain ⟨v, hv⟩ := q3 o hd.1 hd.2; rw [ho] at hv; cases hv
      rw [h1]
      cases hd : (decide ((if lo == hi then ((0 : Nat), n) else (min lo 0, max hi n)).1 ≤ o) && decide (o < (if lo == hi then ((0 : Nat), n) else (min lo 0, max hi n)).2)) with
      | false => rfl
      | true => obtain ⟨v, hv⟩ := himm o hd; rw [ho] at hv; cases hv
    · rw [if_neg e]; exact ⟨c', f', hb, rfl, fun _ _ => rfl, fun _ => rfl, fun _ _ => rfl⟩
  · rw [hh]
    by_cases e : b' = b
    · subst e; rw [q1] at hb; cases hb; exact absurd rfl (ho _ _ _)
    · rw [if_neg e]; exact hb
end
end Go.Av

