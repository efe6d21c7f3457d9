import Derived.Test.YtphdekcijjgbeaaGreatDoorEx5
import Derived.Test.YtphdekcijjgbeaaGreatDoorAv5
set_option linter.unusedSectionVars false
set_option linter.unusedVariables false
set_option linter.unusedSimpArgs false
set_option linter.unnecessarySimpa false
namespace Go.Av
open Go
def swAt {α : Type} : Nat → List α → List α
 | 0, a :: b :: l => b :: a :: l
 | n+1, a :: l => a :: swAt n l
 | _, l => l
theorem swAt_map {α β : Type} {f : α → β} : ∀ {n : Nat} {l : List α}, (swAt n l).map f = swAt n (l.map f)
 | 0, [] => rfl
 | 0, [a] => rfl
 | 0, a :: b :: l => rfl
 | n+1, [] => rfl
 | n+1, a :: l => by simp only [List.map_cons, swAt]; rw [swAt_map]
section
variable [Lay] {P : Program} {nb : Nat} {R : Rt} {k1 k2 k : List Item} {tm : List AV} {hp hp' : Heap}
theorem range_opAt {ops : List Oper} : (List.range ops.length).map (opAt (List.toArray ops)) = ops := by
 apply List.ext_getElem?
 intro j
 by_cases hj : j < ops.length
 ·simp [List.getElem?_range hj, hj, opAt, Array.getD_eq_getD_getElem?]
 ·simp [hj]
theorem rgJ2 {id : Nat} {ops : List Oper} (N n p m : Nat) (rt1 rt2 : List (Nat × Nat)) (hd : draw2Ok rt1 rt2 (List.toArray ops) p (p+1) (swAt p (List.range ops.length)) = true) (hm : hp.length = m) (a1 : alOk rt1 m ops = true) (a2 : alOk rt2 m (swAt p ops) = true)
  (i1 : invB rt1 tm hp = true) (i2 : invB rt2 tm hp = true) (J : FP → Prop) (h2 : J fun l hp => W P nb R (k1 ++ k2) (fr N l) hp)
  (h1 : (J fun l hp => W P nb R (k1 ++ k2) (fr N l) hp) → hold P nb R (ex P n (some (true, ops, ops)) [] (k1 ++ k2) tm hp))
  (h3 : (J fun l hp => W P nb R (k1 ++ k2) (fr N l) hp) → hold P nb R (ex P n (some (true, ops, swAt p ops)) [] (k1 ++ k2) tm hp)) : hold P nb R (.rg id (List.toArray ops) true k1 k2 tm hp) := by
 show W P nb R (.code (.region id (List.toArray ops) true) :: (k1 ++ k2)) tm hp
 intro hk
 simp only [okK, okItem, okCode, Bool.and_eq_true, List.all_eq_true, Bool.or_eq_true, Bool.not_eq_true'] at hk
 obtain ⟨S1, q1, q2⟩ := ex_sound n _ [] (k1 ++ k2) tm hp (h1 h2) hk.2
 obtain ⟨S2, r1, r2⟩ := ex_sound n _ [] (k1 ++ k2) tm hp (h3 h2) hk.2
 have hmo := hk.1.2
 simp at hmo
 have hL : (swAt p (List.range ops.length)).map (opAt (List.toArray ops)) = swAt p ops := by rw [swAt_map, range_opAt]
 exact W0.regionDraw2 (S := (tm, hp)) hmo hk.1.1 hd (by rw [← hm] at a1; exact a1) (by rw [hL, ← hm] at *; exact a2) (invB_spec i1) (invB_spec i2) q1 (by rw [hL]; exact r1) q2 r2
theorem al_ren {f : Nat → Nat} : ∀ {l : List (Nat × AV)} {t : Nat}, al (l.map fun p => (p.1, ren f p.2)) t = ren f (al l t)
 | [], t => rfl
 | (i, v) :: l, t => by
  simp only [List.map_cons, al]
  cases (i == t) with
  | true => rfl
  | false => exact al_ren
theorem renL_fr {f : Nat → Nat} {N : Nat} {l : List (Nat × AV)} : renL f (fr N l) = fr N (l.map fun p => (p.1, ren f p.2)) := by
 apply lget_ext (by rw [renL_eq]; simp [fr_len])
 intro t
 rw [lget_ren rfl]
 by_cases h : t < N
 ·rw [lget_fr h, lget_fr h, al_ren]
 ·rw [lget_ge (by rw [fr_len]; omega), lget_ge (by rw [fr_len]; omega)]; rfl
theorem swJ {N : Nat} {l l' : List (Nat × AV)} (x y : Nat) (h : W P nb R k (fr N l) hp) (ht : toldA (l'.map fun p => (p.1, ren (swp x y) p.2)) l) (hh : hpSw x y hp' = hp) (h1 : Nat.ble (x+1) hp'.length = true) (h2 : Nat.ble (y+1) hp'.length = true) (h3 : Nat.ble nb x = true) (h4 : Nat.ble nb y = true) : W P nb R k (fr N l') hp' := by
 subst hh
 intro hk
 have := wkn h ht hk
 refine W0.sw (x := x) (y := y) (by rw [renL_fr]; exact this) ?_ ?_ ?_ ?_
 ·exact Nat.le_of_ble_eq_true h1
 ·exact Nat.le_of_ble_eq_true h2
 ·exact Nat.le_of_ble_eq_true h3
 ·exact Nat.le_of_ble_eq_true h4
end
end Go.Av

