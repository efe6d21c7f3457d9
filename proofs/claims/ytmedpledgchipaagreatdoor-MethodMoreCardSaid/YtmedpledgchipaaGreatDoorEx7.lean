import Derived.Test.YtmedpledgchipaaGreatDoorEx6
import Derived.Test.YtmedpledgchipaaGreatDoorAv7
import Derived.Test.YtmedpledgchipaaGreatDoorOwn
set_option linter.unusedSectionVars false
set_option linter.unusedVariables false
set_option linter.unusedSimpArgs false
set_option linter.unnecessarySimpa false
namespace Go.Av
open Go
def insAt {α : Type} (x : α) : Nat → List α → List α
 | 0, l => x :: l
 | d+1, a :: l => a :: insAt x d l
 | _+1, [] => [x]
def mvAt {α : Type} (d : Nat) : Nat → List α → List α
 | 0, a :: l => insAt a d l
 | p+1, a :: l => a :: mvAt d p l
 | _, [] => []
theorem insAt_map {α β : Type} {f : α → β} {x : α} : ∀ {d : Nat} {l : List α}, (insAt x d l).map f = insAt (f x) d (l.map f)
 | 0, l => rfl
 | d+1, a :: l => by simp only [insAt, List.map_cons]; rw [insAt_map]
 | d+1, [] => rfl
theorem mvAt_map {α β : Type} {f : α → β} {d : Nat} : ∀ {p : Nat} {l : List α}, (mvAt d p l).map f = mvAt d p (l.map f)
 | 0, a :: l => by simp only [mvAt, List.map_cons]; rw [insAt_map]
 | p+1, a :: l => by simp only [mvAt, List.map_cons]; rw [mvAt_map]
 | 0, [] => rfl
 | p+1, [] => rfl
section
variable [Lay] {P : Program} {nb : Nat} {R : Rt} {k1 k2 k : List Item} {tm : List AV} {hp hp' : Heap}
theorem rgM {id : Nat} {ops : List Oper} (n p d y : Nat) (rt : List (Nat × Nat)) (hd : drawMOk P rt (List.toArray ops) p y (mvAt d p (List.range ops.length)) = true) (hrt : rtOk rt ops = true) (i1 : invB rt tm hp = true)
  (h1 : hold P nb R (ex P n (some (true, ops, ops)) [] (k1 ++ k2) tm hp))
  (h3 : hold P nb R (ex P n (some (true, ops, mvAt d p ops)) [] (k1 ++ k2) tm hp)) : hold P nb R (.rg id (List.toArray ops) true k1 k2 tm hp) := by
 show W P nb R (.code (.region id (List.toArray ops) true) :: (k1 ++ k2)) tm hp
 intro hk
 simp only [okK, okItem, okCode, Bool.and_eq_true, List.all_eq_true, Bool.or_eq_true, Bool.not_eq_true'] at hk
 obtain ⟨S1, q1, q2⟩ := ex_sound n _ [] (k1 ++ k2) tm hp h1 hk.2
 obtain ⟨S2, r1, r2⟩ := ex_sound n _ [] (k1 ++ k2) tm hp h3 hk.2
 have hmo := hk.1.2
 simp at hmo
 have hL : (mvAt d p (List.range ops.length)).map (opAt (List.toArray ops)) = mvAt d p ops := by rw [mvAt_map, range_opAt]
 exact W0.regionDrawM (S := (tm, hp)) hmo hk.1.1 hd hrt (invB_spec i1) q1 (by rw [hL]; exact r1) q2 r2
def refHd : List AV → Option Nat
 | x :: _ => refOf x
 | [] => none
theorem callM_ {f : FuncId} {args : List AV} {d : Bool} {all rest : List Oper} {dst : Option Nat} (n id : Nat) {args' : List AV} {hq : Heap} {r : AV} {hp1 : Heap} (hm : memD P all dst = true) (hA : ACall P f args' hq r hp1) (hx : refHd (args.map fix) = some id) (ha : renL (idx [id]) (args.map fix) = args') (hh : focus [id] hp = hq) (hl : fcOk [id] hp (args.map fix) = true)
  (h : hold P nb R (ex P n (some (d, all, rest)) k1 k2 (put tm dst (ren (nth [id]) r)) (wb (nth [id]) [id] hp1 hp))) : hold P nb R (.call f args d all rest dst k1 k2 tm hp) := by
 obtain ⟨x, l, e1, e2⟩ : ∃ x l, args.map fix = x :: l ∧ refOf x = some id := by
  cases e : args.map fix with
  | nil => rw [e] at hx; cases hx
  | cons x l => rw [e] at hx; exact ⟨x, l, rfl, hx⟩
 exact .inr (.inr (.inr (.inl ⟨hm, id, r, hp1, x, l, e1, e2, hl, by rw [ha, hh]; exact hA, ex_sound n (some (d, all, rest)) k1 k2 _ _ h⟩)))
theorem callHM_ {f : FuncId} {args : List AV} {all rest : List Oper} {dst : Option Nat} (n id : Nat) {args' : List AV} {hq : Heap} {r : AV} {hp1 : Heap} (hm : barD all dst = true ∨ memD P all dst = true) (hA : ACall P f args' hq r hp1) (hx : refHd (args.map fix) = some id) (ha : renL (idx [id]) (args.map fix) = args') (hh : focus [id] hp = hq) (hl : fcOk [id] hp (args.map fix) = true)
  (h : hold P nb R (ex P n (some (true, all, rest)) k1 k2 (put tm dst (ren (nth [id]) r)) (wb (nth [id]) [id] hp1 hp))) : hold P nb R (.call f args true all rest dst k1 k2 tm hp) := by
 rcases hm with hm | hm
 ·exact callHD_ n [id] hm hA ha hh hl h
 ·exact callM_ n id hm hA hx ha hh hl h
end
end Go.Av

