import Derived.Test.YtiboeelbmgnbgaaGreatDoorL5
set_option linter.unusedSectionVars false
set_option linter.unusedVariables false
set_option linter.unusedSimpArgs false
set_option linter.unnecessarySimpa false
set_option maxRecDepth 100000
namespace Go.Cq
open Go Go.Av
def zAl (m : rMt) : tMt := tMt.mk m.Sel m.Args m.Temps (m.Nodes.map zAd) m.Body
structure Fits (m : rMt) : Prop where
 a : m.Args.length * 16 ≤ 140737488351232
 t : m.Temps.length * 16 ≤ 140737488351232
 b : m.Body.length * 8 ≤ 140737488351232
 n : m.Nodes.length * 80 ≤ 140737488351232
 l : ∀ z, z ∈ m.Nodes → z.L.length * 16 ≤ 140737488351232
 k : ∀ z, z ∈ m.Nodes → z.Kids.length * 8 ≤ 140737488351232
theorem zHI {α : Type} {b : Nat} {m : List α} (hb : 0 < b) (h : m.length * b ≤ 140737488351232) : app b ([] : List α) m = some m := by
 have : m.length * 1 ≤ m.length * b := Nat.mul_le_mul_left _ hb
 exact zDl (by simp; omega) (by simpa using (by omega : m.length * b ≤ 140737488355328))
theorem give_l1 (m : rMt) (hf : Fits m) : ∀ (r : List rNd) (j q : Nat) (acc : List tNd), m.Nodes.drop j = r → j ≤ m.Nodes.length → r.length < q → acc.length = j → zAT m q (j : Int) acc = some (acc ++ r.map zAd) := by
  intro r
  induction r with
  | nil =>
    intro j q acc h hj hq ha
    obtain ⟨q, rfl⟩ : ∃ q', q = q' + 1 := ⟨q - 1, by simp at hq; omega⟩
    have : j = m.Nodes.length := by have : m.Nodes.length ≤ j := by simpa using h
                                    omega
    subst this
    simp only [zAT]
    rw [zAD, ifF]; simp
  | cons n r ih =>
    intro j q acc h hj hq ha
    obtain ⟨e1, e2, e3⟩ := zAE h
    obtain ⟨q, rfl⟩ : ∃ q', q = q' + 1 := ⟨q - 1, by simp at hq; omega⟩
    have hq' : r.length < q := by simp at hq; omega
    have hn := List.mem_of_getElem? e1
    have h80 := hf.n
    simp only [zAT]
    rw [zAB e3, if_pos rfl, zAf e1, zAa, zHI (by decide) (hf.l n hn), zAa, zHI (by decide) (hf.k n hn), zAa, zDl (by simp; omega) (by simp; omega), zAa, cks (by omega), zAa]
    have := ih (j+1) q (acc ++ [tNd.mk n.K n.S n.N n.L n.Kids]) e2 (by omega) hq' (by simp; omega)
    rw [this]
    simp [zAd]
theorem give_eq (m : rMt) (hf : Fits m) : zCx m = some (zAl m) := by
 unfold zCx
 have h80 := hf.n
 rw [zHI (by decide) hf.a, zAa, zHI (by decide) hf.t, zAa, zHI (by decide) hf.b, zAa]
 have := give_l1 m hf m.Nodes 0 fuel [] rfl (Nat.zero_le _) (by unfold fuel; omega) rfl
 rw [show ((0 : Nat) : Int) = 0 from rfl] at this
 rw [this, zAa]
 rfl
end Go.Cq

set_option maxRecDepth 100000
namespace Go.Cq
open Go Go.Av
theorem zH6 (s : List tMt) (f : tMt → Option Bool) (p : tMt → Bool) (hf : ∀ x, x ∈ s → f x = some (p x)) (hs : s.length ≤ bigN) : zEe s f = some (s.any p) := by
 unfold zEe zGl
 rw [zBL]
 have h := zBK (F := fun q (_ : Unit) i => zCd s f (fun _ => some (-1)) q i) (g := fun j x _ k => if p x then some (j : Int) else k ()) (K := fun _ => some (-1)) (l := s)
  (fun q st j x hx hj => by
   simp only [zCd]
   rw [zAB hj, if_pos rfl, zAf hx, zAa, hf x (List.mem_of_getElem? hx), zAa, ckj hj hs, zAa]) (fun q st => by
   simp only [zCd]
   rw [zAD, ifF]) () (zDZ hs)
 simp only at h
 rw [h]
 have : ∀ (r : List tMt) (j : Nat), (zFT (fun j x _ k => if p x then some (j : Int) else k ()) (fun _ => some (-1)) j r ()).bind (fun v1 => some (decide ((0 : Int) ≤ v1))) = some (r.any p) := by
  intro r
  induction r with
  | nil => intro j; rfl
  | cons x r ih =>
   intro j
   rw [List.any_cons]
   show Option.bind (if p x then some (j : Int) else _) _ = _
   cases p x with
   | true => rw [if_pos rfl, zAa, Bool.true_or]; simp
   | false => rw [ifF, Bool.false_or]; exact ih (j+1)
 exact this s 0
theorem zH7 (s : List tCl) (f : tCl → Option Bool) (p : tCl → Bool) (hf : ∀ x, x ∈ s → f x = some (p x)) (hs : s.length ≤ bigN) : zEY s f = some (s.any p) := by
 unfold zEY zGh
 rw [zBL]
 have h := zBK (F := fun q (_ : Unit) i => zCp s f (fun _ => some (-1)) q i) (g := fun j x _ k => if p x then some (j : Int) else k ()) (K := fun _ => some (-1)) (l := s)
  (fun q st j x hx hj => by
   simp only [zCp]
   rw [zAB hj, if_pos rfl, zAf hx, zAa, hf x (List.mem_of_getElem? hx), zAa, ckj hj hs, zAa]) (fun q st => by
   simp only [zCp]
   rw [zAD, ifF]) () (zDZ hs)
 simp only at h
 rw [h]
 have : ∀ (r : List tCl) (j : Nat), (zFT (fun j x _ k => if p x then some (j : Int) else k ()) (fun _ => some (-1)) j r ()).bind (fun v1 => some (decide ((0 : Int) ≤ v1))) = some (r.any p) := by
  intro r
  induction r with
  | nil => intro j; rfl
  | cons x r ih =>
   intro j
   rw [List.any_cons]
   show Option.bind (if p x then some (j : Int) else _) _ = _
   cases p x with
   | true => rw [if_pos rfl, zAa, Bool.true_or]; simp
   | false => rw [ifF, Bool.false_or]; exact ih (j+1)
 exact this s 0
theorem zMn (c : tCl) (p : tMt → Bool) (hp : ∀ m, m ∈ c.Methods → zCC m = some (if p m = true then none else some 1)) (hv : c.Vars.length ≤ bigN) (hm : c.Methods.length ≤ bigN) :
    zIX c = some (zB9 65 90 c.Name && (zB9 65 90 c.Super && (decide (c.Vars.length ≤ 16) && (decide (c.Methods.length ≤ 256) && (c.Vars.all zDo && c.Methods.all p))))) := by
  unfold zIX
  have h1 := zGX c.Name
  have h2 := zGX c.Super
  unfold zOa at h1 h2
  have hle : ∀ (a b : Nat), decide ((a : Int) < (b : Int)) = !decide (b ≤ a) := fun a b => by
    by_cases h : b ≤ a
    · rw [decide_eq_true h, decide_eq_false (by omega)]; rfl
    rw [decide_eq_false h, decide_eq_true (by omega)]; rfl
  have h3 : decide ((16 : Int) < (c.Vars.length : Int)) = !decide (c.Vars.length ≤ 16) := hle 16 _
  have h4 : decide ((256 : Int) < (c.Methods.length : Int)) = !decide (c.Methods.length ≤ 256) := hle 256 _
  have h5 : zA1 c.Vars zE9 = some (!c.Vars.all zDo) := by
    rw [zFR c.Vars zE9 (fun x => !zDo x) (fun x _ => by unfold zE9; rw [zGT, zAa]) hv, List.not_all_eq_any_not]
  have h6 : zEe c.Methods zE5 = some (!c.Methods.all p) := by
    rw [zH6 c.Methods zE5 (fun x => !p x) (fun x hx => by
      unfold zE5; rw [hp x hx, zAa]; cases p x <;> rfl) hm, List.not_all_eq_any_not]
  rw [h1, h2, h3, h4, h5, h6]
  simp only [zAa]
  cases zB9 65 90 c.Name <;> cases zB9 65 90 c.Super <;> cases decide (c.Vars.length ≤ 16) <;> cases decide (c.Methods.length ≤ 256) <;> cases c.Vars.all zDo <;> cases c.Methods.all p <;> rfl
end Go.Cq

set_option maxRecDepth 100000
namespace Go.Cq
open Go Go.Av
theorem zIh {α ρ : Type} (p : α → Bool) (no : Option ρ) (K : Unit → Option ρ) : ∀ (r : List α) (j : Nat), zFT (fun j x _ k => if (!p x) then no else k ()) K j r () = if r.all p = true then K () else no
 | [], j => rfl
 | x :: r, j => by
  rw [List.all_cons]
  show (if (!p x) then no else _) = _
  cases p x with
  | false => rfl
  | true => rw [Bool.not_true, ifF, Bool.true_and]; exact zIh p no K r (j+1)
theorem zPm (c : rCl) (K : Unit → Option Bool) (hs : c.Vars.length ≤ bigN) : zBa c K fuel 0 = if c.Vars.all zDo = true then K () else some false := by
 have h := zBK (F := fun q (_ : Unit) i => zBa c K q i) (g := fun j x _ k => if (!zDo x) then some false else k ()) (K := K) (l := c.Vars)
  (fun q st j x hx hj => by
   simp only [zBa]
   rw [zAB hj, if_pos rfl, zAf hx, zAa, zKT, zAa, ckj hj hs, zAa]) (fun q st => by
   simp only [zBa]
   rw [zAD, ifF]) () (zDZ hs)
 refine h.trans ?_
 exact zIh zDo (some false) K c.Vars 0
theorem zQe (c : rCl) (p : rMt → Bool) (hp : ∀ m, m ∈ c.Methods → zDP m = some (p m)) (K : Unit → Option Bool) (hs : c.Methods.length ≤ bigN) : zBc c K fuel 0 = if c.Methods.all p = true then K () else some false := by
 have h := zBK (F := fun q (_ : Unit) i => zBc c K q i) (g := fun j x _ k => if (!p x) then some false else k ()) (K := K) (l := c.Methods)
  (fun q st j x hx hj => by
   simp only [zBc]
   rw [zAB hj, if_pos rfl, zAf hx, zAa, hp x (List.mem_of_getElem? hx), zAa, ckj hj hs, zAa]) (fun q st => by
   simp only [zBc]
   rw [zAD, ifF]) () (zDZ hs)
 refine h.trans ?_
 exact zIh p (some false) K c.Methods 0
def zGz (p : rMt → Bool) (c : rCl) : Bool := zB9 65 90 c.Name && (zB9 65 90 c.Super && (decide (c.Vars.length ≤ 16) && (decide (c.Methods.length ≤ 256) && (c.Vars.all zDo && c.Methods.all p))))
theorem zLP (l : List rCl) (p : rMt → Bool) (hp : ∀ c, c ∈ l → ∀ m, m ∈ c.Methods → zDP m = some (p m)) (hl : l.length ≤ bigN) (hv : ∀ c, c ∈ l → c.Vars.length ≤ bigN) (hm : ∀ c, c ∈ l → c.Methods.length ≤ bigN) :
    zDi l = some (decide (l.length ≤ 64) && l.all (zGz p)) := by
  unfold zDi
  rcases Nat.lt_or_ge 64 l.length with h64 | h64
  · rw [decide_eq_true (by omega), if_pos rfl, decide_eq_false (by omega)]; rfl
  rw [decide_eq_false (by omega), ifF, zBL, decide_eq_true h64, Bool.true_and]
  have hle : ∀ (a b : Nat), decide ((a : Int) < (b : Int)) = !decide (b ≤ a) := fun a b => by
    by_cases h : b ≤ a
    · rw [decide_eq_true h, decide_eq_false (by omega)]; rfl
    rw [decide_eq_false h, decide_eq_true (by omega)]; rfl
  have h := zBK (F := fun q (_ : Unit) i => zBx l (fun _ => some true) q i) (g := fun j x _ k => if (!zGz p x) then some false else k ()) (K := fun _ => some true) (l := l)
    (fun q st j x hx hj => by
      have hx' := List.mem_of_getElem? hx
      have h1 : zB4 x.Name 65 90 = some (zB9 65 90 x.Name) := zG8 x.Name 65 90
      have h2 : zB4 x.Super 65 90 = some (zB9 65 90 x.Super) := zG8 x.Super 65 90
      have h3 : decide ((16 : Int) < (x.Vars.length : Int)) = !decide (x.Vars.length ≤ 16) := hle 16 _
      have h4 : decide ((256 : Int) < (x.Methods.length : Int)) = !decide (x.Methods.length ≤ 256) := hle 256 _
      simp only [zBx]
      rw [zAB hj, if_pos rfl, zAf hx, zAa, h1, h2, h3, h4, zAa, zAa, zBL, zBL, zPm x _ (hv x hx'), zQe x p (hp x hx') _ (hm x hx'), ckj hj hl, zAa]
      unfold zGz
      cases zB9 65 90 x.Name <;> cases zB9 65 90 x.Super <;> cases decide (x.Vars.length ≤ 16) <;> cases decide (x.Methods.length ≤ 256) <;> cases x.Vars.all zDo <;> cases x.Methods.all p <;> simp) (fun q st => by
      simp only [zBx]
      rw [zAD, ifF]) () (zDZ hl)
  refine h.trans ?_
  have := zIh (zGz p) (some false) (fun _ => some true) l 0
  rw [this]
  cases l.all (zGz p) <;> rfl
end Go.Cq

set_option maxRecDepth 100000
namespace Go.Cq
open Go Go.Av
def zGc (p : tMt → Bool) (c : tCl) : Bool := zB9 65 90 c.Name && (zB9 65 90 c.Super && (decide (c.Vars.length ≤ 16) && (decide (c.Methods.length ≤ 256) && (c.Vars.all zDo && c.Methods.all p))))
theorem zMU (l : List tCl) (p : tMt → Bool) (hp : ∀ c, c ∈ l → ∀ m, m ∈ c.Methods → zCC m = some (if p m = true then none else some 1)) (hl : l.length ≤ bigN) (hv : ∀ c, c ∈ l → c.Vars.length ≤ bigN) (hm : ∀ c, c ∈ l → c.Methods.length ≤ bigN) :
    zCX l = some (if (decide (l.length ≤ 64) && l.all (zGc p)) = true then none else some 1) := by
  unfold zCX
  rcases Nat.lt_or_ge 64 l.length with h64 | h64
  · rw [decide_eq_true (by omega), if_pos rfl, zAa, if_pos rfl, decide_eq_false (by omega), Bool.false_and, ifF]
  rw [decide_eq_false (by omega), ifF, decide_eq_true h64, Bool.true_and]
  rw [zH7 l zCM (fun c => !zGc p c) (fun c hc => by
    unfold zCM
    rw [zMn c p (hp c hc) (hv c hc) (hm c hc), zAa]
    rfl) hl, zAa, zAa]
  have : (l.any fun c => !zGc p c) = !l.all (zGc p) := by rw [List.not_all_eq_any_not]
  rw [this]
  cases l.all (zGc p) <;> rfl
end Go.Cq

set_option maxRecDepth 100000
namespace Go.Cq
open Go Go.Av
theorem zMo (k : Int) (n : tNd) (i : Nat) (h13 : n.K ≤ 13) (hk : n.Kids.length ≤ bigN) : zBm k n.K (i : Int) (n.Kids.length : Int) = some (zBi k (zBe n i)) := by
  unfold zBm zBi zBe
  have d0 : decide ((i : Int) = 0) = decide (i = 0) := by
    by_cases h : i = 0
    · rw [decide_eq_true h, decide_eq_true (by omega)]
    rw [decide_eq_false h, decide_eq_false (by omega)]
  have d1 : decide ((0 : Int) < (i : Int)) = decide (0 < i) := by
    by_cases h : 0 < i
    · rw [decide_eq_true h, decide_eq_true (by omega)]
    rw [decide_eq_false h, decide_eq_false (by omega)]
  have d2 : decide ((i : Int) = (n.Kids.length : Int) - 1) = decide (i + 1 = n.Kids.length) := by
    by_cases h : i + 1 = n.Kids.length
    · rw [decide_eq_true h, decide_eq_true (by omega)]
    rw [decide_eq_false h, decide_eq_false (by omega)]
  rw [zJp (by omega) (by unfold bigN at hk; omega), zAa, d0, d1, d2]
  by_cases h1 : k = 1
  · simp only [h1, decide_true, if_true]
    by_cases a : n.K = 9
    · simp [a]
    by_cases b : n.K = 10
    · simp [b]
    by_cases c : n.K = 12 <;> simp [a, b, c]
  by_cases h3 : k = 13
  · simp only [h1, h3, decide_true, if_true, decide_false, if_false]
    by_cases c : n.K = 12
    · simp [c]
    have e : decide ((12 : Int) ≤ n.K) = true → n.K = 13 := fun h => by have := of_decide_eq_true h; omega
    by_cases f : (12 : Int) ≤ n.K
    · have : n.K = 13 := by omega
      simp [this]
    by_cases a : n.K = 9
    · simp [a]
    by_cases b : n.K = 10 <;> simp [a, b, c, f]
  by_cases h2 : k = 11
  · simp only [h1, h2, h3, decide_true, if_true, decide_false, if_false]
    by_cases a : n.K = 9
    · simp [a]
    by_cases b : n.K = 10
    · simp [b]
    by_cases c : n.K = 12 <;> simp [a, b, c]
  simp only [h1, h2, h3, decide_true, if_true, decide_false, if_false]
  by_cases a : n.K = 9
  · simp [a]
  by_cases b : n.K = 10
  · simp [b]
  by_cases c : n.K = 12 <;> simp [a, b, c]
theorem zKB (k : Int) (i len : Nat) (hl : len ≤ bigN) : zBm k 99 (i : Int) (len : Int) = some (zBi k (zGr len i)) := by
 unfold zBm zBi zGr
 have d2 : decide ((i : Int) = (len : Int) - 1) = decide (i + 1 = len) := by
  by_cases h : i + 1 = len
  ·rw [decide_eq_true h, decide_eq_true (by omega)]
  rw [decide_eq_false h, decide_eq_false (by omega)]
 rw [zJp (by omega) (by unfold bigN at hl; omega), zAa, d2]
 by_cases h1 : k = 1
 ·simp [h1]
 by_cases h3 : k = 13
 ·simp [h3]
 by_cases h2 : k = 11
 ·simp [h2]
 simp [h1, h2, h3]
end Go.Cq

