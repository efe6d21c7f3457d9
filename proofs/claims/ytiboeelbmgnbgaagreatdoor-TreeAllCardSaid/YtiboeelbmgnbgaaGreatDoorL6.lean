import Derived.Test.YtiboeelbmgnbgaaGreatDoorLO
set_option linter.unusedSectionVars false
set_option linter.unusedVariables false
set_option linter.unusedSimpArgs false
set_option linter.unnecessarySimpa false
set_option maxRecDepth 100000
set_option linter.unusedVariables false
set_option linter.unusedSimpArgs false
namespace Go.Cq
open Go Go.Av
/-! ### The program's method -/
def giveM (m : ref14_Method) : tree_Method := tree_Method.mk m.Sel m.Args m.Temps (m.Nodes.map giveNode) m.Body
/-- A method that fits. -/
structure Fits (m : ref14_Method) : Prop where
  a : m.Args.length * 16 ≤ 140737488351232
  t : m.Temps.length * 16 ≤ 140737488351232
  b : m.Body.length * 8 ≤ 140737488351232
  n : m.Nodes.length * 80 ≤ 140737488351232
  l : ∀ z, z ∈ m.Nodes → z.L.length * 16 ≤ 140737488351232
  k : ∀ z, z ∈ m.Nodes → z.Kids.length * 8 ≤ 140737488351232
theorem app_nil {α : Type} {b : Nat} {m : List α} (hb : 0 < b) (h : m.length * b ≤ 140737488351232) : app b ([] : List α) m = some m := by
  have : m.length * 1 ≤ m.length * b := Nat.mul_le_mul_left _ hb
  exact app_of (by simp; omega) (by simpa using (by omega : m.length * b ≤ 140737488355328))
theorem give_l1 (m : ref14_Method) (hf : Fits m) : ∀ (r : List ref14_Node) (j q : Nat) (acc : List tree_Node), m.Nodes.drop j = r → j ≤ m.Nodes.length → r.length < q → acc.length = j → law14_giveMethod_l1 m q (j : Int) acc = some (acc ++ r.map giveNode) := by
  intro r
  induction r with
  | nil =>
    intro j q acc h hj hq ha
    obtain ⟨q, rfl⟩ : ∃ q', q = q' + 1 := ⟨q - 1, by simp at hq; omega⟩
    have : j = m.Nodes.length := by have : m.Nodes.length ≤ j := by simpa using h
                                    omega
    subst this
    simp only [law14_giveMethod_l1]
    rw [ge_len, ifF]; simp
  | cons n r ih =>
    intro j q acc h hj hq ha
    obtain ⟨e1, e2, e3⟩ := getDrop h
    obtain ⟨q, rfl⟩ : ∃ q', q = q' + 1 := ⟨q - 1, by simp at hq; omega⟩
    have hq' : r.length < q := by simp at hq; omega
    have hn := List.mem_of_getElem? e1
    have h80 := hf.n
    simp only [law14_giveMethod_l1]
    rw [lt_len e3, if_pos rfl, lAt_nat e1, bindS, app_nil (by decide) (hf.l n hn), bindS, app_nil (by decide) (hf.k n hn), bindS, app_of (by simp; omega) (by simp; omega), bindS, cks (by omega), bindS]
    have := ih (j+1) q (acc ++ [tree_Node.mk n.K n.S n.N n.L n.Kids]) e2 (by omega) hq' (by simp; omega)
    rw [this]
    simp [giveNode]
theorem give_eq (m : ref14_Method) (hf : Fits m) : law14_giveMethod m = some (giveM m) := by
  unfold law14_giveMethod
  have h80 := hf.n
  rw [app_nil (by decide) hf.a, bindS, app_nil (by decide) hf.t, bindS, app_nil (by decide) hf.b, bindS]
  have := give_l1 m hf m.Nodes 0 fuel [] rfl (Nat.zero_le _) (by unfold fuel; omega) rfl
  rw [show ((0 : Nat) : Int) = 0 from rfl] at this
  rw [this, bindS]
  rfl
end Go.Cq

set_option maxRecDepth 100000
set_option linter.unusedVariables false
set_option linter.unusedSimpArgs false
namespace Go.Cq
open Go Go.Av
theorem containsFuncM_eq (s : List tree_Method) (f : tree_Method → Option Bool) (p : tree_Method → Bool) (hf : ∀ x, x ∈ s → f x = some (p x)) (hs : s.length ≤ bigN) : slices_ContainsFunc_Ltree_Method_tree_Method s f = some (s.any p) := by
  unfold slices_ContainsFunc_Ltree_Method_tree_Method slices_IndexFunc_Ltree_Method_tree_Method
  rw [letK_e]
  have h := loopI_run (F := fun q (_ : Unit) i => slices_IndexFunc_Ltree_Method_tree_Method_l1 s f (fun _ => some (-1)) q i) (g := fun j x _ k => if p x then some (j : Int) else k ()) (K := fun _ => some (-1)) (l := s)
    (fun q st j x hx hj => by
      simp only [slices_IndexFunc_Ltree_Method_tree_Method_l1]
      rw [lt_len hj, if_pos rfl, lAt_nat hx, bindS, hf x (List.mem_of_getElem? hx), bindS, ckj hj hs, bindS]) (fun q st => by
      simp only [slices_IndexFunc_Ltree_Method_tree_Method_l1]
      rw [ge_len, ifF]) () (lt_fuel hs)
  simp only at h
  rw [h]
  have : ∀ (r : List tree_Method) (j : Nat), (loopI (fun j x _ k => if p x then some (j : Int) else k ()) (fun _ => some (-1)) j r ()).bind (fun v1 => some (decide ((0 : Int) ≤ v1))) = some (r.any p) := by
    intro r
    induction r with
    | nil => intro j; rfl
    | cons x r ih =>
      intro j
      rw [List.any_cons]
      show Option.bind (if p x then some (j : Int) else _) _ = _
      cases p x with
      | true => rw [if_pos rfl, bindS, Bool.true_or]; simp
      | false => rw [ifF, Bool.false_or]; exact ih (j+1)
  exact this s 0
theorem containsFuncC_eq (s : List tree_Class) (f : tree_Class → Option Bool) (p : tree_Class → Bool) (hf : ∀ x, x ∈ s → f x = some (p x)) (hs : s.length ≤ bigN) : slices_ContainsFunc_Ltree_Class_tree_Class s f = some (s.any p) := by
  unfold slices_ContainsFunc_Ltree_Class_tree_Class slices_IndexFunc_Ltree_Class_tree_Class
  rw [letK_e]
  have h := loopI_run (F := fun q (_ : Unit) i => slices_IndexFunc_Ltree_Class_tree_Class_l1 s f (fun _ => some (-1)) q i) (g := fun j x _ k => if p x then some (j : Int) else k ()) (K := fun _ => some (-1)) (l := s)
    (fun q st j x hx hj => by
      simp only [slices_IndexFunc_Ltree_Class_tree_Class_l1]
      rw [lt_len hj, if_pos rfl, lAt_nat hx, bindS, hf x (List.mem_of_getElem? hx), bindS, ckj hj hs, bindS]) (fun q st => by
      simp only [slices_IndexFunc_Ltree_Class_tree_Class_l1]
      rw [ge_len, ifF]) () (lt_fuel hs)
  simp only at h
  rw [h]
  have : ∀ (r : List tree_Class) (j : Nat), (loopI (fun j x _ k => if p x then some (j : Int) else k ()) (fun _ => some (-1)) j r ()).bind (fun v1 => some (decide ((0 : Int) ≤ v1))) = some (r.any p) := by
    intro r
    induction r with
    | nil => intro j; rfl
    | cons x r ih =>
      intro j
      rw [List.any_cons]
      show Option.bind (if p x then some (j : Int) else _) _ = _
      cases p x with
      | true => rw [if_pos rfl, bindS, Bool.true_or]; simp
      | false => rw [ifF, Bool.false_or]; exact ih (j+1)
  exact this s 0
/-- tree.Class.may, where each method's Check is known. -/
theorem classMay_eq (c : tree_Class) (p : tree_Method → Bool) (hp : ∀ m, m ∈ c.Methods → tree_Check m = some (if p m = true then none else some 1)) (hv : c.Vars.length ≤ bigN) (hm : c.Methods.length ≤ bigN) :
    tree_Class_may c = some (nameOk 65 90 c.Name && (nameOk 65 90 c.Super && (decide (c.Vars.length ≤ 16) && (decide (c.Methods.length ≤ 256) && (c.Vars.all varOk && c.Methods.all p))))) := by
  unfold tree_Class_may
  have h1 := named_great c.Name
  have h2 := named_great c.Super
  unfold greatC at h1 h2
  have hle : ∀ (a b : Nat), decide ((a : Int) < (b : Int)) = !decide (b ≤ a) := fun a b => by
    by_cases h : b ≤ a
    · rw [decide_eq_true h, decide_eq_false (by omega)]; rfl
    · rw [decide_eq_false h, decide_eq_true (by omega)]; rfl
  have h3 : decide ((16 : Int) < (c.Vars.length : Int)) = !decide (c.Vars.length ≤ 16) := hle 16 _
  have h4 : decide ((256 : Int) < (c.Methods.length : Int)) = !decide (c.Methods.length ≤ 256) := hle 256 _
  have h5 : slices_ContainsFunc_Lstring_string c.Vars tree_Class_may_1 = some (!c.Vars.all varOk) := by
    rw [containsFuncS_eq c.Vars tree_Class_may_1 (fun x => !varOk x) (fun x _ => by unfold tree_Class_may_1; rw [variable_eq, bindS]) hv, List.not_all_eq_any_not]
  have h6 : slices_ContainsFunc_Ltree_Method_tree_Method c.Methods tree_Class_may_2 = some (!c.Methods.all p) := by
    rw [containsFuncM_eq c.Methods tree_Class_may_2 (fun x => !p x) (fun x hx => by
      unfold tree_Class_may_2; rw [hp x hx, bindS]; cases p x <;> rfl) hm, List.not_all_eq_any_not]
  rw [h1, h2, h3, h4, h5, h6]
  simp only [bindS]
  cases nameOk 65 90 c.Name <;> cases nameOk 65 90 c.Super <;> cases decide (c.Vars.length ≤ 16) <;> cases decide (c.Methods.length ≤ 256) <;> cases c.Vars.all varOk <;> cases c.Methods.all p <;> rfl
end Go.Cq

set_option maxRecDepth 100000
set_option linter.unusedVariables false
set_option linter.unusedSimpArgs false
namespace Go.Cq
open Go Go.Av
/-! ### ref14.MayAll, where each method's May is known -/
theorem loop_all {α ρ : Type} (p : α → Bool) (no : Option ρ) (K : Unit → Option ρ) : ∀ (r : List α) (j : Nat), loopI (fun j x _ k => if (!p x) then no else k ()) K j r () = if r.all p = true then K () else no
  | [], j => rfl
  | x :: r, j => by
    rw [List.all_cons]
    show (if (!p x) then no else _) = _
    cases p x with
    | false => rfl
    | true => rw [Bool.not_true, ifF, Bool.true_and]; exact loop_all p no K r (j+1)
theorem mayAll_l2 (c : ref14_Class) (K : Unit → Option Bool) (hs : c.Vars.length ≤ bigN) : ref14_MayAll_l2 c K fuel 0 = if c.Vars.all varOk = true then K () else some false := by
  have h := loopI_run (F := fun q (_ : Unit) i => ref14_MayAll_l2 c K q i) (g := fun j x _ k => if (!varOk x) then some false else k ()) (K := K) (l := c.Vars)
    (fun q st j x hx hj => by
      simp only [ref14_MayAll_l2]
      rw [lt_len hj, if_pos rfl, lAt_nat hx, bindS, var10_eq, bindS, ckj hj hs, bindS]) (fun q st => by
      simp only [ref14_MayAll_l2]
      rw [ge_len, ifF]) () (lt_fuel hs)
  refine h.trans ?_
  exact loop_all varOk (some false) K c.Vars 0
theorem mayAll_l3 (c : ref14_Class) (p : ref14_Method → Bool) (hp : ∀ m, m ∈ c.Methods → ref14_May m = some (p m)) (K : Unit → Option Bool) (hs : c.Methods.length ≤ bigN) : ref14_MayAll_l3 c K fuel 0 = if c.Methods.all p = true then K () else some false := by
  have h := loopI_run (F := fun q (_ : Unit) i => ref14_MayAll_l3 c K q i) (g := fun j x _ k => if (!p x) then some false else k ()) (K := K) (l := c.Methods)
    (fun q st j x hx hj => by
      simp only [ref14_MayAll_l3]
      rw [lt_len hj, if_pos rfl, lAt_nat hx, bindS, hp x (List.mem_of_getElem? hx), bindS, ckj hj hs, bindS]) (fun q st => by
      simp only [ref14_MayAll_l3]
      rw [ge_len, ifF]) () (lt_fuel hs)
  refine h.trans ?_
  exact loop_all p (some false) K c.Methods 0
def classB (p : ref14_Method → Bool) (c : ref14_Class) : Bool := nameOk 65 90 c.Name && (nameOk 65 90 c.Super && (decide (c.Vars.length ≤ 16) && (decide (c.Methods.length ≤ 256) && (c.Vars.all varOk && c.Methods.all p))))
theorem mayAll_eq (l : List ref14_Class) (p : ref14_Method → Bool) (hp : ∀ c, c ∈ l → ∀ m, m ∈ c.Methods → ref14_May m = some (p m)) (hl : l.length ≤ bigN) (hv : ∀ c, c ∈ l → c.Vars.length ≤ bigN) (hm : ∀ c, c ∈ l → c.Methods.length ≤ bigN) :
    ref14_MayAll l = some (decide (l.length ≤ 64) && l.all (classB p)) := by
  unfold ref14_MayAll
  rcases Nat.lt_or_ge 64 l.length with h64 | h64
  · rw [decide_eq_true (by omega), if_pos rfl, decide_eq_false (by omega)]; rfl
  rw [decide_eq_false (by omega), ifF, letK_e, decide_eq_true h64, Bool.true_and]
  have hle : ∀ (a b : Nat), decide ((a : Int) < (b : Int)) = !decide (b ≤ a) := fun a b => by
    by_cases h : b ≤ a
    · rw [decide_eq_true h, decide_eq_false (by omega)]; rfl
    · rw [decide_eq_false h, decide_eq_true (by omega)]; rfl
  have h := loopI_run (F := fun q (_ : Unit) i => ref14_MayAll_l1 l (fun _ => some true) q i) (g := fun j x _ k => if (!classB p x) then some false else k ()) (K := fun _ => some true) (l := l)
    (fun q st j x hx hj => by
      have hx' := List.mem_of_getElem? hx
      have h1 : ref10_Name x.Name 65 90 = some (nameOk 65 90 x.Name) := name10_eq x.Name 65 90
      have h2 : ref10_Name x.Super 65 90 = some (nameOk 65 90 x.Super) := name10_eq x.Super 65 90
      have h3 : decide ((16 : Int) < (x.Vars.length : Int)) = !decide (x.Vars.length ≤ 16) := hle 16 _
      have h4 : decide ((256 : Int) < (x.Methods.length : Int)) = !decide (x.Methods.length ≤ 256) := hle 256 _
      simp only [ref14_MayAll_l1]
      rw [lt_len hj, if_pos rfl, lAt_nat hx, bindS, h1, h2, h3, h4, bindS, bindS, letK_e, letK_e, mayAll_l2 x _ (hv x hx'), mayAll_l3 x p (hp x hx') _ (hm x hx'), ckj hj hl, bindS]
      unfold classB
      cases nameOk 65 90 x.Name <;> cases nameOk 65 90 x.Super <;> cases decide (x.Vars.length ≤ 16) <;> cases decide (x.Methods.length ≤ 256) <;> cases x.Vars.all varOk <;> cases x.Methods.all p <;> simp) (fun q st => by
      simp only [ref14_MayAll_l1]
      rw [ge_len, ifF]) () (lt_fuel hl)
  refine h.trans ?_
  have := loop_all (classB p) (some false) (fun _ => some true) l 0
  rw [this]
  cases l.all (classB p) <;> rfl
end Go.Cq

set_option maxRecDepth 100000
set_option linter.unusedVariables false
set_option linter.unusedSimpArgs false
namespace Go.Cq
open Go Go.Av
def tclassB (p : tree_Method → Bool) (c : tree_Class) : Bool := nameOk 65 90 c.Name && (nameOk 65 90 c.Super && (decide (c.Vars.length ≤ 16) && (decide (c.Methods.length ≤ 256) && (c.Vars.all varOk && c.Methods.all p))))
/-- tree.CheckAll, where each method's Check is known. -/
theorem checkAll_eq (l : List tree_Class) (p : tree_Method → Bool) (hp : ∀ c, c ∈ l → ∀ m, m ∈ c.Methods → tree_Check m = some (if p m = true then none else some 1)) (hl : l.length ≤ bigN) (hv : ∀ c, c ∈ l → c.Vars.length ≤ bigN) (hm : ∀ c, c ∈ l → c.Methods.length ≤ bigN) :
    tree_CheckAll l = some (if (decide (l.length ≤ 64) && l.all (tclassB p)) = true then none else some 1) := by
  unfold tree_CheckAll
  rcases Nat.lt_or_ge 64 l.length with h64 | h64
  · rw [decide_eq_true (by omega), if_pos rfl, bindS, if_pos rfl, decide_eq_false (by omega), Bool.false_and, ifF]
  rw [decide_eq_false (by omega), ifF, decide_eq_true h64, Bool.true_and]
  rw [containsFuncC_eq l tree_CheckAll_1 (fun c => !tclassB p c) (fun c hc => by
    unfold tree_CheckAll_1
    rw [classMay_eq c p (hp c hc) (hv c hc) (hm c hc), bindS]
    rfl) hl, bindS, bindS]
  have : (l.any fun c => !tclassB p c) = !l.all (tclassB p) := by rw [List.not_all_eq_any_not]
  rw [this]
  cases l.all (tclassB p) <;> rfl
end Go.Cq

set_option maxRecDepth 100000
set_option linter.unusedVariables false
set_option linter.unusedSimpArgs false
namespace Go.Cq
open Go Go.Av
/-! ### ref14.stands -/
theorem stands14_eq (k : Int) (n : tree_Node) (i : Nat) (h13 : n.K ≤ 13) (hk : n.Kids.length ≤ bigN) : ref14_stands k n.K (i : Int) (n.Kids.length : Int) = some (standsB k (placesB n i)) := by
  unfold ref14_stands standsB placesB
  have d0 : decide ((i : Int) = 0) = decide (i = 0) := by
    by_cases h : i = 0
    · rw [decide_eq_true h, decide_eq_true (by omega)]
    · rw [decide_eq_false h, decide_eq_false (by omega)]
  have d1 : decide ((0 : Int) < (i : Int)) = decide (0 < i) := by
    by_cases h : 0 < i
    · rw [decide_eq_true h, decide_eq_true (by omega)]
    · rw [decide_eq_false h, decide_eq_false (by omega)]
  have d2 : decide ((i : Int) = (n.Kids.length : Int) - 1) = decide (i + 1 = n.Kids.length) := by
    by_cases h : i + 1 = n.Kids.length
    · rw [decide_eq_true h, decide_eq_true (by omega)]
    · rw [decide_eq_false h, decide_eq_false (by omega)]
  rw [ck_of (by omega) (by unfold bigN at hk; omega), bindS, d0, d1, d2]
  by_cases h1 : k = 1
  · simp only [h1, decide_true, if_true]
    by_cases a : n.K = 9
    · simp [a]
    by_cases b : n.K = 10
    · simp [b]
    · by_cases c : n.K = 12 <;> simp [a, b, c]
  by_cases h3 : k = 13
  · simp only [h1, h3, decide_true, if_true, decide_false, if_false]
    by_cases c : n.K = 12
    · simp [c]
    · have e : decide ((12 : Int) ≤ n.K) = true → n.K = 13 := fun h => by have := of_decide_eq_true h; omega
      by_cases f : (12 : Int) ≤ n.K
      · have : n.K = 13 := by omega
        simp [this]
      · by_cases a : n.K = 9
        · simp [a]
        · by_cases b : n.K = 10 <;> simp [a, b, c, f]
  by_cases h2 : k = 11
  · simp only [h1, h2, h3, decide_true, if_true, decide_false, if_false]
    by_cases a : n.K = 9
    · simp [a]
    by_cases b : n.K = 10
    · simp [b]
    · by_cases c : n.K = 12 <;> simp [a, b, c]
  · simp only [h1, h2, h3, decide_true, if_true, decide_false, if_false]
    by_cases a : n.K = 9
    · simp [a]
    by_cases b : n.K = 10
    · simp [b]
    · by_cases c : n.K = 12 <;> simp [a, b, c]
theorem standsBody_eq (k : Int) (i len : Nat) (hl : len ≤ bigN) : ref14_stands k 99 (i : Int) (len : Int) = some (standsB k (bodyP len i)) := by
  unfold ref14_stands standsB bodyP
  have d2 : decide ((i : Int) = (len : Int) - 1) = decide (i + 1 = len) := by
    by_cases h : i + 1 = len
    · rw [decide_eq_true h, decide_eq_true (by omega)]
    · rw [decide_eq_false h, decide_eq_false (by omega)]
  rw [ck_of (by omega) (by unfold bigN at hl; omega), bindS, d2]
  by_cases h1 : k = 1
  · simp [h1]
  by_cases h3 : k = 13
  · simp [h3]
  by_cases h2 : k = 11
  · simp [h2]
  · simp [h1, h2, h3]
end Go.Cq

