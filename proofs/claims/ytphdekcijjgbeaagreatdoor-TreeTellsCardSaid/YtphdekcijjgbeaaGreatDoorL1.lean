import Derived.Test.YtphdekcijjgbeaaGreatDoorEx4
import Derived.Test.YtphdekcijjgbeaaGreatDoorTSp
set_option linter.unusedSectionVars false
set_option linter.unusedVariables false
set_option linter.unusedSimpArgs false
set_option linter.unnecessarySimpa false
set_option maxRecDepth 100000
namespace Go.Cq
open Go Go.Av
section
variable {α σ ρ : Type}
def loopI (g : Nat → α → σ → (σ → Option ρ) → Option ρ) (K : σ → Option ρ) : Nat → List α → σ → Option ρ
 | _, [], s => K s
 | j, x :: r, s => g j x s (loopI g K (j+1) r)
theorem getDrop {l : List α} {j : Nat} {x : α} {r : List α} (h : l.drop j = x :: r) : l[j]? = some x ∧ l.drop (j + 1) = r ∧ j < l.length := by
 have h1 : l[j]? = some x := by
  have := congrArg (·[0]?) h
  simpa using this
 refine ⟨h1, ?_, (List.getElem?_eq_some_iff.1 h1).1⟩
 have := congrArg (List.drop 1) h
 simpa [List.drop_drop, Nat.add_comm] using this
theorem loopI_eq {F : Nat → σ → Int → Option ρ} {g : Nat → α → σ → (σ → Option ρ) → Option ρ} {K : σ → Option ρ} {l : List α}
    (h1 : ∀ q s (j : Nat) x, l[j]? = some x → j < l.length → F (q+1) s (j : Int) = g j x s (fun s' => F q s' ((j+1 : Nat) : Int))) (h0 : ∀ q s, F (q+1) s (l.length : Int) = K s) :
    ∀ (r : List α) (j q : Nat) (s : σ), l.drop j = r → j ≤ l.length → r.length < q → F q s (j : Int) = loopI g K j r s
  | [], j, q+1, s, h, hj, _ => by
    have : j = l.length := by have : l.length ≤ j := by simpa using h
                              omega
    subst this; rw [h0]; rfl
  | x :: r, j, q+1, s, h, hj, hq => by
    obtain ⟨e1, e2, e3⟩ := getDrop h
    rw [h1 q s j x e1 e3]
    show _ = g j x s (loopI g K (j+1) r)
    congr 1
    funext s'
    exact loopI_eq h1 h0 r (j+1) q s' e2 e3 (by simp at hq; omega)
  | _, _, 0, _, _, _, hq => by omega
theorem loopI_run {F : Nat → σ → Int → Option ρ} {g : Nat → α → σ → (σ → Option ρ) → Option ρ} {K : σ → Option ρ} {l : List α}
  (h1 : ∀ q s (j : Nat) x, l[j]? = some x → j < l.length → F (q+1) s (j : Int) = g j x s (fun s' => F q s' ((j+1 : Nat) : Int))) (h0 : ∀ q s, F (q+1) s (l.length : Int) = K s) (s : σ) (hl : l.length < fuel) :
  F fuel s 0 = loopI g K 0 l s := loopI_eq h1 h0 l 0 fuel s rfl (Nat.zero_le _) hl
end
theorem letK_e {Y Z ρ : Type} {K : Y → Z} {body : (Y → Z) → ρ} : letK K body = body K := .trans rfl rfl
theorem ifF {α : Type} {a b : α} {d : Decidable (false = true)} : (@ite α (false = true) d a b) = b := if_neg (by simp)
theorem ifT {α : Type} {a b : α} {d : Decidable (true = true)} : (@ite α (true = true) d a b) = a := if_pos rfl
theorem bindS {α β : Type} {a : α} {f : α → Option β} : (some a).bind f = f a := .trans rfl rfl
theorem lAt_nat {α : Type} {l : List α} {j : Nat} {x : α} (h : l[j]? = some x) : lAt l (j : Int) = some x := by
 unfold lAt; rw [if_pos (by omega)]; simpa using h
theorem ckn {n : Nat} (h : n ≤ 9000000000000000000) : ck (n : Int) = some (n : Int) := by
 unfold ck; rw [if_pos (by omega)]
theorem cks {n : Nat} (h : n ≤ 8000000000000000000) : ck ((n : Int) + 1) = some ((n + 1 : Nat) : Int) := by
 unfold ck; rw [if_pos (by omega)]; rfl
theorem ck_of {n : Int} (h1 : -9223372036854775808 ≤ n) (h2 : n ≤ 9223372036854775807) : ck n = some n := by
 unfold ck; rw [if_pos ⟨h1, h2⟩]
theorem app_of {α : Type} {b : Nat} {l m : List α} (h1 : l.length + m.length ≤ 140737488355328) (h2 : (l.length + m.length) * b ≤ 140737488355328) : app b l m = some (l ++ m) := by
 unfold app maxB; rw [if_pos ⟨h1, h2⟩]
theorem lt_len {α : Type} {l : List α} {j : Nat} (h : j < l.length) : decide ((j : Int) < (l.length : Int)) = true := by simpa using h
theorem ge_len {α : Type} {l : List α} : decide ((l.length : Int) < (l.length : Int)) = false := by simp
end Go.Cq

set_option maxRecDepth 100000
namespace Go.Cq
open Go Go.Av
theorem u8_all (p : UInt8 → Bool) (h : (List.range 256).all (fun n => p (UInt8.ofNat n)) = true) (c : UInt8) : p c = true := by
 have := List.all_eq_true.1 h c.toNat (by simpa using c.toNat_lt)
 simpa using this
theorem u8_eq (p q : UInt8 → Bool) (h : (List.range 256).all (fun n => p (UInt8.ofNat n) == q (UInt8.ofNat n)) = true) (c : UInt8) : p c = q c := by
 have := u8_all (fun c => p c == q c) h c
 simpa using this
def between (lo hi : Nat) (c : UInt8) : Bool := decide (lo ≤ c.toNat) && decide (c.toNat ≤ hi)
def alnum (c : UInt8) : Bool := between 97 122 c || between 65 90 c || between 48 57 c
def smallC : Str := [97, 98, 99, 100, 101, 102, 103, 104, 105, 106, 107, 108, 109, 110, 111, 112, 113, 114, 115, 116, 117, 118, 119, 120, 121, 122]
def greatC : Str := [65, 66, 67, 68, 69, 70, 71, 72, 73, 74, 75, 76, 77, 78, 79, 80, 81, 82, 83, 84, 85, 86, 87, 88, 89, 90]
def digitC : Str := [48, 49, 50, 51, 52, 53, 54, 55, 56, 57]
def signC : Str := [43, 45, 42, 47, 92, 60, 62, 61, 126, 44]
def alnumC : Str := [97, 98, 99, 100, 101, 102, 103, 104, 105, 106, 107, 108, 109, 110, 111, 112, 113, 114, 115, 116, 117, 118, 119, 120, 121, 122, 65, 66, 67, 68, 69, 70, 71, 72, 73, 74, 75, 76, 77, 78, 79, 80, 81, 82, 83, 84, 85, 86, 87, 88, 89, 90, 48, 49, 50, 51, 52, 53, 54, 55, 56, 57]
theorem small_contains (c : UInt8) : smallC.contains c = between 97 122 c := u8_eq _ _ (by decide +kernel) c
theorem great_contains (c : UInt8) : greatC.contains c = between 65 90 c := u8_eq _ _ (by decide +kernel) c
theorem digit_contains (c : UInt8) : digitC.contains c = between 48 57 c := u8_eq _ _ (by decide +kernel) c
theorem alnum_contains (c : UInt8) : alnumC.contains c = alnum c := u8_eq _ _ (by decide +kernel) c
theorem dw_nil {α : Type} (p : α → Bool) : ∀ l : List α, l.dropWhile p = [] ↔ ∀ x, x ∈ l → p x = true
 | [] => by simp
 | x :: l => by
  rw [List.dropWhile_cons]
  cases h : p x with
  | true => rw [if_pos rfl, dw_nil p l]; simp [h]
  | false => simp [h]
theorem dw_head {α : Type} (p : α → Bool) {x : α} {r : List α} : ∀ l : List α, l.dropWhile p = x :: r → p x = false
 | [], h => by simp at h
 | y :: l, h => by
  rw [List.dropWhile_cons] at h
  cases hp : p y with
  | true => rw [hp, if_pos rfl] at h; exact dw_head p l h
  | false =>
   rw [hp, if_neg (by simp)] at h
   obtain ⟨rfl, _⟩ := List.cons.inj h
   exact hp
theorem trimS_nil (s cs : Str) : Lib.trimS s cs = [] ↔ s.all (cs.contains ·) = true := by
 unfold Lib.trimS Lib.trimLeftS Lib.trimRightS
 constructor
 ·intro h
  have h1 := (dw_nil _ _).1 h
  cases hd : s.reverse.dropWhile (cs.contains ·) with
  | nil =>
   have := (dw_nil _ _).1 hd
   simp only [List.all_eq_true]
   exact fun x hx => this x (by simpa using hx)
  | cons x r =>
   exfalso
   have hx : cs.contains x = false := dw_head _ _ hd
   have := h1 x (by rw [hd]; simp)
   rw [hx] at this; cases this
 ·intro h
  have : s.reverse.dropWhile (cs.contains ·) = [] := (dw_nil _ _).2 fun x hx => List.all_eq_true.1 h x (by simpa using hx)
  rw [this]; rfl
theorem trim_eq (s cs : Str) (h : cs.length < 4294967281) (ha : cs.all (fun b => decide (b.toNat < 128)) = true) : strings_Trim s cs = some (Lib.trimS s cs) := by
 unfold strings_Trim trimAS; rw [if_pos ⟨h, ha⟩]
theorem beq_nil (s : Str) : (s == []) = decide (s = []) := by cases s <;> simp
theorem trimB (s cs : Str) : (Lib.trimS s cs == []) = s.all (cs.contains ·) := by
 rw [beq_nil]
 cases h : s.all (cs.contains ·) with
 | true => rw [decide_eq_true ((trimS_nil s cs).2 h)]
 | false => rw [decide_eq_false (fun e => by rw [(trimS_nil s cs).1 e] at h; cases h)]
theorem idxB_nonneg : ∀ (s : Str) (c : UInt8), decide ((0 : Int) ≤ idxB s c) = s.contains c
 | [], c => rfl
 | x :: s, c => by
  have ih := idxB_nonneg s c
  rw [List.contains_cons]
  unfold idxB
  cases h : x == c with
  | true =>
   have e : (c == x) = true := by rw [BEq.comm]; exact h
   rw [e, Bool.true_or]; rfl
  | false =>
   have e : (c == x) = false := by rw [BEq.comm]; exact h
   rw [e, Bool.false_or, ← ih, ifF]
   cases e : idxB s c with
   | ofNat n => rfl
   | negSucc n => rfl
theorem indexByte_eq (s : Str) (c : UInt8) : strings_IndexByte s (c.toNat : Int) = some (idxB s c) := by
 unfold strings_IndexByte internal_stringslite_IndexByte bytealg_idx
 simp
def nameOk (lo hi : Nat) (s : Str) : Bool := (match s with | c :: _ => between lo hi c | [] => false) && (decide (s.length ≤ 32) && s.all alnum)
theorem named_eq {lo hi : Nat} {first : Str} (hf : ∀ c, first.contains c = between lo hi c) (s : Str) : tree_named s first = some (nameOk lo hi s) := by
  unfold tree_named
  cases s with
  | nil => rfl
  | cons c r =>
    have e0 : (((c :: r : Str)) == []) = false := rfl
    simp only [e0, Bool.not_false, if_true]
    have e1 : sIdx (c :: r) 0 = some (c.toNat : Int) := by simp [sIdx]
    have e2 : strings_Trim (c :: r) alnumC = some (Lib.trimS (c :: r) alnumC) := trim_eq _ _ (by decide) (by decide)
    unfold alnumC at e2
    have e3 := trimB (c :: r) alnumC
    unfold alnumC at e3
    by_cases h : (c :: r).length ≤ 32
    · have h' : decide (((c :: r).length : Int) ≤ 32) = true := by simpa using (by omega : ((c :: r).length : Int) ≤ 32)
      rw [h', if_pos rfl, e1, bindS, indexByte_eq, bindS, idxB_nonneg, hf]
      cases hb : between lo hi c with
      | false => simp [nameOk, hb]
      | true =>
        rw [if_pos rfl, e2, bindS, e3, bindS]
        have : (c :: r).all (List.contains alnumC ·) = (c :: r).all alnum := by congr 1; funext x; exact alnum_contains x
        unfold alnumC at this
        rw [this]
        simp only [nameOk, hb, Bool.true_and, decide_eq_true h]
    · have h' : decide (((c :: r).length : Int) ≤ 32) = false := by simpa using (by omega : ¬ ((c :: r).length : Int) ≤ 32)
      rw [h', ifF, bindS]
      simp only [nameOk, decide_eq_false h, Bool.false_and, Bool.and_false]
theorem named_small (s : Str) : tree_named s smallC = some (nameOk 97 122 s) := named_eq small_contains s
theorem named_great (s : Str) : tree_named s greatC = some (nameOk 65 90 s) := named_eq great_contains s
end Go.Cq

set_option maxRecDepth 100000
namespace Go.Cq
open Go Go.Av
def bigN : Nat := 4000000000000000000
theorem lt_fuel {n : Nat} (h : n ≤ bigN) : n < fuel := by unfold bigN at h; unfold fuel; omega
theorem ckj {j n : Nat} (h : j < n) (hn : n ≤ bigN) : ck ((j : Int) + 1) = some ((j + 1 : Nat) : Int) := cks (by unfold bigN at hn; omega)
theorem contains_eq (s : List Str) (v : Str) (hs : s.length ≤ bigN) : slices_Contains_Lstring_string s v = some (s.contains v) := by
 unfold slices_Contains_Lstring_string slices_Index_Lstring_string
 rw [letK_e]
 have h := loopI_run (F := fun q (_ : Unit) i => slices_Index_Lstring_string_l1 s v (fun _ => some (-1)) q i) (g := fun j x _ k => if (v == x) then some (j : Int) else k ()) (K := fun _ => some (-1)) (l := s)
  (fun q st j x hx hj => by
   simp only [slices_Index_Lstring_string_l1]
   rw [lt_len hj, if_pos rfl, lAt_nat hx, bindS, ckj hj hs, bindS]) (fun q st => by
   simp only [slices_Index_Lstring_string_l1]
   rw [ge_len, ifF]) () (lt_fuel hs)
 simp only at h
 rw [h]
 have : ∀ (r : List Str) (j : Nat), (loopI (fun j x _ k => if (v == x) then some (j : Int) else k ()) (fun _ => some (-1)) j r ()).bind (fun v1 => some (decide ((0 : Int) ≤ v1))) = some (r.contains v) := by
  intro r
  induction r with
  | nil => intro j; rfl
  | cons x r ih =>
   intro j
   rw [List.contains_cons]
   show Option.bind (if (v == x) then some (j : Int) else _) _ = _
   cases hb : (v == x) with
   | true => rw [if_pos rfl, bindS, Bool.true_or]; simp
   | false => rw [ifF, Bool.false_or]; exact ih (j+1)
 exact this s 0
def wordsC : List Str := [[115, 101, 108, 102], [115, 117, 112, 101, 114], [110, 105, 108], [116, 114, 117, 101], [102, 97, 108, 115, 101]]
def varOk (s : Str) : Bool := nameOk 97 122 s && !wordsC.contains s
theorem variable_eq (s : Str) : tree_variable s = some (varOk s) := by
 unfold tree_variable
 have h1 := named_small s
 unfold smallC at h1
 rw [h1, bindS]
 have h2 := contains_eq wordsC s (by decide)
 unfold wordsC at h2
 unfold varOk wordsC
 cases nameOk 97 122 s with
 | true => rw [if_pos rfl, h2, bindS, bindS, Bool.true_and]
 | false => rw [ifF, bindS, Bool.false_and]
theorem sIdx_nat {s : Str} {j : Nat} {c : UInt8} (h : s[j]? = some c) : sIdx s (j : Int) = some (c.toNat : Int) := by
 have hj := (List.getElem?_eq_some_iff.1 h).1
 unfold sIdx
 rw [if_pos ⟨by omega, by omega⟩]
 simp [List.getD_eq_getElem?_getD, h]
theorem alnum_int (c : UInt8) : (if (decide ((c.toNat : Int) < 97)) then if (decide ((c.toNat : Int) < 65)) then if (decide ((c.toNat : Int) < 48)) then some true else some (decide ((57 : Int) < c.toNat)) else if (decide ((90 : Int) < c.toNat)) then if (decide ((c.toNat : Int) < 48)) then some true else some (decide ((57 : Int) < c.toNat)) else some false
  else if (decide ((122 : Int) < c.toNat)) then if (decide ((c.toNat : Int) < 65)) then if (decide ((c.toNat : Int) < 48)) then some true else some (decide ((57 : Int) < c.toNat)) else if (decide ((90 : Int) < c.toNat)) then if (decide ((c.toNat : Int) < 48)) then some true else some (decide ((57 : Int) < c.toNat)) else some false else some false) = some (!alnum c) := by
 have := u8_all (fun c => decide ((if (decide ((c.toNat : Int) < 97)) then if (decide ((c.toNat : Int) < 65)) then if (decide ((c.toNat : Int) < 48)) then some true else some (decide ((57 : Int) < c.toNat)) else if (decide ((90 : Int) < c.toNat)) then if (decide ((c.toNat : Int) < 48)) then some true else some (decide ((57 : Int) < c.toNat)) else some false
  else if (decide ((122 : Int) < c.toNat)) then if (decide ((c.toNat : Int) < 65)) then if (decide ((c.toNat : Int) < 48)) then some true else some (decide ((57 : Int) < c.toNat)) else if (decide ((90 : Int) < c.toNat)) then if (decide ((c.toNat : Int) < 48)) then some true else some (decide ((57 : Int) < c.toNat)) else some false else some false) = some (!alnum c))) (by decide +kernel) c
 exact of_decide_eq_true this
theorem name10_l1 (s : Str) (hs : s.length ≤ bigN) : ref10_Name_l1 s (fun _ => some true) fuel 0 = some (s.all alnum) := by
 have h := loopI_run (F := fun q (_ : Unit) i => ref10_Name_l1 s (fun _ => some true) q i) (g := fun j x _ k => if (!alnum x) then some false else k ()) (K := fun _ => some true) (l := s)
  (fun q st j x hx hj => by
   simp only [ref10_Name_l1]
   rw [lt_len hj, if_pos rfl, sIdx_nat hx, bindS, alnum_int, bindS, ckj hj hs, bindS]) (fun q st => by
   simp only [ref10_Name_l1]
   rw [ge_len, ifF]) () (lt_fuel hs)
 simp only at h
 rw [h]
 have : ∀ (r : Str) (j : Nat), loopI (fun j x _ k => if (!alnum x) then some false else k ()) (fun _ => some true) j r () = some (r.all alnum) := by
  intro r
  induction r with
  | nil => intro j; rfl
  | cons x r ih =>
   intro j
   rw [List.all_cons]
   show (if (!alnum x) then some false else _) = _
   cases alnum x with
   | false => rfl
   | true => rw [Bool.not_true, ifF, Bool.true_and]; exact ih (j+1)
 exact this s 0
theorem name10_eq (s : Str) (lo hi : Nat) : ref10_Name s (lo : Int) (hi : Int) = some (nameOk lo hi s) := by
 unfold ref10_Name
 cases s with
 | nil => rfl
 | cons c r =>
  have h0 : decide (((c :: r : Str).length : Int) < 1) = false := by simp; omega
  rw [h0, ifF]
  by_cases h : (c :: r).length ≤ 32
  ·have h' : decide ((32 : Int) < ((c :: r : Str).length : Int)) = false := by simpa using (by omega : ¬ (32 : Int) < ((c :: r : Str).length : Int))
   rw [h', ifF, show (0 : Int) = ((0 : Nat) : Int) from rfl, sIdx_nat (s := c :: r) (j := 0) (c := c) rfl, bindS]
   have hb : (if (decide ((c.toNat : Int) < (lo : Int))) then some true else some (decide ((hi : Int) < (c.toNat : Int)))) = some (!between lo hi c) := by
    unfold between
    by_cases h1 : lo ≤ c.toNat
    ·rw [decide_eq_false (by omega), ifF, decide_eq_true h1, Bool.true_and]
     by_cases h2 : c.toNat ≤ hi
     ·rw [decide_eq_true h2, decide_eq_false (by omega)]; rfl
     ·rw [decide_eq_false h2, decide_eq_true (by omega)]; rfl
    ·rw [decide_eq_true (by omega), if_pos rfl, decide_eq_false h1]; rfl
   rw [hb, bindS]
   unfold nameOk
   simp only
   cases between lo hi c with
   | false => rfl
   | true =>
    rw [Bool.not_true, ifF, letK_e, Int.ofNat_zero, name10_l1 _ (by unfold bigN; omega), decide_eq_true h]
    rfl
  ·have h' : decide ((32 : Int) < ((c :: r : Str).length : Int)) = true := by simpa using (by omega : (32 : Int) < ((c :: r : Str).length : Int))
   rw [h', if_pos rfl, bindS, if_pos rfl]
   simp only [nameOk, decide_eq_false h, Bool.false_and, Bool.and_false]
theorem var10_eq (s : Str) : ref10_Var s = some (varOk s) := by
  unfold ref10_Var
  have := name10_eq s 97 122
  rw [show (97 : Int) = ((97 : Nat) : Int) from rfl, show (122 : Int) = ((122 : Nat) : Int) from rfl, this, bindS]
  unfold varOk wordsC
  cases nameOk 97 122 s with
  | false => rfl
  | true =>
    rw [if_pos rfl]
    simp only [List.contains_cons, List.contains_nil, Bool.or_false]
    cases (s == [115, 101, 108, 102]) <;> cases (s == [115, 117, 112, 101, 114]) <;> cases (s == [110, 105, 108]) <;> cases (s == [116, 114, 117, 101]) <;> cases (s == [102, 97, 108, 115, 101]) <;> rfl
end Go.Cq

set_option maxRecDepth 100000
namespace Go.Cq
open Go Go.Av
def unB (l : List Str) : Nat → List Str → Bool
 | _, [] => true
 | j, x :: r => varOk x && (!(l.take j).contains x && unB l (j+1) r)
theorem sub0 {α : Type} {l : List α} {j : Nat} (h : j ≤ l.length) : sub l 0 (j : Int) = some (l.take j) := by
 unfold sub
 rw [if_pos ⟨by omega, by omega, by omega⟩]
 simp
theorem unlike_eq (l : List Str) (hs : l.length ≤ bigN) : tree_unlike l = some (unB l 0 l) := by
 unfold tree_unlike
 rw [letK_e]
 have h := loopI_run (F := fun q (_ : Unit) i => tree_unlike_l1 l (fun _ => some true) q i) (g := fun j x _ k => if (!(varOk x && !(l.take j).contains x)) then some false else k ()) (K := fun _ => some true) (l := l)
  (fun q st j x hx hj => by
   simp only [tree_unlike_l1]
   rw [lt_len hj, if_pos rfl, lAt_nat hx, bindS, variable_eq, bindS]
   cases varOk x with
   | false => simp only [Bool.not_false, Bool.false_and, if_true, bindS]
   | true =>
    rw [Bool.not_true, ifF, sub0 (by omega), bindS, contains_eq _ _ (by simp; omega), bindS, bindS]
    cases (l.take j).contains x with
    | true => simp only [if_true, Bool.not_true, Bool.and_false, Bool.not_false]
    | false => rw [ifF, ckj hj hs, bindS]; simp only [Bool.not_false, Bool.and_true, Bool.not_true, ifF]) (fun q st => by
   simp only [tree_unlike_l1]
   rw [ge_len, ifF]) () (lt_fuel hs)
 simp only at h
 rw [h]
 have : ∀ (r : List Str) (j : Nat), loopI (fun j x _ k => if (!(varOk x && !(l.take j).contains x)) then some false else k ()) (fun _ => some true) j r () = some (unB l j r) := by
  intro r
  induction r with
  | nil => intro j; rfl
  | cons x r ih =>
   intro j
   show (if (!(varOk x && !(l.take j).contains x)) then some false else _) = _
   unfold unB
   rw [← Bool.and_assoc]
   cases (varOk x && !(l.take j).contains x) with
   | false => rfl
   | true => rw [Bool.not_true, ifF, Bool.true_and]; exact ih (j+1)
 exact this l 0
theorem vars_l2 (l : List Str) (j : Nat) (x : Str) (K : Unit → Option Bool) (hj : j ≤ l.length) (hs : l.length ≤ bigN) : ref14_Vars_l2 l (j : Int) x K fuel 0 = if (l.take j).contains x then some false else K () := by
 have hlt : (l.take j).length = j := by simp; omega
 have h := loopI_run (F := fun q (_ : Unit) i => ref14_Vars_l2 l (j : Int) x K q i) (g := fun i y _ k => if (y == x) then some false else k ()) (K := K) (l := l.take j)
  (fun q st i y hy hi => by
   simp only [ref14_Vars_l2]
   rw [hlt] at hi
   have hy' : l[i]? = some y := by rw [List.getElem?_take_of_lt hi] at hy; exact hy
   rw [decide_eq_true (by omega), if_pos rfl, lAt_nat hy', bindS]
   cases (y == x) with
   | true => simp only [if_true]
   | false => rw [ifF, ifF, ckj (show i < l.length by omega) hs, bindS]) (fun q st => by
   simp only [ref14_Vars_l2]
   rw [hlt, decide_eq_false (by omega), ifF]) () (lt_fuel (by omega))
 refine h.trans ?_
 have : ∀ (r : List Str) (i : Nat), loopI (fun i y _ k => if (y == x) then some false else k ()) K i r () = if r.contains x then some false else K () := by
  intro r
  induction r with
  | nil => intro i; rfl
  | cons y r ih =>
   intro i
   rw [List.contains_cons]
   show (if (y == x) then some false else _) = _
   rw [show (x == y) = (y == x) from BEq.comm]
   cases (y == x) with
   | true => rfl
   | false => rw [ifF, Bool.false_or]; exact ih (i+1)
 exact this _ 0
theorem vars_eq (l : List Str) (most : Nat) (hs : l.length ≤ bigN) : ref14_Vars l (most : Int) = some (decide (l.length ≤ most) && unB l 0 l) := by
 unfold ref14_Vars
 rcases Nat.lt_or_ge most l.length with hm | hm
 ·rw [decide_eq_true (by omega), if_pos rfl, decide_eq_false (by omega)]; rfl
 rw [decide_eq_false (by omega), ifF, letK_e, decide_eq_true hm, Bool.true_and]
 have h := loopI_run (F := fun q (_ : Unit) i => ref14_Vars_l1 l (fun _ => some true) q i) (g := fun j x _ k => if (!(varOk x && !(l.take j).contains x)) then some false else k ()) (K := fun _ => some true) (l := l)
  (fun q st j x hx hj => by
   simp only [ref14_Vars_l1]
   rw [lt_len hj, if_pos rfl, lAt_nat hx, bindS, var10_eq, bindS]
   cases varOk x with
   | false => simp only [Bool.not_false, Bool.false_and, if_true, bindS]
   | true =>
    rw [Bool.not_true, ifF, letK_e, vars_l2 l j x _ (by omega) hs]
    cases (l.take j).contains x with
    | true => simp only [if_true, Bool.not_true, Bool.and_false, Bool.not_false]
    | false => rw [ifF, ckj hj hs, bindS]; simp only [Bool.not_false, Bool.and_true, Bool.not_true, ifF]) (fun q st => by
   simp only [ref14_Vars_l1]
   rw [ge_len, ifF]) () (lt_fuel hs)
 simp only at h
 rw [h]
 have : ∀ (r : List Str) (j : Nat), loopI (fun j x _ k => if (!(varOk x && !(l.take j).contains x)) then some false else k ()) (fun _ => some true) j r () = some (unB l j r) := by
  intro r
  induction r with
  | nil => intro j; rfl
  | cons x r ih =>
   intro j
   show (if (!(varOk x && !(l.take j).contains x)) then some false else _) = _
   unfold unB
   rw [← Bool.and_assoc]
   cases (varOk x && !(l.take j).contains x) with
   | false => rfl
   | true => rw [Bool.not_true, ifF, Bool.true_and]; exact ih (j+1)
 exact this l 0
theorem app16 {α : Type} {b : Nat} {l m : List α} (hb : b ≤ 1000) (h : l.length + m.length ≤ 100000000000) : app b l m = some (l ++ m) :=
 app_of (by omega) (by
  have := Nat.mul_le_mul h hb
  omega)
theorem concat_eq (a b : List Str) (h : a.length + b.length ≤ 4294967296) : slices_Concat_Lstring_string [a, b] = some (a ++ b) := by
 have e1 : ∀ q, slices_Concat_Lstring_string_l1 [a, b] (q+1+1+1) 0 0 = some ((a.length + b.length : Nat) : Int) := fun q => by
  have c1 : ck (0 + (a.length : Int)) = some (a.length : Int) := by rw [Int.zero_add]; exact ckn (by omega)
  have c2 : ck ((a.length : Int) + (b.length : Int)) = some ((a.length + b.length : Nat) : Int) := by rw [← Int.natCast_add]; exact ckn (by omega)
  have d1 : decide ((a.length : Int) < 0) = false := decide_eq_false (by omega)
  have d2 : decide (((a.length + b.length : Nat) : Int) < 0) = false := decide_eq_false (by omega)
  have g0 : ∀ q s i, slices_Concat_Lstring_string_l1 [a, b] (q+1) s i = _ := fun q s i => by rw [slices_Concat_Lstring_string_l1]
  rw [g0]
  rw [show decide ((0 : Int) < (([a, b] : List (List Str)).length : Int)) = true from rfl, if_pos rfl, show lAt [a, b] 0 = some a from rfl, bindS, c1, bindS, d1, ifF, bindS, show ck (0 + 1) = some 1 from rfl, bindS, g0]
  rw [show decide ((1 : Int) < (([a, b] : List (List Str)).length : Int)) = true from rfl, if_pos rfl, show lAt [a, b] 1 = some b from rfl, bindS, c2, bindS, d2, ifF, bindS, show ck (1 + 1) = some 2 from rfl, bindS, g0]
  rw [show decide ((2 : Int) < (([a, b] : List (List Str)).length : Int)) = false from rfl, ifF]
 have e3 : ∀ q, slices_Concat_Lstring_string_l2 [a, b] (q+1+1+1) [] 0 = some (a ++ b) := fun q => by
  have c1 : app 16 ([] : List Str) a = some a := app16 (by omega) (by simp; omega)
  have c2 : app 16 a b = some (a ++ b) := app16 (by omega) (by omega)
  have g0 : ∀ q s i, slices_Concat_Lstring_string_l2 [a, b] (q+1) s i = _ := fun q s i => by rw [slices_Concat_Lstring_string_l2]
  rw [g0]
  rw [show decide ((0 : Int) < (([a, b] : List (List Str)).length : Int)) = true from rfl, if_pos rfl, show lAt [a, b] 0 = some a from rfl, bindS, c1, bindS, show ck (0 + 1) = some 1 from rfl, bindS, g0]
  rw [show decide ((1 : Int) < (([a, b] : List (List Str)).length : Int)) = true from rfl, if_pos rfl, show lAt [a, b] 1 = some b from rfl, bindS, c2, bindS, show ck (1 + 1) = some 2 from rfl, bindS, g0]
  rw [show decide ((2 : Int) < (([a, b] : List (List Str)).length : Int)) = false from rfl, ifF]
 unfold slices_Concat_Lstring_string
 have f1 := e1 18446744073709551613
 have f3 := e3 18446744073709551613
 change slices_Concat_Lstring_string_l1 [a, b] fuel 0 0 = _ at f1
 change slices_Concat_Lstring_string_l2 [a, b] fuel [] 0 = _ at f3
 have e2 : slices_Grow ((a.length + b.length : Nat) : Int) = some [] := by unfold slices_Grow growNil; rw [if_pos ⟨by omega, by omega⟩]
 rw [f1, bindS, e2, bindS, f3, bindS]
end Go.Cq

