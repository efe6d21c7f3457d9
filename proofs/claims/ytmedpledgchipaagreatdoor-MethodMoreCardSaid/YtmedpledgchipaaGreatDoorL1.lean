import Derived.Test.YtmedpledgchipaaGreatDoorEx4
import Derived.Test.YtmedpledgchipaaGreatDoorMSp
set_option linter.unusedSectionVars false
set_option linter.unusedVariables false
set_option linter.unusedSimpArgs false
set_option linter.unnecessarySimpa false
set_option maxRecDepth 100000
namespace Go.Cq
open Go Go.Av
section
variable {α σ ρ : Type}
def loopI (g : Nat → α → σ → (σ → Option ρ) → Option ρ) (K : σ → Option ρ) : Nat → List α → σ → Option ρ
 | _, [], s => K s
 | j, x :: r, s => g j x s (loopI g K (j+1) r)
theorem getDrop {l : List α} {j : Nat} {x : α} {r : List α} (h : l.drop j = x :: r) : l[j]? = some x ∧ l.drop (j + 1) = r ∧ j < l.length := by
 have h1 : l[j]? = some x := by
  have := congrArg (·[0]?) h
  simpa using this
 refine ⟨h1, ?_, (List.getElem?_eq_some_iff.1 h1).1⟩
 have := congrArg (List.drop 1) h
 simpa [List.drop_drop, Nat.add_comm] using this
theorem loopI_eq {F : Nat → σ → Int → Option ρ} {g : Nat → α → σ → (σ → Option ρ) → Option ρ} {K : σ → Option ρ} {l : List α}
    (h1 : ∀ q s (j : Nat) x, l[j]? = some x → j < l.length → F (q+1) s (j : Int) = g j x s (fun s' => F q s' ((j+1 : Nat) : Int))) (h0 : ∀ q s, F (q+1) s (l.length : Int) = K s) :
    ∀ (r : List α) (j q : Nat) (s : σ), l.drop j = r → j ≤ l.length → r.length < q → F q s (j : Int) = loopI g K j r s
  | [], j, q+1, s, h, hj, _ => by
    have : j = l.length := by have : l.length ≤ j := by simpa using h
                              omega
    subst this; rw [h0]; rfl
  | x :: r, j, q+1, s, h, hj, hq => by
    obtain ⟨e1, e2, e3⟩ := getDrop h
    rw [h1 q s j x e1 e3]
    show _ = g j x s (loopI g K (j+1) r)
    congr 1
    funext s'
    exact loopI_eq h1 h0 r (j+1) q s' e2 e3 (by simp at hq; omega)
  | _, _, 0, _, _, _, hq => by omega
theorem loopI_run {F : Nat → σ → Int → Option ρ} {g : Nat → α → σ → (σ → Option ρ) → Option ρ} {K : σ → Option ρ} {l : List α}
  (h1 : ∀ q s (j : Nat) x, l[j]? = some x → j < l.length → F (q+1) s (j : Int) = g j x s (fun s' => F q s' ((j+1 : Nat) : Int))) (h0 : ∀ q s, F (q+1) s (l.length : Int) = K s) (s : σ) (hl : l.length < fuel) :
  F fuel s 0 = loopI g K 0 l s := loopI_eq h1 h0 l 0 fuel s rfl (Nat.zero_le _) hl
end
theorem letK_e {Y Z ρ : Type} {K : Y → Z} {body : (Y → Z) → ρ} : letK K body = body K := .trans rfl rfl
theorem ifF {α : Type} {a b : α} {d : Decidable (false = true)} : (@ite α (false = true) d a b) = b := if_neg (by simp)
theorem ifT {α : Type} {a b : α} {d : Decidable (true = true)} : (@ite α (true = true) d a b) = a := if_pos rfl
theorem ifFa {α : Type} {a b : α} {d : Decidable False} : (@ite α False d a b) = b := if_neg id
theorem ifTr {α : Type} {a b : α} {d : Decidable True} : (@ite α True d a b) = a := if_pos trivial
theorem bindS {α β : Type} {a : α} {f : α → Option β} : (some a).bind f = f a := .trans rfl rfl
theorem lAt_nat {α : Type} {l : List α} {j : Nat} {x : α} (h : l[j]? = some x) : lAt l (j : Int) = some x := by
 unfold lAt; rw [if_pos (by omega)]; simpa using h
theorem ckn {n : Nat} (h : n ≤ 9000000000000000000) : ck (n : Int) = some (n : Int) := by
 unfold ck; rw [if_pos (by omega)]
theorem cks {n : Nat} (h : n ≤ 8000000000000000000) : ck ((n : Int) + 1) = some ((n + 1 : Nat) : Int) := by
 unfold ck; rw [if_pos (by omega)]; rfl
theorem ck_of {n : Int} (h1 : -9223372036854775808 ≤ n) (h2 : n ≤ 9223372036854775807) : ck n = some n := by
 unfold ck; rw [if_pos ⟨h1, h2⟩]
theorem app_of {α : Type} {b : Nat} {l m : List α} (h1 : l.length + m.length ≤ 140737488355328) (h2 : (l.length + m.length) * b ≤ 140737488355328) : app b l m = some (l ++ m) := by
 unfold app maxB; rw [if_pos ⟨h1, h2⟩]
theorem lt_len {α : Type} {l : List α} {j : Nat} (h : j < l.length) : decide ((j : Int) < (l.length : Int)) = true := by simpa using h
theorem ge_len {α : Type} {l : List α} : decide ((l.length : Int) < (l.length : Int)) = false := by simp
end Go.Cq

set_option maxRecDepth 100000
namespace Go.Cq
open Go Go.Av
theorem u8_all (p : UInt8 → Bool) (h : (List.range 256).all (fun n => p (UInt8.ofNat n)) = true) (c : UInt8) : p c = true := by
 have := List.all_eq_true.1 h c.toNat (by simpa using c.toNat_lt)
 simpa using this
theorem u8_eq (p q : UInt8 → Bool) (h : (List.range 256).all (fun n => p (UInt8.ofNat n) == q (UInt8.ofNat n)) = true) (c : UInt8) : p c = q c := by
 have := u8_all (fun c => p c == q c) h c
 simpa using this
def between (lo hi : Nat) (c : UInt8) : Bool := decide (lo ≤ c.toNat) && decide (c.toNat ≤ hi)
def alnum (c : UInt8) : Bool := between 97 122 c || between 65 90 c || between 48 57 c
def signC : Str := [43, 45, 42, 47, 92, 60, 62, 61, 126, 44]
theorem dw_nil {α : Type} (p : α → Bool) : ∀ l : List α, l.dropWhile p = [] ↔ ∀ x, x ∈ l → p x = true
 | [] => by simp
 | x :: l => by
  rw [List.dropWhile_cons]
  cases h : p x with
  | true => rw [if_pos rfl, dw_nil p l]; simp [h]
  | false => simp [h]
theorem dw_head {α : Type} (p : α → Bool) {x : α} {r : List α} : ∀ l : List α, l.dropWhile p = x :: r → p x = false
 | [], h => by simp at h
 | y :: l, h => by
  rw [List.dropWhile_cons] at h
  cases hp : p y with
  | true => rw [hp, if_pos rfl] at h; exact dw_head p l h
  | false =>
   rw [hp, if_neg (by simp)] at h
   obtain ⟨rfl, _⟩ := List.cons.inj h
   exact hp
theorem trimS_nil (s cs : Str) : Lib.trimS s cs = [] ↔ s.all (cs.contains ·) = true := by
 unfold Lib.trimS Lib.trimLeftS Lib.trimRightS
 constructor
 ·intro h
  have h1 := (dw_nil _ _).1 h
  cases hd : s.reverse.dropWhile (cs.contains ·) with
  | nil =>
   have := (dw_nil _ _).1 hd
   simp only [List.all_eq_true]
   exact fun x hx => this x (by simpa using hx)
  | cons x r =>
   exfalso
   have hx : cs.contains x = false := dw_head _ _ hd
   have := h1 x (by rw [hd]; simp)
   rw [hx] at this; cases this
 ·intro h
  have : s.reverse.dropWhile (cs.contains ·) = [] := (dw_nil _ _).2 fun x hx => List.all_eq_true.1 h x (by simpa using hx)
  rw [this]; rfl
theorem trim_eq (s cs : Str) (h : cs.length < 4294967281) (ha : cs.all (fun b => decide (b.toNat < 128)) = true) : strings_Trim s cs = some (Lib.trimS s cs) := by
 unfold strings_Trim trimAS; rw [if_pos ⟨h, ha⟩]
theorem beq_nil (s : Str) : (s == []) = decide (s = []) := by cases s <;> simp
theorem trimB (s cs : Str) : (Lib.trimS s cs == []) = s.all (cs.contains ·) := by
 rw [beq_nil]
 cases h : s.all (cs.contains ·) with
 | true => rw [decide_eq_true ((trimS_nil s cs).2 h)]
 | false => rw [decide_eq_false (fun e => by rw [(trimS_nil s cs).1 e] at h; cases h)]
def bigN : Nat := 4000000000000000000
theorem lt_fuel {n : Nat} (h : n ≤ bigN) : n < fuel := by unfold bigN at h; unfold fuel; omega
theorem ckj {j n : Nat} (h : j < n) (hn : n ≤ bigN) : ck ((j : Int) + 1) = some ((j + 1 : Nat) : Int) := cks (by unfold bigN at hn; omega)
theorem sIdx_nat {s : Str} {j : Nat} {c : UInt8} (h : s[j]? = some c) : sIdx s (j : Int) = some (c.toNat : Int) := by
 have hj := (List.getElem?_eq_some_iff.1 h).1
 unfold sIdx
 rw [if_pos ⟨by omega, by omega⟩]
 simp [List.getD_eq_getElem?_getD, h]
theorem sub0 {α : Type} {l : List α} {j : Nat} (h : j ≤ l.length) : sub l 0 (j : Int) = some (l.take j) := by
 unfold sub
 rw [if_pos ⟨by omega, by omega, by omega⟩]
 simp
end Go.Cq

