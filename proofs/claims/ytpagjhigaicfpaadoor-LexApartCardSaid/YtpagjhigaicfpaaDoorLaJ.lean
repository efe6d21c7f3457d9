import Derived.Test.YtpagjhigaicfpaaDoorLaI
set_option linter.unusedSectionVars false
set_option linter.unusedVariables false
set_option linter.unusedSimpArgs false
set_option maxRecDepth 100000
set_option linter.unusedVariables false
set_option linter.unusedSimpArgs false
namespace Go.Cq
open Go Go.Av

theorem pD_dec (b : UInt8) : decide (cl b = 48) = pD b := by unfold pD; rw [Bool.eq_iff_iff]; simp
theorem pB_dec (b : UInt8) : decide (cl b = 43) = pB b := by unfold pB; rw [Bool.eq_iff_iff]; simp
def blN (n : Nat) : Bool := n == 32 || n == 9 || n == 10 || n == 13
theorem blank_cl (b : UInt8) : (((decide (cl b = 32) || decide (cl b = 9)) || decide (cl b = 10)) || decide (cl b = 13)) = blB b := by
  have := allB (p := fun b => ((((cl b == 32) || (cl b == 9)) || (cl b == 10)) || (cl b == 13)) == blN b.toNat) (by kernel_rfl) b
  rw [beq_iff_eq] at this
  have e : ∀ x y : Int, decide (x = y) = (x == y) := fun x y => by rw [Bool.eq_iff_iff]; simp
  rw [e, e, e, e, this]
  unfold blN blB
  rw [Bool.eq_iff_iff]
  simp [← UInt8.toNat_inj, or_assoc]
theorem l6_eq (b : UInt8) (h1 : pL b = false) (h2 : pD b = false) (h3 : pB b = false) : ref13_Words_l6 (cl b) fuel 7 99 = some (bif decide (0 ≤ idxB mks b) then 7 + idxB mks b else 99) := by
  have := allB (p := fun b => pL b || pD b || pB b || (ref13_Words_l6 (cl b) fuel 7 99 == some (bif decide (0 ≤ idxB mks b) then 7 + idxB mks b else 99))) (by kernel_rfl) b
  rw [h1, h2, h3] at this
  simpa using this
theorem cl97 {b : UInt8} (h : pL b = true) : cl b = 97 := by unfold pL at h; simpa using h
theorem cl48 {b : UInt8} (h : pD b = true) : cl b = 48 := by unfold pD at h; simpa using h
theorem cl43 {b : UInt8} (h : pB b = true) : cl b = 43 := by unfold pB at h; simpa using h
theorem ofInts_toInts (s : Str) : ofInts (toInts s) = s := by
  unfold ofInts toInts
  rw [List.map_map]
  have : (fun n : Int => UInt8.ofNat n.toNat) ∘ (fun c : UInt8 => (c.toNat : Int)) = id := by funext c; simp
  rw [this, List.map_id]
theorem key_at {s : Str} (hs : s.length ≤ 70000) {j : Nat} (hj : j ≤ s.length) :
    ((ref13_at s (j : Int)).bind fun v54 => if decide (v54 = 58) = true then (ck ((j : Int) + 1)).bind fun v57 => if decide (v57 < (s.length : Int)) = true then (sIdx s v57).bind fun v62 => some (!decide (v62 = 61)) else some true else some false) = some (isKey (s.drop j)) := by
  generalize hu : s.drop j = u
  cases u with
  | nil => rw [at_nil hu]; rfl
  | cons c u =>
    obtain ⟨h1, h2, h3⟩ := drop_cons hu
    rw [at_cons hu, Option.bind_some, cl58, ck_succ (by omega), Option.bind_some]
    cases u with
    | nil => rw [ge_drop h2, isKey_1]; cases decide (c = 58) <;> rfl
    | cons d u =>
      rw [lt_drop h2, if_pos (show true = true from rfl), sIdx_drop h2, Option.bind_some, dec61, isKey_2]
      cases decide (c = 58) <;> cases decide (d = 61) <;> rfl
theorem rfin {W : ref13_Word} {out : List ref13_Word} {Y v4 : Int} {F : List ref13_Word → Int → Option (List ref13_Word × Int × Int)} (hW : W.S.length ≤ 8000000000000000000) :
    ((ref13_May W).bind fun v152 => if (!v152) = true then some ([], v4, 9) else (app 32 out [W]).bind fun v155 => F v155 Y) = bif !mayB W.K W.S W.At then some ([], v4, 9) else (app 32 out [W]).bind fun v => F v Y := by
  rw [rmay_eq hW, Option.bind_some]
  cases mayB W.K W.S W.At <;> rfl
theorem may99 {S : Str} {At : Int} : mayB 99 S At = false := by
  unfold mayB
  split
  · rfl
  · rfl
theorem l6_58 : (bif decide (0 ≤ idxB mks 58) then 7 + idxB mks 58 else (99 : Int)) = 99 := by kernel_rfl
theorem w61 {d : UInt8} (h : pL d = true) : decide (d = 61) = false := by
  rw [decide_eq_false_iff_not]; rintro rfl; revert h; decide
end Go.Cq

