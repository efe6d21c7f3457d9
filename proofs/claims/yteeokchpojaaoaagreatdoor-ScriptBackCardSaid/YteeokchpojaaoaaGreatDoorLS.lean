import Derived.Test.YteeokchpojaaoaaGreatDoorL3
import Derived.KernelRfl
set_option linter.unusedSectionVars false
set_option linter.unusedVariables false
set_option linter.unusedSimpArgs false
set_option maxRecDepth 100000
set_option linter.unusedVariables false
set_option linter.unusedSimpArgs false
namespace Go.Cq
open Go Go.Av

theorem sure_ok : law30_sure = some true := by kernel_rfl
/-! ### Whole texts -/
abbrev Res := List Cmd × Nat × Nat
def bad (out : List Cmd) : Res := ([], out.length + 1, 337)
def scan : Str → Str → List Cmd → Res
  | cur, [], out => if cur = [] then (out, 0, 0) else bad out
  | cur, x :: r, out => if x = 10 then (match cmdF cur with
      | some c => if cur.length ≤ 4096 ∧ out.length < 60 then scan [] r (out ++ [c]) else bad out
      | none => bad out) else scan (cur ++ [x]) r out
theorem scan_cons (cur : Str) (x : UInt8) (r : Str) (out : List Cmd) : scan cur (x :: r) out = if x = 10 then (match cmdF cur with
      | some c => if cur.length ≤ 4096 ∧ out.length < 60 then scan [] r (out ++ [c]) else bad out
      | none => bad out) else scan (cur ++ [x]) r out := rfl
theorem scan_cut : ∀ (t cur : Str) (out : List Cmd), scan cur t out = if (cutAt 10 t).2.2 = true then (match cmdF (cur ++ (cutAt 10 t).1) with
      | some c => if (cur ++ (cutAt 10 t).1).length ≤ 4096 ∧ out.length < 60 then scan [] (cutAt 10 t).2.1 (out ++ [c]) else bad out
      | none => bad out) else if cur ++ (cutAt 10 t).1 = [] then (out, 0, 0) else bad out
  | [], cur, out => by rw [show cutAt 10 [] = ([], [], false) from rfl]; dsimp only; rw [ifF, List.append_nil]; rfl
  | x :: r, cur, out => by
    rw [scan_cons]
    by_cases h : x = 10
    · rw [if_pos h, show cutAt 10 (x :: r) = ([], r, true) from if_pos h]; dsimp only; rw [ifT, List.append_nil]
    · rw [if_neg h, show cutAt 10 (x :: r) = (x :: (cutAt 10 r).1, (cutAt 10 r).2.1, (cutAt 10 r).2.2) from if_neg h, scan_cut r (cur ++ [x]) out]
      simp only [List.append_assoc, List.singleton_append]
def okP (m : Nat) (r : Res) (p : List script_Command × Int × Option Int) : Prop := p.1 = r.1 ∧ p.2.1 = (r.2.1 : Int) ∧ p.2.2 = if r.2.2 = 0 then none else some (r.2.2 : Int)
theorem parse_loop (K : List script_Command → Option (List script_Command × Int × Option Int)) (hK : ∀ l, K l = some (l, 0, none)) : ∀ (n : Nat) (t : Str) (q : Nat) (out : List Cmd), t.length ≤ n → n ≤ 100000 → n < q → out.length ≤ 60 →
    ∃ p, script_Parse_l1 K q t out = some p ∧ okP 0 (scan [] t out) p
  | n, [], q+1, out, _, _, _, _ => by
    rw [script_Parse_l1, show (!(([] : Str) == [])) = false from rfl, ifF, hK]
    exact ⟨_, rfl, rfl, rfl, rfl⟩
  | n+1, x :: t, q+1, out, hn, hm, hq, ho => by
    rw [script_Parse_l1, show (!((x :: t) == [])) = true from rfl, ifT]
    simp only [List.length_cons] at hn
    have hl := cutAt_len 10 (x :: t)
    have hb := cutAt_back 10 (x :: t)
    rw [cut_one' 10 (by simp; omega), bindS, scan_cut (x :: t) [] out]
    simp only [List.nil_append, List.length_cons] at hl ⊢
    obtain ⟨c, b, h1, h0, h2, h3⟩ := script_cmd (s := (cutAt 10 (x :: t)).1) (by omega)
    rw [h1, bindS]
    have hfail : ∀ r : Res, r = bad out → ∃ p, ((ck ((out.length : Int) + 1)).bind fun v9 => some (([] : List script_Command), v9, (some (337 : Int)))) = some p ∧ okP 0 r p := fun r hr => by
      subst hr
      rw [cks (by omega), bindS]
      exact ⟨_, rfl, rfl, rfl, rfl⟩
    cases he : (cutAt 10 (x :: t)).2.2 with
    | false =>
      dsimp only
      rw [show ((((!b) || (!false)) || (decide ((4096 : Int) < ((cutAt 10 (x :: t)).1.length : Int)))) || (decide ((out.length : Int) = 60))) = true by simp, ifT]
      refine hfail _ ?_
      rw [ifF]
      rw [he, ifF] at hb
      rw [if_neg (by rw [← hb]; simp)]
    | true =>
      rw [he, ifT] at hb
      have hlen : (cutAt 10 (x :: t)).2.1.length ≤ n := by
        have := congrArg List.length hb
        simp at this; omega
      rw [ifT]
      cases hbb : b with
      | false =>
        subst hbb
        rw [h3 rfl]
        dsimp only
        rw [show ((((!false) || (!true)) || (decide ((4096 : Int) < ((cutAt 10 (x :: t)).1.length : Int)))) || (decide ((out.length : Int) = 60))) = true by simp, ifT]
        exact hfail _ rfl
      | true =>
        subst hbb
        rw [h2 rfl]
        dsimp only
        by_cases hc : (cutAt 10 (x :: t)).1.length ≤ 4096 ∧ out.length < 60
        · rw [show ((((!true) || (!true)) || (decide ((4096 : Int) < ((cutAt 10 (x :: t)).1.length : Int)))) || (decide ((out.length : Int) = 60))) = false by
            rw [decide_eq_false (by omega), decide_eq_false (by omega)]; rfl, ifF, if_pos hc, app_of (by simp; omega) (by simp; omega), bindS]
          exact parse_loop K hK n _ q (out ++ [c]) hlen (by omega) (by omega) (by simp; omega)
        · rw [show ((((!true) || (!true)) || (decide ((4096 : Int) < ((cutAt 10 (x :: t)).1.length : Int)))) || (decide ((out.length : Int) = 60))) = true by
            rcases Nat.lt_or_ge 4096 (cutAt 10 (x :: t)).1.length with h | h
            · rw [decide_eq_true (by omega)]; simp
            · rw [decide_eq_true (show (out.length : Int) = 60 by omega)]; simp, ifT, if_neg hc]
          exact hfail _ rfl
  | _, [], 0, _, _, _, hq, _ => by omega
  | _, _ :: _, 0, _, _, _, hq, _ => by omega
  | 0, _ :: _, _+1, _, hn, _, _, _ => by simp at hn
def parseF (t : Str) : Res := if 65536 < t.length then ([], 0, 4) else scan [] t []
theorem script_parse (t : Str) : ∃ p, script_Parse t = some p ∧ okP 0 (parseF t) p := by
  unfold script_Parse parseF
  by_cases h : 65536 < t.length
  · rw [decide_eq_true (by omega), ifT, if_pos h]; exact ⟨_, rfl, rfl, rfl, rfl⟩
  · rw [decide_eq_false (by omega), ifF, if_neg h, letK_e]
    exact parse_loop (fun v16 => some (v16, 0, none)) (fun _ => rfl) t.length t fuel [] (Nat.le_refl _) (by omega) (Nat.lt_of_le_of_lt (show t.length ≤ 65536 by omega) (by decide)) (by simp)
/-! ### The document's -/
def okR (r : Res) (p : List ref30_Command × Int × Int) : Prop := p.1.map toC = r.1 ∧ p.2.1 = (r.2.1 : Int) ∧ p.2.2 = (r.2.2 : Int)
theorem ref_loop (text : Str) (ht : text.length ≤ 65536) (K : List ref30_Command → Int → Option (List ref30_Command × Int × Int)) (hK : K = fun v32 v33 =>
      if (decide (v33 < (text.length : Int))) then
        (ck ((v32.length : Int) + 1)).bind fun v35 =>
        some ([], v35, 337)
      else
        some (v32, 0, 0)) : ∀ (r : Str) (j a q : Nat) (out : List ref30_Command), text.drop j = r → j ≤ text.length → a ≤ j → r.length < q → out.length ≤ 60 →
    ∃ p, ref30_Parse_l1 text K q out (a : Int) (j : Int) = some p ∧ okR (scan ((text.take j).drop a) r (out.map toC)) p
  | [], j, a, q+1, out, h, hj, ha, _, ho => by
    have : j = text.length := by have : text.length ≤ j := by simpa using h
                                 omega
    subst this
    rw [ref30_Parse_l1, ge_len, ifF, hK]
    rw [List.take_length, scan]
    dsimp only
    by_cases hc : a < text.length
    · rw [decide_eq_true (by omega), ifT, if_neg (by simp; omega), cks (by omega), bindS]
      exact ⟨_, rfl, rfl, by simp [bad], rfl⟩
    · rw [decide_eq_false (by omega), ifF, if_pos (by simp; omega)]
      exact ⟨_, rfl, rfl, rfl, rfl⟩
  | x :: r, j, a, q+1, out, h, hj, ha, hq, ho => by
    obtain ⟨e1, e2, e3⟩ := getDrop h
    rw [ref30_Parse_l1, lt_len e3, ifT, letK_e, sIdx_at h, bindS]
    have htk : ∀ a, a ≤ j → (text.take (j + 1)).drop a = (text.take j).drop a ++ [x] := fun a ha => by
      rw [List.take_add_one, e1, List.drop_append_of_le_length (by simp; omega)]; rfl
    rw [scan_cons]
    by_cases hx : x = 10
    · subst hx
      rw [if_pos rfl, show (!decide ((((10 : UInt8).toNat : Nat) : Int) = 10)) = false from rfl, ifF, sub_nat ha hj, bindS]
      have hcl : ((text.take j).drop a).length = j - a := by simp; omega
      obtain ⟨c, b, h1, h2, h3⟩ := ref_cmd (s := (text.take j).drop a) (by omega)
      rw [h1, bindS]
      have hfail : ∃ p, ((ck ((out.length : Int) + 1)).bind fun v22 => some (([] : List ref30_Command), v22, (337 : Int))) = some p ∧ okR (bad (out.map toC)) p := by
        rw [cks (by omega), bindS]; exact ⟨_, rfl, rfl, by simp [bad], rfl⟩
      cases hbb : b with
      | false =>
        subst hbb
        rw [h3 rfl]
        dsimp only
        rw [show (!false) = true from rfl, ifT, bindS, ifT]
        exact hfail
      | true =>
        subst hbb
        rw [h2 rfl]
        dsimp only
        rw [show (!true) = false from rfl, ifF, ck_of (by omega) (by omega), bindS]
        by_cases hl : j - a ≤ 4096
        · rw [decide_eq_false (by omega), ifF, bindS]
          by_cases ho2 : out.length < 60
          · rw [decide_eq_false (by omega), ifF, if_pos ⟨by omega, by simpa using ho2⟩, app_of (by simp; omega) (by simp; omega), bindS, cks (by omega), bindS, bindS]
            have := ref_loop text ht K hK r (j+1) (j+1) q (out ++ [c]) e2 (by omega) (by omega) (by simp at hq; omega) (by simp; omega)
            have hz : (text.take (j+1)).drop (j+1) = [] := by simp
            rw [hz] at this
            simpa using this
          · rw [decide_eq_true (by omega), ifT, if_neg (by simp; omega)]
            exact hfail
        · rw [decide_eq_true (by omega), ifT, bindS, ifT, if_neg (by omega)]
          exact hfail
    · rw [if_neg hx, show (!decide ((x.toNat : Int) = 10)) = true by rw [show decide (((x.toNat : Nat) : Int) = 10) = false from u8ne hx]; rfl, ifT]
      dsimp only
      rw [cks (by omega), bindS, ← htk a ha]
      exact ref_loop text ht K hK r (j+1) a q out e2 (by omega) (by omega) (by simp at hq; omega) ho
  | [], _, _, 0, _, _, _, _, hq, _ => by omega
  | _ :: _, _, _, 0, _, _, _, _, hq, _ => by omega
theorem ref_parse (t : Str) : ∃ p, ref30_Parse t = some p ∧ okR (parseF t) p := by
  unfold ref30_Parse parseF
  by_cases h : 65536 < t.length
  · rw [decide_eq_true (by omega), ifT, if_pos h]; exact ⟨_, rfl, rfl, rfl, rfl⟩
  · rw [decide_eq_false (by omega), ifF, if_neg h, letK_e]
    have := ref_loop t (by omega) _ rfl t 0 0 fuel [] rfl (by omega) (by omega) (Nat.lt_of_le_of_lt (show t.length ≤ 65536 by omega) (by decide)) (by simp)
    exact this
end Go.Cq

