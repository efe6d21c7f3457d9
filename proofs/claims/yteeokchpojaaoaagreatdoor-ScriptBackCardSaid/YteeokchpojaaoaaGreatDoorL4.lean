import Derived.Test.YteeokchpojaaoaaGreatDoorLS
set_option linter.unusedSectionVars false
set_option linter.unusedVariables false
set_option linter.unusedSimpArgs false
set_option maxRecDepth 100000
set_option linter.unusedVariables false
set_option linter.unusedSimpArgs false
namespace Go.Cq
open Go Go.Av

theorem give_loop (c : ref30_Command) (hv : c.V.length ≤ 1000000) : ∀ (r : List ref11_Val) (j q : Nat), c.V.drop j = r → j ≤ c.V.length → r.length < q → law30_give_l1 c q (j : Int) ((c.V.take j).map toV) = some (c.V.map toV)
  | [], j, q+1, h, hj, _ => by
    have : j = c.V.length := by have : c.V.length ≤ j := by simpa using h
                                omega
    subst this
    rw [law30_give_l1, ge_len, ifF, List.take_length]
  | x :: r, j, q+1, h, hj, hq => by
    obtain ⟨e1, e2, e3⟩ := getDrop h
    rw [law30_give_l1, lt_len e3, ifT, lAt_nat e1, bindS, app_of (by simp; omega) (by simp; omega), bindS, cks (by omega), bindS]
    have : (c.V.take j).map toV ++ [api_Val.mk x.K x.N x.L] = (c.V.take (j+1)).map toV := by rw [List.take_add_one, e1]; simp [toV]
    rw [this]
    exact give_loop c hv r (j+1) q e2 (by omega) (by simp at hq; omega)
  | [], _, 0, _, _, hq => by omega
  | _ :: _, _, 0, _, _, hq => by omega
theorem give_eq {c : ref30_Command} (hn : c.N.length ≤ 1000000) (hv : c.V.length ≤ 1000000) : law30_give c = some (toC c) := by
  unfold law30_give
  rw [app_of (by simp; omega) (by simp; omega), bindS]
  have := give_loop c hv c.V 0 fuel rfl (by omega) (Nat.lt_of_le_of_lt hv (by decide))
  have h2 : law30_give_l1 c fuel 0 [] = some (c.V.map toV) := this
  rw [h2, bindS]; rfl
theorem same_l1 (a : script_Command) (h : a.N.length ≤ 1000000) (K : Unit → Option Bool) : ∀ (r : List Int) (j q : Nat), a.N.drop j = r → j ≤ a.N.length → r.length < q → law30_same_l1 a a K q (j : Int) = K ()
  | [], j, q+1, h', hj, _ => by
    have : j = a.N.length := by have : a.N.length ≤ j := by simpa using h'
                                omega
    subst this
    rw [law30_same_l1, ge_len, ifF]
  | x :: r, j, q+1, h', hj, hq => by
    obtain ⟨e1, e2, e3⟩ := getDrop h'
    rw [law30_same_l1, lt_len e3, ifT, lAt_nat e1, bindS, bindS, decide_eq_true rfl, show (!true) = false from rfl, ifF, cks (by omega), bindS]
    exact same_l1 a h K r (j+1) q e2 (by omega) (by simp at hq; omega)
  | [], _, 0, _, _, hq => by omega
  | _ :: _, _, 0, _, _, hq => by omega
theorem same_l2 (a : script_Command) (h : a.V.length ≤ 1000000) (K : Unit → Option Bool) : ∀ (r : List api_Val) (j q : Nat), a.V.drop j = r → j ≤ a.V.length → r.length < q → law30_same_l2 a a K q (j : Int) = K ()
  | [], j, q+1, h', hj, _ => by
    have : j = a.V.length := by have : a.V.length ≤ j := by simpa using h'
                                omega
    subst this
    rw [law30_same_l2, ge_len, ifF]
  | x :: r, j, q+1, h', hj, hq => by
    obtain ⟨e1, e2, e3⟩ := getDrop h'
    rw [law30_same_l2, lt_len e3, ifT, lAt_nat e1, bindS, bindS, decide_eq_true rfl, decide_eq_true rfl, decide_eq_true rfl, show (!(true && (true && true))) = false from rfl, ifF, cks (by omega), bindS]
    exact same_l2 a h K r (j+1) q e2 (by omega) (by simp at hq; omega)
  | [], _, 0, _, _, hq => by omega
  | _ :: _, _, 0, _, _, hq => by omega
theorem same_eq {a : script_Command} (hn : a.N.length ≤ 1000000) (hv : a.V.length ≤ 1000000) : law30_same a a = some true := by
  unfold law30_same
  rw [show (((((!(a.Name == a.Name)) || (!(a.W == a.W))) || (!(a.S == a.S))) || (!decide ((a.N.length : Int) = (a.N.length : Int)))) || (!decide ((a.V.length : Int) = (a.V.length : Int)))) = false by simp, ifF, letK_e]
  have h1 := same_l1 a hn (fun _ => letK (fun (_ : Unit) => some true) fun (K14 : (Unit → Option Bool)) => law30_same_l2 a a K14 fuel 0) a.N 0 fuel rfl (by omega) (Nat.lt_of_le_of_lt hn (by decide))
  have h2 := same_l2 a hv (fun _ => some true) a.V 0 fuel rfl (by omega) (Nat.lt_of_le_of_lt hv (by decide))
  refine Eq.trans h1 ?_
  rw [letK_e]; exact h2
/-- What comes of a line. -/
def Good (c : Cmd) : Prop := ∃ s : Str, s.length ≤ 4096 ∧ cmdF s = some c
theorem Good.len {c : Cmd} (h : Good c) : c.N.length + c.V.length ≤ 200000 := by
  obtain ⟨s, h1, h2⟩ := h
  obtain ⟨c', b, g1, g2, g3, g4⟩ := script_cmd (s := s) (by omega)
  cases b with
  | false => rw [g4 rfl] at h2; cases h2
  | true => rw [g3 rfl] at h2; injection h2 with h2; subst h2; exact g2
theorem scan_good : ∀ (r cur : Str) (out : List Cmd), (∀ c, c ∈ out → Good c) → ∀ c, c ∈ (scan cur r out).1 → Good c
  | [], cur, out, h, c, hc => by
    unfold scan at hc
    split at hc
    · exact h c hc
    · simp [bad] at hc
  | x :: r, cur, out, h, c, hc => by
    rw [scan_cons] at hc
    split at hc
    · split at hc
      · rename_i c' e
        split at hc
        · rename_i hl
          exact scan_good r [] (out ++ [c']) (fun z hz => by
            rcases List.mem_append.1 hz with hz | hz
            · exact h z hz
            · simp at hz; subst hz; exact ⟨cur, hl.1, e⟩) c hc
        · simp [bad] at hc
      · simp [bad] at hc
    · exact scan_good r (cur ++ [x]) out h c hc
theorem parse_good (t : Str) : ∀ c, c ∈ (parseF t).1 → Good c := by
  unfold parseF
  split
  · intro c hc; simp at hc
  · exact scan_good t [] [] (by simp)
theorem reads_loop (v2 : List script_Command × Int × Option Int) (v3 : List ref30_Command × Int × Int) (hs : v3.1.map toC = v2.1) (hg : ∀ c, c ∈ v2.1 → Good c) (hl : v2.1.length ≤ 1000000) (K : Unit → Option Bool) : ∀ (r : List script_Command) (j q : Nat), v2.1.drop j = r → j ≤ v2.1.length → r.length < q → law30_ScriptReads_l1 v2 v3 K q (j : Int) = K ()
  | [], j, q+1, h', hj, _ => by
    have : j = v2.1.length := by have : v2.1.length ≤ j := by simpa using h'
                                 omega
    subst this
    rw [law30_ScriptReads_l1, ge_len, ifF]
  | x :: r, j, q+1, h', hj, hq => by
    obtain ⟨e1, e2, e3⟩ := getDrop h'
    have hx := (hg x (List.mem_of_getElem? e1)).len
    have h3 : ∃ y, v3.1[j]? = some y ∧ toC y = x := by
      rw [← hs, List.getElem?_map] at e1
      cases hy : v3.1[j]? with
      | none => rw [hy] at e1; cases e1
      | some y => rw [hy] at e1; exact ⟨y, rfl, by simpa using e1⟩
    obtain ⟨y, hy, rfl⟩ := h3
    have hx' : y.N.length + y.V.length ≤ 200000 := by simpa [toC] using hx
    rw [law30_ScriptReads_l1, lt_len e3, ifT, lAt_nat e1, bindS, lAt_nat hy, bindS, give_eq (by omega) (by omega), bindS, same_eq (by omega) (by omega), bindS, show (!true) = false from rfl, ifF, cks (by omega), bindS]
    exact reads_loop v2 v3 hs hg hl K r (j+1) q e2 (by omega) (by simp at hq; omega)
  | [], _, 0, _, _, hq => by omega
  | _ :: _, _, 0, _, _, hq => by omega
theorem scan_len : ∀ (r cur : Str) (out : List Cmd), out.length ≤ 60 → (scan cur r out).1.length ≤ 60
  | [], cur, out, h => by
    unfold scan
    split
    · exact h
    · simp [bad]
  | x :: r, cur, out, h => by
    rw [scan_cons]
    split
    · split
      · split
        · rename_i hl; exact scan_len r [] _ (by simp; omega)
        · simp [bad]
      · simp [bad]
    · exact scan_len r _ out h
theorem parse_len (t : Str) : (parseF t).1.length ≤ 60 := by
  unfold parseF
  split
  · simp
  · exact scan_len t [] [] (by simp)
theorem num_of {e : Option Int} {n : Nat} (h : e = if n = 0 then none else some (n : Int)) : law_num e = some (n : Int) := by
  subst h
  by_cases hn : n = 0
  · subst hn; rfl
  · rw [if_neg hn]; rfl
theorem scriptReads (text : Str) : law30_ScriptReads text = some true := by
  unfold law30_ScriptReads
  by_cases h : 70000 < text.length
  · rw [decide_eq_true (by omega), ifT, sure_ok, bindS]
  · obtain ⟨p, h1, h2, h3, h4⟩ := script_parse text
    obtain ⟨m, g1, g2, g3, g4⟩ := ref_parse text
    have hl := parse_len text
    have hg := parse_good text
    rw [decide_eq_false (by omega), ifF, h1, bindS, g1, bindS, num_of h4, bindS, g4, h3, g3]
    have hlen : p.1.length = m.1.length := by rw [h2, ← g2]; simp
    rw [decide_eq_true rfl, decide_eq_true rfl, hlen, decide_eq_true rfl]
    rw [show (!true) = false from rfl, ifF, ifF, bindS, ifF, letK_e]
    rw [← h2] at hg hl
    have := reads_loop p m (by rw [g2, h2]) hg (by omega) (fun _ => (law30_sure).bind fun v22 => some v22) p.1 0 fuel rfl (by omega) (Nat.lt_of_le_of_lt hl (by decide))
    refine Eq.trans this ?_
    rw [sure_ok, bindS]
end Go.Cq

