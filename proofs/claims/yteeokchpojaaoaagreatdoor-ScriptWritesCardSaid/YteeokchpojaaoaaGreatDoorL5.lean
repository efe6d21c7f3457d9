import Derived.Test.YteeokchpojaaoaaGreatDoorLS
import Derived.Test.YteeokchpojaaoaaGreatDoorL4
import Derived.Test.YteeokchpojaaoaaGreatDoorL2
set_option linter.unusedSectionVars false
set_option linter.unusedVariables false
set_option linter.unusedSimpArgs false
set_option maxRecDepth 100000
set_option linter.unusedVariables false
set_option linter.unusedSimpArgs false
namespace Go.Cq
open Go Go.Av

/-! ### What a command's line is -/
def inR (n : Int) : Prop := -9223372036854775808 ≤ n ∧ n ≤ 9223372036854775807
def okC (c : Cmd) : Prop := (∀ n, n ∈ c.N → inR n) ∧ ∀ v, v ∈ c.V → inR v.N
def mayA (v : api_Val) : Bool := mayV v.K v.N v.L
def valA (v : api_Val) : Str := valT v.K v.N v.L
def tkN (c : Cmd) (ns : List Int) : Cmd := ⟨c.Name, ns, c.V, c.W, c.S⟩
def tkV (c : Cmd) (vs : List api_Val) : Cmd := ⟨c.Name, c.N, vs, c.W, c.S⟩
def wpart (k : UInt8) (c : Cmd) : Option (List Str × Cmd) :=
  if k = 105 then (match c.N with
    | [] => none
    | n :: ns => some ([Lib.itoa n], tkN c ns))
  else if k = 42 then some (c.N.map Lib.itoa, tkN c [])
  else if k = 118 then (match c.V with
    | [] => none
    | v :: vs => if mayA v = true then some ([valA v], tkV c vs) else none)
  else if k = 86 then (if c.V.all mayA = true then some (c.V.map valA, tkV c []) else none)
  else if k = 119 then some ([c.W], setW c [])
  else some ([c.S], setS c [])
def noNL (s : Str) : Bool := !s.any (· == 10)
/-- A word, or a text, that may not be. -/
def badWS (k : UInt8) (c : Cmd) : Bool := if k = 119 then !wordB c.W else if k = 115 then !noNL c.S else false
/-- The pieces of a command by its form, what is left of it, and whether a word or a text in it may not be. -/
def wrF : Str → Cmd → Option (List Str × Cmd × Bool)
  | [], c => some ([], c, false)
  | k :: f, c => (wpart k c).bind fun x => (wrF f x.2).bind fun y => some (x.1 ++ y.1, y.2.1, badWS k c || y.2.2)
def lineF (c : Cmd) : Str × Nat := if (formF c.Name).2 = true then (match wrF (formF c.Name).1 c with
    | some (ps, c', b) => if b = false ∧ c'.N = [] ∧ c'.V = [] ∧ c'.W = [] ∧ c'.S = [] then
        (if 4096 < (Lib.join (c.Name :: ps) [32]).length then ([], 4) else (Lib.join (c.Name :: ps) [32], 0)) else ([], 1)
    | none => ([], 1)) else ([], 1)

/-! ### The program's writer -/
def Bw (M : Nat) (w : script_writer) : Prop := tot w.parts + 60 * (w.c.N.length + w.c.V.length) + w.c.W.length + w.c.S.length ≤ M ∧ okC w.c
theorem Bw.mono {M M' : Nat} {w : script_writer} (h : Bw M w) (hm : M ≤ M') : Bw M' w := ⟨Nat.le_trans h.1 hm, h.2⟩
theorem tot_snoc (ps : List Str) (p : Str) : tot (ps ++ [p]) = tot ps + (p.length + 1) := by rw [tot_app]; simp [tot]
theorem valT_len (K N L : Int) (h : mayV K N L = true) (hN : inR N) : (valT K N L).length ≤ 50 := by
  have hk := (mayV_K h)
  have h1 := itoa21 hN.1 hN.2
  have h2 := itoa21 (n := L) (by omega) (by omega)
  unfold valT valS
  simp only [List.length_append, List.length_singleton]
  repeat' split
  all_goals (simp; try omega)
def Wok (m : Option (List Str × Cmd)) (parts : List Str) (w : Bool) (r : script_writer) : Prop := match m with
  | some x => r = ⟨x.2, parts ++ x.1, w⟩
  | none => r.wrong = true
theorem wnumber (c : Cmd) (parts : List Str) (w : Bool) {M : Nat} (hM : M ≤ 10000000) (hb : Bw M ⟨c, parts, w⟩) :
    ∃ r, script_writer_number ⟨c, parts, w⟩ = some r ∧ Bw M r ∧ (w = true → r.wrong = true) ∧ Wok (wpart 105 c) parts w r ∧ (c.N ≠ [] → r.c.N = c.N.tail) := by
  obtain ⟨hb1, hb2⟩ := hb
  dsimp only at hb1 hb2
  have htl := tot_len parts
  unfold script_writer_number wpart
  rw [if_pos rfl]
  dsimp only
  cases hN : c.N with
  | nil =>
    rw [show decide ((([] : List Int).length : Int) = 0) = true from rfl, ifT]
    exact ⟨_, rfl, ⟨by dsimp only; exact hb1, hb2⟩, fun _ => rfl, rfl, fun h => absurd rfl h⟩
  | cons n ns =>
    rw [hN] at hb1
    simp only [List.length_cons] at hb1
    have hr := hb2.1 n (by rw [hN]; simp)
    have hi := itoa21 hr.1 hr.2
    rw [decide_eq_false (by simp; omega), ifF, lAt0, bindS, show strconv_Itoa n = some (Lib.itoa n) from rfl, bindS, app_of (by simp; omega) (by simp; omega), bindS, sub1, bindS]
    refine ⟨_, rfl, ⟨?_, ⟨fun m hm => hb2.1 m (by rw [hN]; simp [hm]), hb2.2⟩⟩, fun h => h, rfl, fun _ => rfl⟩
    dsimp only
    rw [tot_snoc]; omega
theorem wvalue (c : Cmd) (parts : List Str) (w : Bool) {M : Nat} (hM : M ≤ 10000000) (hb : Bw M ⟨c, parts, w⟩) :
    ∃ r, script_writer_value ⟨c, parts, w⟩ = some r ∧ Bw M r ∧ (w = true → r.wrong = true) ∧ Wok (wpart 118 c) parts w r ∧ (c.V ≠ [] → r.c.V = c.V.tail) := by
  obtain ⟨hb1, hb2⟩ := hb
  dsimp only at hb1 hb2
  have htl := tot_len parts
  have hwp : wpart 118 c = (match c.V with
    | [] => none
    | v :: vs => if mayA v = true then some ([valA v], tkV c vs) else none) := rfl
  rw [hwp]
  unfold script_writer_value
  dsimp only
  cases hV : c.V with
  | nil =>
    rw [show decide ((([] : List api_Val).length : Int) = 0) = true from rfl, ifT]
    exact ⟨_, rfl, ⟨by dsimp only; exact hb1, hb2⟩, fun _ => rfl, rfl, fun h => absurd rfl h⟩
  | cons v vs =>
    rw [hV] at hb1
    simp only [List.length_cons] at hb1
    have hr := hb2.2 v (by rw [hV]; simp)
    rw [decide_eq_false (by simp; omega), ifF, lAt0, bindS, script_val v hr, bindS]
    have hcm : mayA v = mayV v.K v.N v.L := rfl
    have hcv : valA v = valT v.K v.N v.L := rfl
    cases hm : mayV v.K v.N v.L with
    | true =>
      have hl := valT_len _ _ _ hm hr
      rw [if_pos rfl]
      dsimp only
      rw [orW2, bindS, app_of (by simp; omega) (by simp; omega), bindS, sub1, bindS]
      refine ⟨_, rfl, ⟨?_, ⟨hb2.1, fun m hm => hb2.2 m (by rw [hV]; simp [hm])⟩⟩, fun h => by rw [h]; rfl, ?_, fun _ => rfl⟩
      · dsimp only; rw [tot_snoc]; omega
      · rw [hcm, hm, if_pos rfl]
        simp [Wok, tkV, hcv]
    | false =>
      rw [if_neg (show ¬ (false = true) by simp)]
      dsimp only
      rw [orW2, bindS, app_of (by simp; omega) (by simp; omega), bindS, sub1, bindS]
      refine ⟨_, rfl, ⟨?_, ⟨hb2.1, fun m hm => hb2.2 m (by rw [hV]; simp [hm])⟩⟩, fun h => by rw [h]; rfl, ?_, fun _ => rfl⟩
      · dsimp only; rw [tot_snoc]; simp; omega
      · rw [hcm, hm, if_neg (by simp)]
        simp [Wok]
theorem wstar {M : Nat} (hM : M ≤ 10000000) : ∀ (ns : List Int) (q : Nat) (c : Cmd) (parts : List Str) (w : Bool), c.N = ns → Bw M ⟨c, parts, w⟩ → ns.length < q →
    ∃ r, script_writer_part_l1 q ⟨c, parts, w⟩ = some r ∧ Bw M r ∧ (w = true → r.wrong = true) ∧ Wok (some (ns.map Lib.itoa, tkN c [])) parts w r
  | [], q+1, c, parts, w, hc, hb, _ => by
    rw [script_writer_part_l1]
    dsimp only
    rw [hc, show decide ((0 : Int) < (([] : List Int).length : Int)) = false from rfl, ifF]
    refine ⟨_, rfl, hb, fun h => h, ?_⟩
    simp [Wok, tkN, ← hc]
  | n :: ns, q+1, c, parts, w, hc, hb, hq => by
    rw [script_writer_part_l1]
    dsimp only
    rw [hc, decide_eq_true (by simp <;> omega), ifT]
    obtain ⟨r, h1, h2, h3, h4, h5⟩ := wnumber c parts w hM hb
    rw [h1, bindS]
    unfold wpart at h4
    rw [if_pos rfl, hc] at h4
    simp only [Wok] at h4
    subst h4
    obtain ⟨r2, g1, g2, g3, g4⟩ := wstar hM ns q (tkN c ns) (parts ++ [Lib.itoa n]) w rfl h2 (by simp at hq; omega)
    refine ⟨r2, g1, g2, g3, ?_⟩
    simp only [Wok] at g4 ⊢
    rw [g4]; simp [tkN]
  | [], 0, _, _, _, _, _, hq => by omega
  | _ :: _, 0, _, _, _, _, _, hq => by omega
theorem wstarV {M : Nat} (hM : M ≤ 10000000) : ∀ (vs : List api_Val) (q : Nat) (c : Cmd) (parts : List Str) (w : Bool), c.V = vs → Bw M ⟨c, parts, w⟩ → vs.length < q →
    ∃ r, script_writer_part_l2 q ⟨c, parts, w⟩ = some r ∧ Bw M r ∧ (w = true → r.wrong = true) ∧ Wok (if vs.all mayA = true then some (vs.map valA, tkV c []) else none) parts w r
  | [], q+1, c, parts, w, hc, hb, _ => by
    rw [script_writer_part_l2]
    dsimp only
    rw [hc, show decide ((0 : Int) < (([] : List api_Val).length : Int)) = false from rfl, ifF]
    refine ⟨_, rfl, hb, fun h => h, ?_⟩
    rw [if_pos (show ([] : List api_Val).all mayA = true from rfl)]
    simp [Wok, tkV, ← hc]
  | n :: ns, q+1, c, parts, w, hc, hb, hq => by
    rw [script_writer_part_l2]
    dsimp only
    rw [hc, decide_eq_true (by simp <;> omega), ifT]
    obtain ⟨r, h1, h2, h3, h4, h5⟩ := wvalue c parts w hM hb
    rw [h1, bindS]
    have h5' := h5 (by rw [hc]; simp)
    rw [hc] at h5'
    obtain ⟨c', parts', w'⟩ := r
    dsimp only [List.tail_cons] at h5'
    obtain ⟨r2, g1, g2, g3, g4⟩ := wstarV hM ns q c' parts' w' h5' h2 (by simp at hq; omega)
    refine ⟨r2, g1, g2, fun h => g3 (h3 h), ?_⟩
    unfold wpart at h4
    rw [if_neg (by decide), if_neg (by decide), if_pos rfl, hc] at h4
    dsimp only at h4
    cases hm : mayA n with
    | true =>
      rw [hm, if_pos rfl] at h4
      simp only [Wok] at h4
      injection h4 with e1 e2 e3
      subst e1; subst e2; subst e3
      simp only [List.all_cons, hm, Bool.true_and, List.map_cons]
      cases ha : ns.all mayA with
      | true =>
        rw [ha, if_pos rfl] at g4
        simp only [Wok, if_pos] at g4 ⊢
        rw [g4]; simp [tkV]
      | false =>
        rw [ha, if_neg (by simp)] at g4
        simp only [Wok] at g4 ⊢
        rw [if_neg (by simp)]
        exact g4
    | false =>
      rw [hm, if_neg (by simp)] at h4
      simp only [List.all_cons, hm, Bool.false_and]
      rw [if_neg (by simp)]
      exact g3 h4
  | [], 0, _, _, _, _, _, hq => by omega
  | _ :: _, 0, _, _, _, _, _, hq => by omega
theorem idx_any (s : Str) : decide ((0 : Int) ≤ idxB s 10) = s.any (· == 10) := by
  letI : Lay := ⟨fun _ _ _ => False, fun _ _ => False, fun _ _ => False⟩
  rw [idxB_spec]
  cases h : s.findIdx? (· == 10) with
  | none =>
    rw [List.findIdx?_eq_none_iff] at h
    have : s.any (· == 10) = false := by
      rw [List.any_eq_false]; intro x hx; simpa using h x hx
    rw [this]; rfl
  | some i =>
    have : s.any (· == 10) = true := by
      rw [List.findIdx?_eq_some_iff_getElem] at h
      obtain ⟨hlt, h1, _⟩ := h
      exact List.any_eq_true.2 ⟨s[i], List.getElem_mem hlt, h1⟩
    rw [this]
    exact decide_eq_true (Int.natCast_nonneg i)
theorem wpart_spec (k : UInt8) (hk : isLt k = true) (c : Cmd) (parts : List Str) (w : Bool) {M : Nat} (hM : M ≤ 1000000) (hb : Bw M ⟨c, parts, w⟩) :
    ∃ r, script_writer_part ⟨c, parts, w⟩ (k.toNat : Int) = some r ∧ Bw (M + 1) r ∧ (w = true → r.wrong = true) ∧ Wok (wpart k c) parts (w || badWS k c) r := by
  obtain ⟨hb1, hb2⟩ := hb
  dsimp only at hb1 hb2
  have htl := tot_len parts
  unfold script_writer_part
  simp only [bindId]
  by_cases h1 : k = 105
  · subst h1
    obtain ⟨r, g1, g2, g3, g4, _⟩ := wnumber c parts w (by omega) ⟨hb1, hb2⟩
    rw [show decide ((((105 : UInt8).toNat : Nat) : Int) = 105) = true from rfl, ifT]
    exact ⟨r, g1, g2.mono (by omega), g3, by rw [show badWS 105 c = false from rfl, Bool.or_false]; exact g4⟩
  rw [show decide (((k.toNat : Nat) : Int) = 105) = false from u8ne h1, ifF]
  by_cases h2 : k = 42
  · subst h2
    obtain ⟨r, g1, g2, g3, g4⟩ := wstar (M := M) (by omega) c.N fuel c parts w rfl ⟨hb1, hb2⟩ (len_fuel (by omega))
    rw [show decide ((((42 : UInt8).toNat : Nat) : Int) = 42) = true from rfl, ifT]
    refine ⟨r, g1, g2.mono (by omega), g3, ?_⟩
    rw [show badWS 42 c = false from rfl, Bool.or_false]
    unfold wpart
    rw [if_neg h1, if_pos rfl]; exact g4
  rw [show decide (((k.toNat : Nat) : Int) = 42) = false from u8ne h2, ifF]
  by_cases h3 : k = 118
  · subst h3
    obtain ⟨r, g1, g2, g3, g4, _⟩ := wvalue c parts w (by omega) ⟨hb1, hb2⟩
    rw [show decide ((((118 : UInt8).toNat : Nat) : Int) = 118) = true from rfl, ifT]
    exact ⟨r, g1, g2.mono (by omega), g3, by rw [show badWS 118 c = false from rfl, Bool.or_false]; exact g4⟩
  rw [show decide (((k.toNat : Nat) : Int) = 118) = false from u8ne h3, ifF]
  by_cases h4 : k = 86
  · subst h4
    obtain ⟨r, g1, g2, g3, g4⟩ := wstarV (M := M) (by omega) c.V fuel c parts w rfl ⟨hb1, hb2⟩ (len_fuel (by omega))
    rw [show decide ((((86 : UInt8).toNat : Nat) : Int) = 86) = true from rfl, ifT]
    refine ⟨r, g1, g2.mono (by omega), g3, ?_⟩
    rw [show badWS 86 c = false from rfl, Bool.or_false]
    unfold wpart
    rw [if_neg h1, if_neg h2, if_neg h3, if_pos rfl]; exact g4
  rw [show decide (((k.toNat : Nat) : Int) = 86) = false from u8ne h4, ifF]
  by_cases h5 : k = 119
  · subst h5
    rw [show decide ((((119 : UInt8).toNat : Nat) : Int) = 119) = true from rfl, ifT]
    rw [script_word (by omega), bindS, orW, bindS, app_of (by simp; omega) (by simp; omega), bindS]
    refine ⟨_, rfl, ⟨?_, hb2⟩, fun h => by rw [h]; rfl, ?_⟩
    · dsimp only; rw [tot_snoc]; simp; omega
    · unfold wpart
      rw [if_neg h1, if_neg h2, if_neg h3, if_neg h4, if_pos rfl]
      rfl
  rw [show decide (((k.toNat : Nat) : Int) = 119) = false from u8ne h5, ifF]
  have h6 : k = 115 := by
    unfold isLt at hk; simpa [h1, h2, h3, h4, h5] using hk
  subst h6
  rw [show decide ((((115 : UInt8).toNat : Nat) : Int) = 115) = true from rfl, ifT]
  have hx : strings_IndexByte c.S 10 = some (idxB c.S 10) := rfl
  rw [hx, bindS, orW2, idx_any, bindS, app_of (by simp; omega) (by simp; omega), bindS]
  refine ⟨_, rfl, ⟨?_, hb2⟩, fun h => by rw [h]; rfl, ?_⟩
  · dsimp only; rw [tot_snoc]; simp; omega
  · unfold wpart badWS noNL
    rw [if_neg h1, if_neg h2, if_neg h3, if_neg h4, if_neg h5, if_neg h5, if_pos rfl, Bool.not_not]
    rfl
def fin (name : Str) (m : Option (List Str × Cmd × Bool)) (parts : List Str) (is w : Bool) : Str × Nat := match m with
  | some (ps, c', b) => if is = true ∧ w = false ∧ b = false ∧ c'.N = [] ∧ c'.V = [] ∧ c'.W = [] ∧ c'.S = [] then
        (if 4096 < (Lib.join (parts ++ ps) [32]).length then ([], 4) else (Lib.join (parts ++ ps) [32], 0)) else ([], 1)
  | none => ([], 1)
theorem len0 {α : Type} {l : List α} : decide ((0 : Int) < (l.length : Int)) = false ↔ l = [] := by
  cases l with
  | nil => simp
  | cons a l => simp <;> omega
theorem line_loop (c0 : Cmd) (v1 : Str × Bool) : ∀ (f : Str) (M : Nat) (c : Cmd) (parts : List Str) (w : Bool), (∀ k, k ∈ f → isLt k = true) → M + f.length ≤ 1000000 → Bw M ⟨c, parts, w⟩ →
    ∃ r, script_Line_l1 c0 v1 f ⟨c, parts, w⟩ = some r ∧ r.1 = (fin c0.Name (wrF f c) parts v1.2 w).1 ∧ r.2 = if (fin c0.Name (wrF f c) parts v1.2 w).2 = 0 then none else some ((fin c0.Name (wrF f c) parts v1.2 w).2 : Int)
  | [], M, c, parts, w, _, hM, hb => by
    rw [script_Line_l1]
    have hj := tot_join parts
    have htl := tot_len parts
    have hb1 := hb.1
    dsimp only at hb1
    have hfin : fin c0.Name (wrF [] c) parts v1.2 w = if v1.2 = true ∧ w = false ∧ false = false ∧ c.N = [] ∧ c.V = [] ∧ c.W = [] ∧ c.S = [] then (if 4096 < (Lib.join parts [32]).length then ([], 4) else (Lib.join parts [32], 0)) else ([], 1) := by
      have := List.append_nil parts
      unfold fin wrF
      dsimp only
      rw [this]
    rw [hfin]
    by_cases hg : v1.2 = true ∧ w = false ∧ false = false ∧ c.N = [] ∧ c.V = [] ∧ c.W = [] ∧ c.S = []
    · rw [if_pos hg]
      obtain ⟨g1, g2, _, g3, g4, g5, g6⟩ := hg
      rw [g1, g2, g3, g4, g5, g6]
      rw [show ((((((!true) || false) || (decide ((0 : Int) < (([] : List Int).length : Int)))) || (decide ((0 : Int) < (([] : List api_Val).length : Int)))) || (!(([] : Str) == []))) || (!(([] : Str) == []))) = false from rfl, ifF]
      rw [show strings_Join parts [32] = some (Lib.join parts [32]) from if_pos ⟨by omega, by omega⟩, bindS]
      by_cases hl : 4096 < (Lib.join parts [32]).length
      · rw [decide_eq_true (by omega), ifT, if_pos hl]; exact ⟨_, rfl, rfl, rfl⟩
      · rw [decide_eq_false (by omega), ifF, if_neg hl]; exact ⟨_, rfl, rfl, rfl⟩
    · rw [if_neg hg]
      have : ((((((!v1.2) || w) || (decide ((0 : Int) < (c.N.length : Int)))) || (decide ((0 : Int) < (c.V.length : Int)))) || (!(c.W == []))) || (!(c.S == []))) = true := by
        cases hh : ((((((!v1.2) || w) || (decide ((0 : Int) < (c.N.length : Int)))) || (decide ((0 : Int) < (c.V.length : Int)))) || (!(c.W == []))) || (!(c.S == []))) with
        | true => rfl
        | false =>
          exfalso
          simp only [Bool.or_eq_false_iff, Bool.not_eq_false'] at hh
          obtain ⟨⟨⟨⟨⟨h1, h2⟩, h3⟩, h4⟩, h5⟩, h6⟩ := hh
          exact hg ⟨h1, h2, rfl, len0.1 h3, len0.1 h4, eq_of_beq h5, eq_of_beq h6⟩
      rw [this, ifT]
      exact ⟨_, rfl, rfl, rfl⟩
  | k :: f, M, c, parts, w, hf, hM, hb => by
    rw [script_Line_l1]
    have hk := hf k (by simp)
    have hlt : k.toNat < 128 := by
      unfold isLt at hk
      simp only [Bool.or_eq_true, beq_iff_eq] at hk
      rcases hk with ((((h | h) | h) | h) | h) | h <;> subst h <;> decide
    rw [if_pos hlt]
    simp only [List.length_cons] at hM
    obtain ⟨r, h1, h2, h3, h4⟩ := wpart_spec k hk c parts w (by omega) hb
    rw [h1, bindS]
    obtain ⟨c1, ps1, w1⟩ := r
    obtain ⟨r2, g1, g2, g3⟩ := line_loop c0 v1 f (M+1) c1 ps1 w1 (fun k hk => hf k (by simp [hk])) (by omega) h2
    refine ⟨r2, g1, ?_⟩
    have he : fin c0.Name (wrF (k :: f) c) parts v1.2 w = fin c0.Name (wrF f c1) ps1 v1.2 w1 := by
      have hcons : wrF (k :: f) c = (wpart k c).bind fun x => (wrF f x.2).bind fun y => some (x.1 ++ y.1, y.2.1, badWS k c || y.2.2) := rfl
      rw [hcons]
      cases hp : wpart k c with
      | none =>
        rw [hp] at h4
        simp only [Wok] at h4
        subst h4
        simp only [Option.bind_none, fin]
        cases wrF f c1 with
        | none => rfl
        | some y => obtain ⟨a, b, d⟩ := y; dsimp only; rw [if_neg (by rintro ⟨_, h, _⟩; cases h)]
      | some x =>
        rw [hp] at h4
        simp only [Wok] at h4
        injection h4 with e1 e2 e3
        subst e1; subst e2; subst e3
        rw [bindS]
        cases wrF f x.2 with
        | none => rfl
        | some y =>
          obtain ⟨a, b, d⟩ := y
          simp only [Option.bind_some, fin, List.append_assoc]
          have hiff : (v1.2 = true ∧ w = false ∧ (badWS k c || d) = false ∧ b.N = [] ∧ b.V = [] ∧ b.W = [] ∧ b.S = []) ↔ (v1.2 = true ∧ (w || badWS k c) = false ∧ d = false ∧ b.N = [] ∧ b.V = [] ∧ b.W = [] ∧ b.S = []) := by
            simp only [Bool.or_eq_false_iff]
            constructor
            · rintro ⟨a1, a2, ⟨a3, a4⟩, a5⟩; exact ⟨a1, ⟨a2, a3⟩, a4, a5⟩
            · rintro ⟨a1, ⟨a2, a3⟩, a4, a5⟩; exact ⟨a1, a2, ⟨a3, a4⟩, a5⟩
          by_cases hc : (v1.2 = true ∧ w = false ∧ (badWS k c || d) = false ∧ b.N = [] ∧ b.V = [] ∧ b.W = [] ∧ b.S = [])
          · rw [if_pos hc, if_pos (hiff.1 hc)]
          · rw [if_neg hc, if_neg (fun h => hc (hiff.2 h))]
    rw [he]
    exact ⟨g2, g3⟩
/-- The program's line is a command's line. -/
theorem script_line {c : Cmd} (hc : okC c) (hl : c.Name.length + 60 * (c.N.length + c.V.length) + c.W.length + c.S.length ≤ 900000) :
    ∃ r, script_Line c = some r ∧ r.1 = (lineF c).1 ∧ r.2 = if (lineF c).2 = 0 then none else some ((lineF c).2 : Int) := by
  unfold script_Line
  rw [script_form, bindS]
  obtain ⟨r, h1, h2, h3⟩ := line_loop c (formF c.Name) (formF c.Name).1 900001 c [c.Name] false (form_letters _) (by have := form_len c.Name; omega) ⟨by simp [tot]; omega, hc⟩
  have he : fin c.Name (wrF (formF c.Name).1 c) [c.Name] (formF c.Name).2 false = lineF c := by
    unfold fin lineF
    cases (formF c.Name).2 with
    | false =>
      rw [if_neg (show ¬ (false = true) by simp)]
      cases wrF (formF c.Name).1 c with
      | none => rfl
      | some y => obtain ⟨a, b, d⟩ := y; dsimp only; rw [if_neg (by rintro ⟨h, _⟩; cases h)]
    | true =>
      rw [if_pos rfl]
      cases wrF (formF c.Name).1 c with
      | none => rfl
      | some y =>
        obtain ⟨a, b, d⟩ := y
        simp
  rw [he] at h2 h3
  exact ⟨r, h1, h2, h3⟩
end Go.Cq

set_option maxRecDepth 100000
set_option linter.unusedVariables false
set_option linter.unusedSimpArgs false
namespace Go.Cq
open Go Go.Av

/-! ### The document's writer -/
def cur (c : ref30_Command) (n v : Nat) (w r : Bool) : Cmd := ⟨c.Name, c.N.drop n, (c.V.drop v).map toV, if w = true then [] else c.W, if r = true then [] else c.S⟩
theorem join_snoc (x : Str) (ps : List Str) (p : Str) : Lib.join (x :: (ps ++ [p])) [32] = Lib.join (x :: ps) [32] ++ (32 :: p) := by
  rw [Lib.join_cons, Lib.join_cons]
  simp [Lib.joinTail]
def sz (c : Cmd) : Nat := 60 * (c.N.length + c.V.length) + c.W.length + c.S.length
theorem drop_lt {α : Type} {l : List α} {n : Nat} {x : α} {r : List α} (h : l.drop n = x :: r) : n < l.length := (getDrop h).2.2
theorem lw2_step (c : ref30_Command) (k : UInt8) (nm : Str) (ps : List Str) (n j q : Nat) (x : Int) (ns : List Int) (hd : c.N.drop n = x :: ns) (hx : inR x) (hl : c.N.length ≤ 1000000) (hj : j ≤ 1000000) (hs : tot (nm :: ps) ≤ 10000000) (hk : k = 42 ∨ j = 0) :
    ref30_Line_l2 c (k.toNat : Int) (q+1) (Lib.join (nm :: ps) [32]) (n : Int) (j : Int) = ref30_Line_l2 c (k.toNat : Int) q (Lib.join (nm :: (ps ++ [Lib.itoa x])) [32]) ((n + 1 : Nat) : Int) ((j + 1 : Nat) : Int) := by
  obtain ⟨e1, e2, e3⟩ := getDrop hd
  have hj' := tot_join (nm :: ps)
  have hi := itoa21 hx.1 hx.2
  rw [ref30_Line_l2]
  have hc : ((decide ((n : Int) < (c.N.length : Int))) && ((decide ((k.toNat : Int) = 42)) || (decide ((j : Int) < 1)))) = true := by
    rw [lt_len e3]
    rcases hk with rfl | rfl
    · rfl
    · simp
  rw [hc, ifT, lAt_nat e1, bindS, digits_itoa x hx.1 hx.2, bindS, cat_of (by simp; omega), bindS, cat_of (by simp; omega), bindS, cks (by omega), bindS, cks (by omega), bindS, join_snoc]
  rfl
theorem lw2_star (c : ref30_Command) (hN : ∀ n, n ∈ c.N → inR n) (hl : c.N.length ≤ 100000) (nm : Str) : ∀ (ns : List Int) (n j q : Nat) (ps : List Str), c.N.drop n = ns → n ≤ c.N.length → j ≤ n → tot (nm :: ps) + 60 * ns.length ≤ 10000000 → ns.length < q →
    ref30_Line_l2 c 42 q (Lib.join (nm :: ps) [32]) (n : Int) (j : Int) = some (Lib.join (nm :: (ps ++ ns.map Lib.itoa)) [32], ((c.N.length : Nat) : Int))
  | [], n, j, q+1, ps, hd, hn, hj, hs, _ => by
    have : n = c.N.length := by have : c.N.length ≤ n := by simpa using hd
                                omega
    subst this
    rw [ref30_Line_l2, ge_len, Bool.false_and, ifF]
    simp
  | x :: ns, n, j, q+1, ps, hd, hn, hj, hs, hq => by
    obtain ⟨e1, e2, e3⟩ := getDrop hd
    have hx := hN x (List.mem_of_getElem? e1)
    have hi := itoa21 hx.1 hx.2
    simp only [List.length_cons] at hs
    have h := lw2_step c 42 nm ps n j q x ns hd hx (by omega) (by omega) (by omega) (.inl rfl)
    refine Eq.trans h ?_
    have := lw2_star c hN hl nm ns (n+1) (j+1) q (ps ++ [Lib.itoa x]) e2 (by omega) (by omega) (by rw [show nm :: (ps ++ [Lib.itoa x]) = (nm :: ps) ++ [Lib.itoa x] from rfl, tot_snoc]; omega) (by simp at hq; omega)
    refine Eq.trans this ?_
    simp
  | [], _, _, 0, _, _, _, _, _, hq => by omega
  | _ :: _, _, _, 0, _, _, _, _, _, hq => by omega
theorem lw3_step (c : ref30_Command) (k : UInt8) (K : Str → Int → Option (Str × Int)) (nm : Str) (ps : List Str) (v j q : Nat) (x : ref11_Val) (vs : List ref11_Val) (hd : c.V.drop v = x :: vs) (hx : inR x.N) (hl : c.V.length ≤ 1000000) (hj : j ≤ 1000000) (hs : tot (nm :: ps) ≤ 10000000) (hk : k = 86 ∨ j = 0) :
    ref30_Line_l3 c (k.toNat : Int) K (q+1) (Lib.join (nm :: ps) [32]) (v : Int) (j : Int) = if mayA (toV x) = true then ref30_Line_l3 c (k.toNat : Int) K q (Lib.join (nm :: (ps ++ [valA (toV x)])) [32]) ((v + 1 : Nat) : Int) ((j + 1 : Nat) : Int) else some ([], 1) := by
  obtain ⟨e1, e2, e3⟩ := getDrop hd
  have hj' := tot_join (nm :: ps)
  rw [ref30_Line_l3]
  have hc : ((decide ((v : Int) < (c.V.length : Int))) && ((decide ((k.toNat : Int) = 86)) || (decide ((j : Int) < 1)))) = true := by
    rw [lt_len e3]
    rcases hk with rfl | rfl
    · rfl
    · simp
  rw [hc, ifT, lAt_nat e1, bindS, ref_val x hx, bindS]
  have hm : mayA (toV x) = mayV x.K x.N x.L := rfl
  have hv : valA (toV x) = valT x.K x.N x.L := rfl
  rw [hm, hv]
  cases h : mayV x.K x.N x.L with
  | true =>
    have hvl := valT_len _ _ _ h hx
    rw [if_pos rfl, if_pos rfl]
    dsimp only
    rw [show (!decide ((0 : Int) = 0)) = false from rfl, ifF, cat_of (by simp; omega), bindS, cat_of (by simp; omega), bindS, cks (by omega), bindS, cks (by omega), bindS, join_snoc]
    rfl
  | false =>
    rw [if_neg (show ¬ (false = true) by simp), if_neg (show ¬ (false = true) by simp)]
    dsimp only
    rw [show (!decide ((1 : Int) = 0)) = true from rfl, ifT]
theorem lw3_star (c : ref30_Command) (K : Str → Int → Option (Str × Int)) (hV : ∀ n, n ∈ c.V → inR n.N) (hl : c.V.length ≤ 100000) (nm : Str) : ∀ (vs : List ref11_Val) (v j q : Nat) (ps : List Str), c.V.drop v = vs → v ≤ c.V.length → j ≤ v → tot (nm :: ps) + 60 * vs.length ≤ 10000000 → vs.length < q →
    ref30_Line_l3 c 86 K q (Lib.join (nm :: ps) [32]) (v : Int) (j : Int) = if (vs.map toV).all mayA = true then K (Lib.join (nm :: (ps ++ (vs.map toV).map valA)) [32]) ((c.V.length : Nat) : Int) else some ([], 1)
  | [], v, j, q+1, ps, hd, hn, hj, hs, _ => by
    have : v = c.V.length := by have : c.V.length ≤ v := by simpa using hd
                                omega
    subst this
    rw [ref30_Line_l3, ge_len, Bool.false_and, ifF]
    simp
  | x :: vs, v, j, q+1, ps, hd, hn, hj, hs, hq => by
    obtain ⟨e1, e2, e3⟩ := getDrop hd
    have hx := hV x (List.mem_of_getElem? e1)
    simp only [List.length_cons] at hs
    have h := lw3_step c 86 K nm ps v j q x vs hd hx (by omega) (by omega) (by omega) (.inl rfl)
    refine Eq.trans h ?_
    simp only [List.map_cons, List.all_cons]
    cases hm : mayA (toV x) with
    | true =>
      have hvl : (valA (toV x)).length ≤ 50 := valT_len _ _ _ hm hx
      rw [if_pos rfl, Bool.true_and]
      have := lw3_star c K hV hl nm vs (v+1) (j+1) q (ps ++ [valA (toV x)]) e2 (by omega) (by omega) (by rw [show nm :: (ps ++ [valA (toV x)]) = (nm :: ps) ++ [valA (toV x)] from rfl, tot_snoc]; omega) (by simp at hq; omega)
      refine Eq.trans this ?_
      simp
    | false => rw [if_neg (by simp), Bool.false_and, if_neg (by simp)]
  | [], _, _, 0, _, _, _, _, _, hq => by omega
  | _ :: _, _, _, 0, _, _, _, _, _, hq => by omega
theorem wide_loop (form : Str) (hf : form.length ≤ 1000) : ∀ (r : Str) (j q a : Nat), form.drop j = r → j ≤ form.length → a ≤ j → r.length < q →
    ref30_wide_l1 form q (a : Int) (j : Int) = some ((a + (r.length - r.count 105) : Nat) : Int)
  | [], j, q+1, a, h, hj, ha, _ => by
    have : j = form.length := by have : form.length ≤ j := by simpa using h
                                 omega
    subst this
    rw [ref30_wide_l1, ge_len, ifF]; simp
  | x :: r, j, q+1, a, h, hj, ha, hq => by
    obtain ⟨e1, e2, e3⟩ := getDrop h
    have hcl := List.count_le_length (a := (105 : UInt8)) (l := r)
    rw [ref30_wide_l1, lt_len e3, ifT, sIdx_at h, bindS]
    by_cases hx : x = 105
    · subst hx
      rw [show (!decide ((((105 : UInt8).toNat : Nat) : Int) = 105)) = false from rfl, ifF, bindS, cks (by omega), bindS]
      rw [wide_loop form hf r (j+1) q a e2 (by omega) (by omega) (by simp at hq; omega)]
      rw [List.count_cons_self, List.length_cons, show r.length + 1 - (List.count 105 r + 1) = r.length - List.count 105 r by omega]
    · rw [show decide (((x.toNat : Nat) : Int) = 105) = false from u8ne hx, show (!false) = true from rfl, ifT, cks (by omega), bindS, bindS, cks (by omega), bindS]
      rw [wide_loop form hf r (j+1) q (a+1) e2 (by omega) (by omega) (by simp at hq; omega)]
      rw [List.count_cons_of_ne hx, List.length_cons]
      congr 2; omega
  | [], _, 0, _, _, _, _, hq => by omega
  | _ :: _, _, 0, _, _, _, _, hq => by omega
theorem wide_eq {form : Str} (hf : form.length ≤ 1000) : ref30_wide form = some ((form.length - form.count 105 : Nat) : Int) := by
  unfold ref30_wide
  have := wide_loop form hf form 0 fuel 0 rfl (by omega) (by omega) (Nat.lt_of_le_of_lt hf (by decide))
  have h2 : ref30_wide_l1 form fuel 0 0 = some (((0 + (form.length - form.count 105) : Nat)) : Int) := this
  rw [h2, bindS]; simp
/-- What the document's writer ends with. -/
def outR (nm : Str) (ps : List Str) (bw : Bool) (m : Option (List Str × Cmd × Bool)) : Str × Nat := match m with
  | some (qs, c', b) => if bw = false ∧ b = false ∧ c'.N = [] ∧ c'.V = [] ∧ c'.W = [] ∧ c'.S = [] then
      (if 4096 < (Lib.join (nm :: (ps ++ qs)) [32]).length then ([], 4) else (Lib.join (nm :: (ps ++ qs)) [32], 0)) else ([], 1)
  | none => ([], 1)
/-- A word and a text stand once; behind all numbers no number. -/
def okF : Str → Bool
  | [] => true
  | k :: f => (k != 119 || !f.contains 119) && (k != 115 || !f.contains 115) && (k != 42 || !f.contains 105) && ((k != 118 && k != 86) || !f.contains 118) && okF f
theorem out_cons (nm : Str) (ps : List Str) (bw : Bool) (k : UInt8) (f : Str) (c : Cmd) (x : List Str × Cmd) (h : wpart k c = some x) : outR nm ps bw (wrF (k :: f) c) = outR nm (ps ++ x.1) (bw || badWS k c) (wrF f x.2) := by
  have hcons : wrF (k :: f) c = (wpart k c).bind fun x => (wrF f x.2).bind fun y => some (x.1 ++ y.1, y.2.1, badWS k c || y.2.2) := rfl
  rw [hcons, h, bindS]
  cases wrF f x.2 with
  | none => rfl
  | some y =>
    obtain ⟨a, b, d⟩ := y
    simp only [Option.bind_some, outR, List.append_assoc]
    have hiff : (bw = false ∧ (badWS k c || d) = false ∧ b.N = [] ∧ b.V = [] ∧ b.W = [] ∧ b.S = []) ↔ ((bw || badWS k c) = false ∧ d = false ∧ b.N = [] ∧ b.V = [] ∧ b.W = [] ∧ b.S = []) := by
      simp only [Bool.or_eq_false_iff]
      constructor
      · rintro ⟨a1, ⟨a3, a4⟩, a5⟩; exact ⟨⟨a1, a3⟩, a4, a5⟩
      · rintro ⟨⟨a1, a3⟩, a4, a5⟩; exact ⟨a1, ⟨a3, a4⟩, a5⟩
    by_cases hc : (bw = false ∧ (badWS k c || d) = false ∧ b.N = [] ∧ b.V = [] ∧ b.W = [] ∧ b.S = [])
    · rw [if_pos hc, if_pos (hiff.1 hc)]
    · rw [if_neg hc, if_neg (fun h => hc (hiff.2 h))]
theorem out_none (nm : Str) (ps : List Str) (bw : Bool) (k : UInt8) (f : Str) (c : Cmd) (h : wpart k c = none) : outR nm ps bw (wrF (k :: f) c) = ([], 1) := by
  have hcons : wrF (k :: f) c = (wpart k c).bind fun x => (wrF f x.2).bind fun y => some (x.1 ++ y.1, y.2.1, badWS k c || y.2.2) := rfl
  rw [hcons, h]; rfl
end Go.Cq

set_option maxRecDepth 100000
set_option linter.unusedVariables false
set_option linter.unusedSimpArgs false
namespace Go.Cq
open Go Go.Av

def okCr (c : ref30_Command) : Prop := (∀ n, n ∈ c.N → inR n) ∧ ∀ v, v ∈ c.V → inR v.N
/-- What the document's writer looks at last. -/
def endK (c : ref30_Command) : Str → Int → Int → Bool → Bool → Option (Str × Int) := fun v106 v107 v108 v109 v110 =>
      (
        if (decide (v107 < (c.N.length : Int))) then
          some true
        else
          if (decide (v108 < (c.V.length : Int))) then
            some true
          else
            if v109 then
              (ref30_Word c.W).bind fun v116 =>
              if (!v116) then
                some true
              else
                if (!v109) then
                  if (!(c.W == [])) then
                    some true
                  else
                    if v110 then
                      (ref30_ended c.S).bind fun v121 =>
                      if v121 then
                        some true
                      else
                        if (!v110) then
                          some (!(c.S == []))
                        else
                          some false
                    else
                      if (!v110) then
                        some (!(c.S == []))
                      else
                        some false
                else
                  if v110 then
                    (ref30_ended c.S).bind fun v126 =>
                    if v126 then
                      some true
                    else
                      if (!v110) then
                        some (!(c.S == []))
                      else
                        some false
                  else
                    if (!v110) then
                      some (!(c.S == []))
                    else
                      some false
            else
              if (!v109) then
                if (!(c.W == [])) then
                  some true
                else
                  if v110 then
                    (ref30_ended c.S).bind fun v133 =>
                    if v133 then
                      some true
                    else
                      if (!v110) then
                        some (!(c.S == []))
                      else
                        some false
                  else
                    if (!v110) then
                      some (!(c.S == []))
                    else
                      some false
              else
                if v110 then
                  (ref30_ended c.S).bind fun v138 =>
                  if v138 then
                    some true
                  else
                    if (!v110) then
                      some (!(c.S == []))
                    else
                      some false
                else
                  if (!v110) then
                    some (!(c.S == []))
                  else
                    some false
      ).bind fun y111 =>
      if y111 then
        some ([], 1)
      else
        if (decide ((4096 : Int) < (v106.length : Int))) then
          some ([], 4)
        else
          some (v106, 0)
def badEnd (c : ref30_Command) (w r : Bool) : Bool := (w && !wordB c.W) || (r && !noNL c.S)
theorem end_eq (c : ref30_Command) (hW : c.W.length ≤ 1000000) (hS : c.S.length ≤ 1000000) (nm : Str) (ps : List Str) (n v : Nat) (w r : Bool) (hn : n ≤ c.N.length) (hv : v ≤ c.V.length) :
    endK c (Lib.join (nm :: ps) [32]) (n : Int) (v : Int) w r = some ((outR nm ps (badEnd c w r) (wrF [] (cur c n v w r))).1, ((outR nm ps (badEnd c w r) (wrF [] (cur c n v w r))).2 : Int)) := by
  have hN : (c.N.drop n = []) ↔ ¬ (n < c.N.length) := by rw [List.drop_eq_nil_iff]; omega
  have hV : ((c.V.drop v).map toV = []) ↔ ¬ (v < c.V.length) := by rw [List.map_eq_nil_iff, List.drop_eq_nil_iff]; omega
  have hout : outR nm ps (badEnd c w r) (wrF [] (cur c n v w r)) = if badEnd c w r = false ∧ ¬ (n < c.N.length) ∧ ¬ (v < c.V.length) ∧ (if w = true then [] else c.W) = [] ∧ (if r = true then [] else c.S) = [] then
      (if 4096 < (Lib.join (nm :: ps) [32]).length then ([], 4) else (Lib.join (nm :: ps) [32], 0)) else ([], 1) := by
    have := List.append_nil ps
    unfold outR wrF
    dsimp only [cur]
    rw [this]
    simp only [hN, hV, true_and]
  rw [hout]
  unfold endK
  rw [ref_word hW, ref_ended hS]
  have hnl : noNL c.S = !c.S.any (· == 10) := rfl
  unfold badEnd
  rw [hnl]
  have hWe : (c.W == []) = decide (c.W = []) := by cases c.W <;> rfl
  have hSe : (c.S == []) = decide (c.S = []) := by cases c.S <;> rfl
  rw [hWe, hSe]
  generalize c.S.any (· == 10) = ends
  generalize wordB c.W = wd
  by_cases h1 : n < c.N.length
  · rw [decide_eq_true (by omega), ifT, bindS, ifT, if_neg (by rintro ⟨_, h, _⟩; exact h h1)]; rfl
  rw [decide_eq_false (by omega), ifF]
  by_cases h2 : v < c.V.length
  · rw [decide_eq_true (by omega), ifT, bindS, ifT, if_neg (by rintro ⟨_, _, h, _⟩; exact h h2)]; rfl
  rw [decide_eq_false (by omega), ifF]
  have hlen : ∀ s : Str, (if (decide ((4096 : Int) < (s.length : Int))) = true then some (([] : Str), (4 : Int)) else some (s, 0)) = some ((if 4096 < s.length then (([] : Str), (4 : Nat)) else (s, 0)).1, (((if 4096 < s.length then (([] : Str), (4 : Nat)) else (s, 0)).2 : Nat) : Int)) := fun s => by
    by_cases h : 4096 < s.length
    · rw [decide_eq_true (by omega), ifT, if_pos h]; rfl
    · rw [decide_eq_false (by omega), ifF, if_neg h]; rfl
  have hlen2 : ∀ s : Str, (if (4096 : Int) < (s.length : Int) then some (([] : Str), (4 : Int)) else some (s, 0)) = some ((if 4096 < s.length then (([] : Str), (4 : Nat)) else (s, 0)).1, (((if 4096 < s.length then (([] : Str), (4 : Nat)) else (s, 0)).2 : Nat) : Int)) := fun s => by
    have := hlen s
    simp only [decide_eq_true_eq] at this
    exact this
  cases w <;> cases r <;> cases wd <;> cases ends <;> by_cases hw : c.W = [] <;> by_cases hs : c.S = [] <;> simp [hw, hs, h1, h2, hlen2]
theorem cur105 (c : ref30_Command) (n v : Nat) (w r : Bool) : wpart 105 (cur c n v w r) = match c.N.drop n with
    | [] => none
    | x :: ns => some ([Lib.itoa x], tkN (cur c n v w r) ns) := rfl
theorem cur118 (c : ref30_Command) (n v : Nat) (w r : Bool) : wpart 118 (cur c n v w r) = match (c.V.drop v).map toV with
    | [] => none
    | x :: vs => if mayA x = true then some ([valA x], tkV (cur c n v w r) vs) else none := rfl
theorem line_ref (c : ref30_Command) (hc : okCr c) (hN : c.N.length ≤ 10000) (hV : c.V.length ≤ 10000) (hW : c.W.length ≤ 10000) (hS : c.S.length ≤ 10000) (v1 : Str × Bool) (hf : v1.1.length ≤ 1000) (nm : Str) :
    ∀ (f : Str) (j q n v : Nat) (w r : Bool) (ps : List Str), v1.1.drop j = f → j ≤ v1.1.length → n ≤ c.N.length → v ≤ c.V.length → (∀ k, k ∈ f → isLt k = true) → okF f = true → (w = true → f.contains 119 = false) → (r = true → f.contains 115 = false) →
      (f.contains 105 = true → n = (v1.1.take j).count 105) → (f.contains 118 = true → v = 0) → tot (nm :: ps) + sz (cur c n v w r) + f.length ≤ 3000000 → f.length < q →
      ref30_Line_l1 c v1 (endK c) q (Lib.join (nm :: ps) [32]) (n : Int) (v : Int) w r (j : Int) = some ((outR nm ps (badEnd c w r) (wrF f (cur c n v w r))).1, ((outR nm ps (badEnd c w r) (wrF f (cur c n v w r))).2 : Int))
  | [], j, q+1, n, v, w, r, ps, h, hj, hn, hv, hk, ho, hw, hr, hi, hi8, hs, _ => by
    have : j = v1.1.length := by have : v1.1.length ≤ j := by simpa using h
                                 omega
    subst this
    rw [ref30_Line_l1, ge_len, ifF]
    exact end_eq c (by omega) (by omega) nm ps n v w r hn hv
  | k :: f, j, q+1, n, v, w, r, ps, h, hj, hn, hv, hk, ho, hw, hr, hi, hi8, hs, hq => by
    obtain ⟨e1, e2, e3⟩ := getDrop h
    have hkl := hk k (by simp)
    have htj := tot_join (nm :: ps)
    have htk : (v1.1.take (j+1)) = v1.1.take j ++ [k] := by rw [List.take_add_one, e1]; rfl
    simp only [okF, Bool.and_eq_true, Bool.or_eq_true, bne_iff_ne, ne_eq, Bool.not_eq_true'] at ho
    obtain ⟨⟨⟨⟨ho1, ho2⟩, ho3⟩, ho5⟩, ho4⟩ := ho
    have hcons : ∀ z : UInt8, (k :: f).contains z = (z == k || f.contains z) := fun z => List.contains_cons
    simp only [hcons] at hw hr hi hi8
    have hi8' : f.contains 118 = true → v = 0 := fun h => hi8 (by rw [h]; simp)
    have hwf : w = true → k ≠ 119 ∧ f.contains 119 = false := fun e => by have := hw e; simp only [Bool.or_eq_false_iff, beq_eq_false_iff_ne] at this; exact ⟨fun e => this.1 e.symm, this.2⟩
    have hrf : r = true → k ≠ 115 ∧ f.contains 115 = false := fun e => by have := hr e; simp only [Bool.or_eq_false_iff, beq_eq_false_iff_ne] at this; exact ⟨fun e => this.1 e.symm, this.2⟩
    simp only [List.length_cons] at hs
    have hkf : ∀ k, k ∈ f → isLt k = true := fun k hk' => hk k (by simp [hk'])
    simp only [List.length_cons] at hq
    rw [ref30_Line_l1, lt_len e3, ifT, sIdx_at h, bindS, letK_e]
    have hcnt : (v1.1.take (j+1)).count 105 = (v1.1.take j).count 105 + if k = 105 then 1 else 0 := by
      rw [htk, List.count_append]
      by_cases h5 : k = 105
      · subst h5; simp
      · rw [if_neg h5, List.count_cons_of_ne h5]; rfl
    by_cases h9 : k = 119
    · subst h9
      have hw0 : w = false := by cases w with
        | false => rfl
        | true => exact absurd rfl (hwf rfl).1
      subst hw0
      have hx : wpart 119 (cur c n v false r) = some ([c.W], cur c n v true r) := rfl
      have hb : badWS 119 (cur c n v false r) = !wordB c.W := rfl
      rw [out_cons nm ps _ 119 f _ _ hx, hb]
      have hsz : sz (cur c n v false r) = sz (cur c n v true r) + c.W.length := by simp [sz, cur]; omega
      rw [show decide ((((119 : UInt8).toNat : Nat) : Int) = 119) = true from rfl, ifT, cat_of (by simp; omega), bindS, cat_of (by simp; omega), bindS]
      dsimp only
      rw [cks (by omega), bindS, show Lib.join (nm :: ps) [32] ++ ([32] ++ c.W) = Lib.join (nm :: (ps ++ [c.W])) [32] by rw [join_snoc]; rfl]
      have := line_ref c hc hN hV hW hS v1 hf nm f (j+1) q n v true r (ps ++ [c.W]) e2 (by omega) hn hv hkf ho4 (fun _ => by
          rcases ho1 with h | h
          · exact absurd rfl h
          · exact h) (fun e => (hrf e).2) (fun h5 => by rw [hcnt, if_neg (by decide)]; exact hi (by rw [h5]; simp)) hi8' (by rw [show nm :: (ps ++ [c.W]) = (nm :: ps) ++ [c.W] from rfl, tot_snoc]; omega) (by omega)
      rw [this]
      have hbe : badEnd c true r = (badEnd c false r || !wordB c.W) := by unfold badEnd; cases r <;> cases wordB c.W <;> simp
      rw [hbe]
    rw [show decide (((k.toNat : Nat) : Int) = 119) = false from u8ne h9, ifF, letK_e]
    have hwf2 : w = true → f.contains 119 = false := fun e => (hwf e).2
    by_cases h6 : k = 115
    · subst h6
      have hr0 : r = false := by cases r with
        | false => rfl
        | true => exact absurd rfl (hrf rfl).1
      subst hr0
      have hx : wpart 115 (cur c n v w false) = some ([c.S], cur c n v w true) := rfl
      have hb : badWS 115 (cur c n v w false) = !noNL c.S := rfl
      rw [out_cons nm ps _ 115 f _ _ hx, hb]
      have hsz : sz (cur c n v w false) = sz (cur c n v w true) + c.S.length := by simp [sz, cur]
      rw [show decide ((((115 : UInt8).toNat : Nat) : Int) = 115) = true from rfl, ifT, cat_of (by simp; omega), bindS, cat_of (by simp; omega), bindS]
      dsimp only
      rw [cks (by omega), bindS, show Lib.join (nm :: ps) [32] ++ ([32] ++ c.S) = Lib.join (nm :: (ps ++ [c.S])) [32] by rw [join_snoc]; rfl]
      have := line_ref c hc hN hV hW hS v1 hf nm f (j+1) q n v w true (ps ++ [c.S]) e2 (by omega) hn hv hkf ho4 hwf2 (fun _ => by
          rcases ho2 with h | h
          · exact absurd rfl h
          · exact h) (fun h5 => by rw [hcnt, if_neg (by decide)]; exact hi (by rw [h5]; simp)) hi8' (by rw [show nm :: (ps ++ [c.S]) = (nm :: ps) ++ [c.S] from rfl, tot_snoc]; omega) (by omega)
      rw [this]
      have hbe : badEnd c w true = (badEnd c w false || !noNL c.S) := by unfold badEnd; cases w <;> cases noNL c.S <;> simp
      rw [hbe]
    rw [show decide (((k.toNat : Nat) : Int) = 115) = false from u8ne h6, ifF]
    have hrf2 : r = true → f.contains 115 = false := fun e => (hrf e).2
    have hbad : badWS k (cur c n v w r) = false := by unfold badWS; rw [if_neg h9, if_neg h6]
    by_cases h5 : k = 105
    · subst h5
      rw [show decide ((((105 : UInt8).toNat : Nat) : Int) = 105) = true from rfl, ifT, bindS, letK_e, ifT]
      have hnc : n = (v1.1.take j).count 105 := hi (by simp)
      have hwide : ∀ m : Nat, (((ck ((j : Int) + 1)).bind fun v59 => (sub v1.1 0 (j : Int)).bind fun v62 => (ref30_wide v62).bind fun v63 => (ck (v59 - v63)).bind fun v65 => some (decide ((m : Int) < v65)))) = some (decide (m < n + 1)) := fun m => by
        have hcl := List.count_le_length (a := (105 : UInt8)) (l := v1.1.take j)
        have hs0 : sub v1.1 0 (j : Int) = some (v1.1.take j) := by
          have := sub_nat (s := v1.1) (a := 0) (b := j) (by omega) hj
          simpa using this
        have hl : (v1.1.take j).length = j := by simp; omega
        rw [cks (by omega), bindS, hs0, bindS, wide_eq (by omega), bindS, hl, ck_of (by omega) (by omega), bindS]
        congr 1
        rw [decide_eq_decide]; omega
      cases hd : c.N.drop n with
      | nil =>
        have hnl : n = c.N.length := by have : c.N.length ≤ n := by simpa using hd
                                        omega
        have hl2 : ref30_Line_l2 c (((105 : UInt8).toNat : Nat) : Int) fuel (Lib.join (nm :: ps) [32]) (n : Int) 0 = some (Lib.join (nm :: ps) [32], (n : Int)) := by
          rw [show fuel = (fuel - 1) + 1 from by decide, ref30_Line_l2, hnl, ge_len, Bool.false_and, ifF]
        rw [hl2, bindS]
        dsimp only
        rw [hwide n, decide_eq_true (by omega), ifT, bindS, ifT]
        have hx : wpart 105 (cur c n v w r) = none := by rw [cur105, hd]
        rw [out_none nm ps _ 105 f _ hx]; rfl
      | cons x ns =>
        obtain ⟨d1, d2, d3⟩ := getDrop hd
        have hxr := hc.1 x (List.mem_of_getElem? d1)
        have hit := itoa21 hxr.1 hxr.2
        have hl2 : ref30_Line_l2 c (((105 : UInt8).toNat : Nat) : Int) fuel (Lib.join (nm :: ps) [32]) (n : Int) 0 = some (Lib.join (nm :: (ps ++ [Lib.itoa x])) [32], ((n + 1 : Nat) : Int)) := by
          have h1 := lw2_step c 105 nm ps n 0 (fuel - 1) x ns hd hxr (by omega) (by omega) (by omega) (.inr rfl)
          have h2 : ref30_Line_l2 c (((105 : UInt8).toNat : Nat) : Int) (fuel - 1) (Lib.join (nm :: (ps ++ [Lib.itoa x])) [32]) ((n + 1 : Nat) : Int) ((0 + 1 : Nat) : Int) = some (Lib.join (nm :: (ps ++ [Lib.itoa x])) [32], ((n + 1 : Nat) : Int)) := by
            rw [show fuel - 1 = (fuel - 2) + 1 from by decide, ref30_Line_l2]
            rw [show ((decide (((n + 1 : Nat) : Int) < (c.N.length : Int))) && ((decide ((((105 : UInt8).toNat : Nat) : Int) = 42)) || (decide (((0 + 1 : Nat) : Int) < 1)))) = false by simp, ifF]
          exact h1.trans h2
        rw [hl2, bindS]
        dsimp only
        rw [hwide (n+1), decide_eq_false (by omega), ifT, bindS, ifF]
        rw [cks (by omega), bindS]
        have hx : wpart 105 (cur c n v w r) = some ([Lib.itoa x], cur c (n+1) v w r) := by rw [cur105, hd]; simp only [tkN, cur, d2]
        rw [out_cons nm ps _ 105 f _ _ hx, hbad, Bool.or_false]
        have hsz : sz (cur c n v w r) = sz (cur c (n+1) v w r) + 60 := by
          have h1 : (c.N.drop n).length = (c.N.drop (n+1)).length + 1 := by rw [hd, d2]; rfl
          simp only [sz, cur]; omega
        exact line_ref c hc hN hV hW hS v1 hf nm f (j+1) q (n+1) v w r (ps ++ [Lib.itoa x]) e2 (by omega) (by omega) hv hkf ho4 hwf2 hrf2 (fun _ => by rw [hcnt, if_pos rfl, hnc]) hi8' (by rw [show nm :: (ps ++ [Lib.itoa x]) = (nm :: ps) ++ [Lib.itoa x] from rfl, tot_snoc]; omega) (by omega)
    rw [show decide (((k.toNat : Nat) : Int) = 105) = false from u8ne h5, ifF, bindS, letK_e]
    have hi2 : f.contains 105 = true → n = (v1.1.take (j+1)).count 105 := fun h => by rw [hcnt, if_neg h5]; exact hi (by rw [h]; simp)
    by_cases h4 : k = 42
    · subst h4
      rw [show decide ((((42 : UInt8).toNat : Nat) : Int) = 42) = true from rfl, ifT]
      have hsz : sz (cur c n v w r) = sz (cur c c.N.length v w r) + 60 * (c.N.drop n).length := by simp only [sz, cur]; simp; omega
      have hl2 := lw2_star c hc.1 (by omega) nm (c.N.drop n) n 0 fuel ps rfl hn (by omega) (by omega) (len_fuel (by simp; omega))
      have hl2' : ref30_Line_l2 c (((42 : UInt8).toNat : Nat) : Int) fuel (Lib.join (nm :: ps) [32]) (n : Int) 0 = some (Lib.join (nm :: (ps ++ (c.N.drop n).map Lib.itoa)) [32], ((c.N.length : Nat) : Int)) := hl2
      rw [hl2', bindS, ifF, bindS, ifF]
      dsimp only
      rw [cks (by omega), bindS]
      have hx : wpart 42 (cur c n v w r) = some ((c.N.drop n).map Lib.itoa, cur c c.N.length v w r) := by simp [wpart, tkN, cur]
      rw [out_cons nm ps _ 42 f _ _ hx, hbad, Bool.or_false]
      have htot : ∀ l : List Int, (∀ x, x ∈ l → inR x) → tot (l.map Lib.itoa) ≤ 60 * l.length := fun l hl => by
        induction l with
        | nil => simp [tot]
        | cons x l ih =>
          have := ih fun y hy => hl y (by simp [hy])
          have hx := hl x (by simp)
          have := itoa21 hx.1 hx.2
          simp [tot]; omega
      have ht := htot (c.N.drop n) fun x hx => hc.1 x (List.mem_of_mem_drop hx)
      exact line_ref c hc hN hV hW hS v1 hf nm f (j+1) q c.N.length v w r (ps ++ (c.N.drop n).map Lib.itoa) e2 (by omega) (by omega) hv hkf ho4 hwf2 hrf2 (fun h => by
          rcases ho3 with h' | h'
          · exact absurd rfl h'
          · rw [h] at h'; cases h') hi8' (by rw [show nm :: (ps ++ (c.N.drop n).map Lib.itoa) = (nm :: ps) ++ (c.N.drop n).map Lib.itoa from rfl, tot_app]; omega) (by omega)
    rw [show decide (((k.toNat : Nat) : Int) = 42) = false from u8ne h4, ifF]
    by_cases h8 : k = 118
    · subst h8
      rw [show decide ((((118 : UInt8).toNat : Nat) : Int) = 118) = true from rfl, Bool.true_and]
      by_cases hV0 : c.V.length = 0
      · rw [decide_eq_true (by omega), ifT]
        have hx : wpart 118 (cur c n v w r) = none := by
          rw [cur118]
          have : c.V = [] := List.eq_nil_of_length_eq_zero hV0
          rw [this]; simp
        rw [out_none nm ps _ 118 f _ hx]; rfl
      rw [decide_eq_false (by omega), ifF, letK_e]
      have hv0 : v = 0 := hi8 (by simp)
      have hn118 : f.contains 118 = false := by
        rcases ho5 with h' | h'
        · exact absurd rfl h'.1
        · exact h'
      cases hd : c.V.drop v with
      | nil => exfalso; rw [hv0] at hd; simp at hd; rw [hd] at hV0; exact hV0 rfl
      | cons x vs =>
        obtain ⟨d1, d2, d3⟩ := getDrop hd
        have hxr := hc.2 x (List.mem_of_getElem? d1)
        have hl3 := lw3_step c 118 (fun v89 v90 => (ck ((j : Int) + 1)).bind fun v105 => ref30_Line_l1 c v1 (endK c) q v89 (n : Int) v90 w r v105) nm ps v 0 (fuel - 1) x vs hd hxr (by omega) (by omega) (by omega) (.inr rfl)
        refine Eq.trans hl3 ?_
        have hx : wpart 118 (cur c n v w r) = if mayA (toV x) = true then some ([valA (toV x)], cur c n (v+1) w r) else none := by
          rw [cur118, hd]; simp only [List.map_cons, tkV, cur, d2]
        cases hm : mayA (toV x) with
        | false =>
          rw [hm, if_neg (show ¬ (false = true) by simp)] at hx
          rw [if_neg (show ¬ (false = true) by simp), out_none nm ps _ 118 f _ hx]; rfl
        | true =>
          rw [hm, if_pos rfl] at hx
          rw [if_pos rfl, out_cons nm ps _ 118 f _ _ hx, hbad, Bool.or_false]
          have hvl : (valA (toV x)).length ≤ 50 := valT_len _ _ _ hm hxr
          rw [show fuel - 1 = (fuel - 2) + 1 from by decide, ref30_Line_l3]
          rw [show ((decide (((v + 1 : Nat) : Int) < (c.V.length : Int))) && ((decide ((((118 : UInt8).toNat : Nat) : Int) = 86)) || (decide (((0 + 1 : Nat) : Int) < 1)))) = false by simp, ifF]
          rw [cks (by omega), bindS]
          have hsz : sz (cur c n v w r) = sz (cur c n (v+1) w r) + 60 := by
            have h1 : (c.V.drop v).length = (c.V.drop (v+1)).length + 1 := by rw [hd, d2]; rfl
            simp only [sz, cur, List.length_map]; omega
          exact line_ref c hc hN hV hW hS v1 hf nm f (j+1) q n (v+1) w r (ps ++ [valA (toV x)]) e2 (by omega) hn (by omega) hkf ho4 hwf2 hrf2 hi2 (fun h => by rw [h] at hn118; cases hn118) (by rw [show nm :: (ps ++ [valA (toV x)]) = (nm :: ps) ++ [valA (toV x)] from rfl, tot_snoc]; omega) (by omega)
    · have hk86 : k = 86 := by unfold isLt at hkl; simpa [h9, h6, h5, h4, h8] using hkl
      subst hk86
      have hn118 : f.contains 118 = false := by
        rcases ho5 with h' | h'
        · exact absurd rfl h'.2
        · exact h'
      rw [show decide ((((86 : UInt8).toNat : Nat) : Int) = 118) = false from rfl, Bool.false_and, ifF, letK_e]
      have hdl : (c.V.drop v).length ≤ 10000 := by simp; omega
      have hl3 := lw3_star c (fun v89 v90 => (ck ((j : Int) + 1)).bind fun v105 => ref30_Line_l1 c v1 (endK c) q v89 (n : Int) v90 w r v105) hc.2 (by omega) nm (c.V.drop v) v 0 fuel ps rfl hv (by omega) (by omega) (len_fuel (by omega))
      refine Eq.trans hl3 ?_
      have hx : wpart 86 (cur c n v w r) = if ((c.V.drop v).map toV).all mayA = true then some (((c.V.drop v).map toV).map valA, cur c n c.V.length w r) else none := by simp [wpart, tkV, cur]
      cases ha : ((c.V.drop v).map toV).all mayA with
      | false =>
        rw [ha, if_neg (show ¬ (false = true) by simp)] at hx
        rw [if_neg (show ¬ (false = true) by simp), out_none nm ps _ 86 f _ hx]; rfl
      | true =>
        rw [ha, if_pos rfl] at hx
        rw [if_pos rfl, out_cons nm ps _ 86 f _ _ hx, hbad, Bool.or_false, cks (by omega), bindS]
        have htot : ∀ l : List ref11_Val, (∀ x, x ∈ l → inR x.N) → (l.map toV).all mayA = true → tot ((l.map toV).map valA) ≤ 60 * l.length := fun l hl hm => by
          induction l with
          | nil => simp [tot]
          | cons x l ih =>
            simp only [List.map_cons, List.all_cons, Bool.and_eq_true] at hm
            have h1 := ih (fun y hy => hl y (by simp [hy])) hm.2
            have h2 : (valA (toV x)).length ≤ 50 := valT_len _ _ _ hm.1 (hl x (by simp))
            simp only [List.map_cons, tot, List.length_cons]; omega
        have ht := htot (c.V.drop v) (fun x hx => hc.2 x (List.mem_of_mem_drop hx)) ha
        have hsz : sz (cur c n v w r) = sz (cur c n c.V.length w r) + 60 * (c.V.drop v).length := by simp only [sz, cur]; simp; omega
        exact line_ref c hc hN hV hW hS v1 hf nm f (j+1) q n c.V.length w r (ps ++ ((c.V.drop v).map toV).map valA) e2 (by omega) hn (by omega) hkf ho4 hwf2 hrf2 hi2 (fun h => by rw [h] at hn118; cases hn118) (by rw [show nm :: (ps ++ ((c.V.drop v).map toV).map valA) = (nm :: ps) ++ ((c.V.drop v).map toV).map valA from rfl, tot_app]; omega) (by omega)
  | [], _, 0, _, _, _, _, _, _, _, _, _, _, _, _, _, _, _, _, hq => by omega
  | _ :: _, _, 0, _, _, _, _, _, _, _, _, _, _, _, _, _, _, _, _, hq => by omega
theorem form_okF (name : Str) : okF (formF name).1 = true := by
  unfold formF
  have hall : (nmL.zip fmL).all (fun p => okF p.2) = true := by decide
  cases h : (nmL.zip fmL).find? (fun p => p.1 == name) with
  | none => rfl
  | some p => exact List.all_eq_true.1 hall p (List.mem_of_find?_eq_some h)
/-- The document's line is a command's line. -/
theorem ref_line {c : ref30_Command} (hc : okCr c) (hN : c.N.length ≤ 10000) (hV : c.V.length ≤ 10000) (hW : c.W.length ≤ 10000) (hS : c.S.length ≤ 10000) (hn : c.Name.length ≤ 10000) :
    ref30_Line c = some ((lineF (toC c)).1, ((lineF (toC c)).2 : Int)) := by
  unfold ref30_Line
  rw [ref_form, bindS]
  have hfl := form_len c.Name
  cases hv : (formF c.Name).2 with
  | false =>
    rw [show (!false) = true from rfl, ifT]
    unfold lineF
    rw [show (toC c).Name = c.Name from rfl, hv, if_neg (show ¬ (false = true) by simp)]; rfl
  | true =>
    rw [show (!true) = false from rfl, ifF, letK_e]
    have := line_ref c hc hN hV hW hS (formF c.Name) (by omega) c.Name (formF c.Name).1 0 fuel 0 0 false false [] rfl (by omega) (by omega) (by omega) (form_letters c.Name) (form_okF c.Name) (by simp) (by simp) (by simp) (by simp) (by simp [tot, sz, cur]; omega) (len_fuel (by omega))
    have h2 : ref30_Line_l1 c (formF c.Name) (endK c) fuel c.Name 0 0 false false 0 = some ((lineF (toC c)).1, ((lineF (toC c)).2 : Int)) := by
      have e1 : Lib.join (c.Name :: []) [32] = c.Name := Lib.join_one _ _
      rw [e1] at this
      refine Eq.trans this ?_
      have hcur : cur c 0 0 false false = toC c := by simp [cur, toC]
      have hbe : badEnd c false false = false := rfl
      rw [hcur, hbe]
      unfold lineF
      rw [show (toC c).Name = c.Name from rfl, hv, if_pos rfl]
      unfold outR
      cases wrF (formF c.Name).1 (toC c) with
      | none => rfl
      | some y =>
        obtain ⟨a, b, d⟩ := y
        simp only [List.nil_append, true_and]
    exact h2
end Go.Cq

set_option maxRecDepth 100000
set_option linter.unusedVariables false
set_option linter.unusedSimpArgs false
namespace Go.Cq
open Go Go.Av

theorem okC_toC {c : ref30_Command} (h : okCr c) : okC (toC c) := ⟨h.1, fun v hv => by
  obtain ⟨u, hu, rfl⟩ := List.mem_map.1 hv
  exact h.2 u hu⟩
theorem scriptWrites (c : ref30_Command) (v : ref11_Val) (hc : okCr c) (hv : inR v.N) : law30_ScriptWrites c v = some true := by
  unfold law30_ScriptWrites law30_big
  rw [bindS]
  cases hb : (((((decide ((100 : Int) < (c.Name.length : Int))) || (decide ((5000 : Int) < (c.N.length : Int)))) || (decide ((5000 : Int) < (c.V.length : Int)))) || (decide ((100 : Int) < (c.W.length : Int)))) || (decide ((5000 : Int) < (c.S.length : Int)))) with
  | true => rw [ifT, sure_ok, bindS]
  | false =>
    simp only [Bool.or_eq_false_iff, decide_eq_false_iff_not] at hb
    obtain ⟨⟨⟨⟨h1, h2⟩, h3⟩, h4⟩, h5⟩ := hb
    rw [ifF, give_eq (by omega) (by omega), bindS]
    obtain ⟨r, l1, l2, l3⟩ := script_line (c := toC c) (okC_toC hc) (by simp [toC]; omega)
    rw [l1, bindS, ref_line hc (by omega) (by omega) (by omega) (by omega) (by omega), bindS, script_form, bindS, ref_form, bindS, script_val ⟨v.K, v.N, v.L⟩ hv, bindS, ref_val v hv, bindS]
    rw [num_of l3, bindS, l2]
    dsimp only
    rw [decide_eq_true rfl, ifT, beq_self_eq_true, ifT, beq_self_eq_true, ifT, beq_self_eq_true, ifT]
    by_cases hm : mayV v.K v.N v.L = true
    · rw [if_pos hm, if_pos hm]
      dsimp only
      rw [beq_self_eq_true, ifT]
      have : law_num none = some 0 := rfl
      rw [this, bindS, decide_eq_true rfl, ifT, sure_ok, bindS, bindS]
    · rw [if_neg hm, if_neg hm]
      dsimp only
      rw [beq_self_eq_true, ifT]
      have : law_num (some 1) = some 1 := rfl
      rw [this, bindS, decide_eq_true rfl, ifT, sure_ok, bindS, bindS]
end Go.Cq

