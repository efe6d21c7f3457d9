import Derived.Test.YteeokchpojaaoaaGreatDoorL5
set_option linter.unusedSectionVars false
set_option linter.unusedVariables false
set_option linter.unusedSimpArgs false
set_option maxRecDepth 100000
set_option linter.unusedVariables false
set_option linter.unusedSimpArgs false
namespace Go.Cq
open Go Go.Av

/-! ### Numbers and values, there and back -/
theorem nval_itoa {n : Int} (h : inR n) : nval (Lib.itoa n) = some n := by
  have hl := itoa21 h.1 h.2
  obtain ⟨v, b, h1, h2, h3⟩ := number_ok (s := Lib.itoa n) (by omega)
  unfold nval
  rw [h1]
  cases b with
  | false => exact absurd rfl (h3 rfl n h.1 h.2)
  | true =>
    have e1 := atoi_itoa v (h2 rfl).2.1 (h2 rfl).2.2
    have e2 := atoi_itoa n h.1 h.2
    rw [(h2 rfl).1, e2] at e1
    injection e1 with e1
    rw [e1]
theorem nval_back {p : Str} (hp : p.length ≤ 1000000) {n : Int} (h : nval p = some n) : Lib.itoa n = p ∧ inR n := by
  obtain ⟨v, b, h1, h2, h3⟩ := number_ok (s := p) (by omega)
  unfold nval at h
  rw [h1] at h
  cases b with
  | false => cases h
  | true => injection h with h; subst h; exact ⟨(h2 rfl).1, (h2 rfl).2⟩
theorem itoa_head (n : Int) (h : inR n) : ∃ c r, Lib.itoa n = c :: r ∧ (isDg c ∨ (c = 45 ∧ ∀ z, z ∈ r → isDg z)) ∧ (isDg c → ∀ z, z ∈ r → isDg z) := by
  rcases itoa_cases n h.1 h.2 with ⟨u, q1, q2, e⟩ | ⟨u, q1, q2, q3, e⟩
  · obtain ⟨d1, _, d3, _⟩ := digits_all u
    cases hd : Lib.decDigits u with
    | nil => exact absurd hd d3
    | cons c r => exact ⟨c, r, by rw [e, hd], .inl (d1 c (by rw [hd]; simp)), fun _ z hz => d1 z (by rw [hd]; simp [hz])⟩
  · obtain ⟨d1, _, d3, _⟩ := digits_all u
    exact ⟨45, Lib.decDigits u, e, .inr ⟨rfl, d1⟩, fun _ => d1⟩
/-- No byte of a number is another than a digit or a sign. -/
theorem itoa_mem {n : Int} (h : inR n) {z : UInt8} (hz : z ∈ Lib.itoa n) : z = 45 ∨ isDg z := by
  obtain ⟨c, r, e, h1, h2⟩ := itoa_head n h
  rw [e] at hz
  rcases List.mem_cons.1 hz with rfl | hz
  · exact h1.symm.imp (fun h => h.1) id
  · rcases h1 with h1 | h1
    · exact .inr (h2 h1 z hz)
    · exact .inr (h1.2 z hz)
theorem dg_ne {z m : UInt8} (h : z = 45 ∨ isDg z) (hm : m.toNat ≠ 45) (hm2 : m.toNat < 48 ∨ 57 < m.toNat) : z ≠ m := by
  rintro rfl
  rcases h with rfl | ⟨h1, h2⟩
  · exact hm rfl
  · omega
theorem valS_mem {K N : Int} (hN : inR N) {z : UInt8} (hz : z ∈ valS K N) : z ≠ 47 ∧ z ≠ 32 ∧ z ≠ 10 := by
  unfold valS at hz
  have hi : ∀ {z : UInt8}, z ∈ Lib.itoa N → z ≠ 47 ∧ z ≠ 32 ∧ z ≠ 10 := fun h => by
    have := itoa_mem hN h
    exact ⟨dg_ne this (by decide) (by decide), dg_ne this (by decide) (by decide), dg_ne this (by decide) (by decide)⟩
  repeat' (split at hz)
  · simp at hz; rcases hz with rfl | rfl | rfl <;> decide
  · simp at hz; rcases hz with rfl | rfl | rfl | rfl | rfl <;> decide
  · simp at hz; rcases hz with rfl | rfl | rfl | rfl <;> decide
  · rcases List.mem_cons.1 hz with rfl | hz
    · decide
    · exact hi hz
  · rcases List.mem_cons.1 hz with rfl | hz
    · decide
    · exact hi hz
  · exact hi hz
theorem valT_mem {v : api_Val} (hm : mayA v = true) (hN : inR v.N) {z : UInt8} (hz : z ∈ valA v) : z ≠ 32 ∧ z ≠ 10 := by
  have hk := mayV_K hm
  unfold valA valT at hz
  rcases List.mem_append.1 hz with hz | hz
  · rcases List.mem_append.1 hz with hz | hz
    · exact (valS_mem hN hz).2
    · simp at hz; subst hz; decide
  · have := itoa_mem (n := v.L) ⟨by omega, by omega⟩ hz
    exact ⟨dg_ne this (by decide) (by decide), dg_ne this (by decide) (by decide)⟩
theorem cutAt_app (c : UInt8) : ∀ (a b : Str), (∀ z, z ∈ a → z ≠ c) → cutAt c (a ++ c :: b) = (a, b, true)
  | [], b, _ => by rw [List.nil_append, show cutAt c (c :: b) = ([], b, true) from if_pos rfl]
  | x :: a, b, h => by
    have ih := cutAt_app c a b fun z hz => h z (by simp [hz])
    rw [List.cons_append, show cutAt c (x :: (a ++ c :: b)) = (x :: (cutAt c (a ++ c :: b)).1, (cutAt c (a ++ c :: b)).2.1, (cutAt c (a ++ c :: b)).2.2) from if_neg (h x (by simp)), ih]
theorem number_of {p : Str} {n : Int} (h : nval p = some n) : script_number p = some (n, true) := by
  unfold nval at h
  split at h
  · rename_i v e; injection h with h; subst h; exact e
  · cases h
theorem vval_valT {v : api_Val} (hm : mayA v = true) (hN : inR v.N) : vval (valA v) = some v := by
  have hk := mayV_K hm
  have hL : inR v.L := ⟨by omega, by omega⟩
  have hlen : (valA v).length ≤ 50 := valT_len _ _ _ hm hN
  have hcut : cutAt 47 (valA v) = (valS v.K v.N, Lib.itoa v.L, true) := by
    have := cutAt_app 47 (valS v.K v.N) (Lib.itoa v.L) fun z hz => (valS_mem hN hz).1
    unfold valA valT
    rw [List.append_assoc]; exact this
  have hkind : script_kind (valS v.K v.N) = some (v.K, v.N, true) := by
    rw [script_kind_eq]
    have hnum := number_of (nval_itoa hN)
    have hmm : mayV v.K v.N v.L = true := hm
    obtain ⟨c, r, e, h1, h2⟩ := itoa_head v.N hN
    have hcn : c ≠ 110 ∧ c ≠ 102 ∧ c ≠ 116 ∧ c ≠ 35 ∧ c ≠ 64 := by
      have := h1.symm.imp (fun h => h.1) id
      exact ⟨dg_ne this (by decide) (by decide), dg_ne this (by decide) (by decide), dg_ne this (by decide) (by decide), dg_ne this (by decide) (by decide), dg_ne this (by decide) (by decide)⟩
    have hz0 : (v.K = 0 ∨ v.K = 1 ∨ v.K = 2) → v.N = 0 := fun hk0 => by
      unfold mayV at hmm
      rcases hk0 with h | h | h <;> rw [h] at hmm <;> simp at hmm <;> exact hmm.2
    rcases hk.1 with h | h | h | h | h | h
    · have hN0 := hz0 (by omega)
      rw [h, hN0]; rfl
    · have hN0 := hz0 (by omega)
      rw [h, hN0]; rfl
    · have hN0 := hz0 (by omega)
      rw [h, hN0]; rfl
    · rw [h, show valS 3 v.N = Lib.itoa v.N from rfl]
      have hnm : isNm (Lib.itoa v.N) = false := by
        unfold isNm
        rw [e]
        simp [hcn.1, hcn.2.1, hcn.2.2.1]
      rw [hnm, if_neg (show ¬ (false = true) by simp)]
      have hkp : kindP (Lib.itoa v.N) = (3, Lib.itoa v.N) := by
        rw [e]; unfold kindP; dsimp only; rw [if_neg hcn.2.2.2.1, if_neg hcn.2.2.2.2]
      rw [hkp]; dsimp only
      rw [hnum]; rfl
    · rw [h, show valS 4 v.N = 35 :: Lib.itoa v.N from rfl]
      rw [show isNm (35 :: Lib.itoa v.N) = false from rfl, if_neg (show ¬ (false = true) by simp), show kindP (35 :: Lib.itoa v.N) = (4, Lib.itoa v.N) from rfl]
      dsimp only
      rw [hnum]; rfl
    · rw [h, show valS 5 v.N = 64 :: Lib.itoa v.N from rfl]
      rw [show isNm (64 :: Lib.itoa v.N) = false from rfl, if_neg (show ¬ (false = true) by simp), show kindP (64 :: Lib.itoa v.N) = (5, Lib.itoa v.N) from rfl]
      dsimp only
      rw [hnum]; rfl
  have hval : script_value (valA v) = some (v, true) := by
    unfold script_value
    rw [cut_one' 47 (by omega), bindS, hcut]
    dsimp only
    rw [hkind, bindS, number_of (nval_itoa hL), bindS]
    dsimp only
    rw [ifT, ifT, ifT, may_obj, bindS]
    have : mayV v.K v.N v.L = true := hm
    dsimp only
    rw [this, bindS]
  unfold vval
  rw [hval]
theorem vval_back {p : Str} (hp : p.length ≤ 1000000) {v : api_Val} (h : vval p = some v) : mayA v = true ∧ valA v = p ∧ inR v.N := by
  have hl := cutAt_len 47 p
  have hb := cutAt_back 47 p
  have hs : script_value p = some (v, true) := by
    unfold vval at h
    split at h
    · rename_i u e; injection h with h; subst h; exact e
    · cases h
  unfold script_value at hs
  rw [cut_one' 47 (by omega), bindS] at hs
  generalize cutAt 47 p = ct at *
  obtain ⟨a, b, fd⟩ := ct
  dsimp only at *
  have hkl := kindP_len a
  obtain ⟨l, bl, n1, n2, n3⟩ := number_ok (s := b) (by omega)
  obtain ⟨n, bn, m1, m2, m3⟩ := number_ok (s := (kindP a).2) (by omega)
  rw [script_kind_eq, n1] at hs
  have hv : ∃ K N, (if isNm a = true then some (nmK a, 0, true) else (script_number (kindP a).2).bind fun v => some ((kindP a).1, v.1, v.2)) = some (K, N, true) ∧ fd = true ∧ bl = true ∧ mayV K N l = true ∧ v = ⟨K, N, l⟩ := by
    cases hx : (if isNm a = true then some (nmK a, (0 : Int), true) else (script_number (kindP a).2).bind fun v => some ((kindP a).1, v.1, v.2)) with
    | none => rw [hx] at hs; cases hs
    | some x =>
      obtain ⟨K, N, bb⟩ := x
      rw [hx, bindS, bindS] at hs
      dsimp only at hs
      cases fd <;> cases bb <;> cases bl <;> simp only [ifT, ifF, ifTr, ifFa, Bool.false_eq_true, bindS, may_obj] at hs
      all_goals first
        | (simp only [Option.some.injEq, Prod.mk.injEq] at hs; exact ⟨K, N, rfl, rfl, rfl, hs.2, hs.1.symm⟩)
        | (simp at hs; done)
        | (simp at hs)
  obtain ⟨K, N, hk, rfl, rfl, hm, rfl⟩ := hv
  rw [ifT] at hb
  have hL := (n2 rfl).1
  refine ⟨hm, ?_, ?_⟩
  · unfold valA valT
    dsimp only
    rw [hL]
    have : valS K N = a := by
      cases hn : isNm a with
      | true =>
        rw [hn, if_pos rfl] at hk
        simp only [Option.some.injEq, Prod.mk.injEq] at hk
        obtain ⟨rfl, rfl, _⟩ := hk
        unfold isNm at hn
        simp only [Bool.or_eq_true, beq_iff_eq] at hn
        rcases hn with (h | h) | h <;> subst h <;> rfl
      | false =>
        rw [hn, if_neg (show ¬ (false = true) by simp), m1, bindS] at hk
        simp only [Option.some.injEq, Prod.mk.injEq] at hk
        obtain ⟨rfl, rfl, rfl⟩ := hk
        have hN := (m2 rfl).1
        unfold kindP at hN ⊢
        cases a with
        | nil => exact hN
        | cons x r =>
          dsimp only at hN ⊢
          by_cases hx : x = 35
          · rw [if_pos hx] at hN ⊢; dsimp only at hN ⊢; rw [show valS 4 n = 35 :: Lib.itoa n from rfl, hN, hx]
          · rw [if_neg hx] at hN ⊢
            by_cases hy : x = 64
            · rw [if_pos hy] at hN ⊢; dsimp only at hN ⊢; rw [show valS 5 n = 64 :: Lib.itoa n from rfl, hN, hy]
            · rw [if_neg hy] at hN ⊢; exact hN
    rw [this, hb]; simp
  · cases hn : isNm a with
    | true =>
      rw [hn, if_pos rfl] at hk
      simp only [Option.some.injEq, Prod.mk.injEq] at hk
      obtain ⟨rfl, rfl, _⟩ := hk
      exact ⟨by dsimp only; omega, by dsimp only; omega⟩
    | false =>
      rw [hn, if_neg (show ¬ (false = true) by simp), m1, bindS] at hk
      simp only [Option.some.injEq, Prod.mk.injEq] at hk
      obtain ⟨rfl, rfl, rfl⟩ := hk
      exact (m2 rfl).2
end Go.Cq

set_option maxRecDepth 100000
set_option linter.unusedVariables false
set_option linter.unusedSimpArgs false
namespace Go.Cq
open Go Go.Av

/-! ### Lines, there and back -/
theorem joinTail_app (a b : List Str) : Lib.joinTail [32] (a ++ b) = Lib.joinTail [32] a ++ Lib.joinTail [32] b := by simp [Lib.joinTail]
theorem joinTail_split (s : Str) : Lib.joinTail [32] (splitC 32 s) = 32 :: s := by
  have h := join_split s
  have hn := splitC_ne 32 s
  cases hs : splitC 32 s with
  | nil => exact absurd hs hn
  | cons p l =>
    rw [hs, Lib.join_cons] at h
    simp only [Lib.joinTail, List.map_cons, List.flatten_cons, List.cons_append, List.nil_append] at h ⊢
    rw [h]
theorem split_pieces : ∀ (p : Str) (l : List Str), (∀ z, z ∈ p → z ≠ 32) → (∀ q, q ∈ l → ∀ z, z ∈ q → z ≠ 32) → splitC 32 (Lib.join (p :: l) [32]) = p :: l
  | [], [], _, _ => rfl
  | [], q :: l, _, h => by
    have ih := split_pieces q l (h q (by simp)) (fun r hr => h r (by simp [hr]))
    rw [Lib.join_cons, List.nil_append]
    simp only [Lib.joinTail, List.map_cons, List.flatten_cons, List.cons_append, List.nil_append]
    rw [show splitC 32 (32 :: (q ++ (List.map (fun x => 32 :: x) l).flatten)) = [] :: splitC 32 (q ++ (List.map (fun x => 32 :: x) l).flatten) from if_pos rfl]
    rw [Lib.join_cons] at ih
    simp only [Lib.joinTail, List.cons_append, List.nil_append] at ih
    rw [ih]
  | x :: p, l, h1, h2 => by
    have ih := split_pieces p l (fun z hz => h1 z (by simp [hz])) h2
    rw [Lib.join_cons, List.cons_append]
    rw [Lib.join_cons] at ih
    rw [show splitC 32 (x :: (p ++ Lib.joinTail [32] l)) = match splitC 32 (p ++ Lib.joinTail [32] l) with
      | [] => [[x]]
      | p :: l => (x :: p) :: l from if_neg (h1 x (by simp)), ih]
theorem split_free (s : Str) : ∀ q, q ∈ splitC 32 s → ∀ z, z ∈ q → z ≠ 32 := by
  induction s with
  | nil => intro q hq z hz; simp [splitC] at hq; subst hq; simp at hz
  | cons x r ih =>
    intro q hq z hz
    unfold splitC at hq
    split at hq
    · rcases List.mem_cons.1 hq with rfl | hq
      · simp at hz
      · exact ih q hq z hz
    · rename_i hx
      split at hq
      · simp at hq; subst hq; simp at hz; subst hz; exact hx
      · rename_i p l e
        rcases List.mem_cons.1 hq with rfl | hq
        · rcases List.mem_cons.1 hz with rfl | hz
          · exact hx
          · exact ih p (by rw [e]; simp) z hz
        · exact ih q (by rw [e]; simp [hq]) z hz
theorem split_sub (s : Str) : ∀ q, q ∈ splitC 32 s → ∀ z, z ∈ q → z ∈ s := by
  induction s with
  | nil => intro q hq z hz; simp [splitC] at hq; subst hq; simp at hz
  | cons x r ih =>
    intro q hq z hz
    unfold splitC at hq
    split at hq
    · rcases List.mem_cons.1 hq with rfl | hq
      · simp at hz
      · exact List.mem_cons_of_mem _ (ih q hq z hz)
    · split at hq
      · simp at hq; subst hq; simp at hz; subst hz; simp
      · rename_i p l e
        rcases List.mem_cons.1 hq with rfl | hq
        · rcases List.mem_cons.1 hz with rfl | hz
          · simp
          · exact List.mem_cons_of_mem _ (ih p (by rw [e]; simp) z hz)
        · exact List.mem_cons_of_mem _ (ih q (by rw [e]; simp [hq]) z hz)
/-- All numbers, all values, a text: these stand last. -/
def okL : Str → Bool
  | [] => true
  | k :: f => ((k != 42 && k != 86 && k != 115) || f == []) && okL f
theorem form_okL (name : Str) : okL (formF name).1 = true := by
  unfold formF
  have hall : (nmL.zip fmL).all (fun p => okL p.2) = true := by decide
  cases h : (nmL.zip fmL).find? (fun p => p.1 == name) with
  | none => rfl
  | some p => exact List.all_eq_true.1 hall p (List.mem_of_find?_eq_some h)
def add (a d : Cmd) : Cmd := ⟨a.Name, a.N ++ d.N, a.V ++ d.V, a.W ++ d.W, a.S ++ d.S⟩
def emp (c : Cmd) : Prop := c.N = [] ∧ c.V = [] ∧ c.W = [] ∧ c.S = []
theorem add_emp (a : Cmd) {d : Cmd} (h : emp d) : add a d = a := by
  obtain ⟨h1, h2, h3, h4⟩ := h
  simp [add, h1, h2, h3, h4]
theorem allI_ok : ∀ (ns : List Int) (a : Cmd), (∀ n, n ∈ ns → inR n) → allI (ns.map Lib.itoa) a = some ⟨a.Name, a.N ++ ns, a.V, a.W, a.S⟩
  | [], a, _ => by simp [allI]
  | n :: ns, a, h => by
    have ih := allI_ok ns (addN a n) fun m hm => h m (by simp [hm])
    simp only [List.map_cons, allI]
    rw [nval_itoa (h n (by simp)), bindS, ih]
    simp [addN]
theorem allV_ok : ∀ (vs : List api_Val) (a : Cmd), (∀ v, v ∈ vs → mayA v = true ∧ inR v.N) → allV (vs.map valA) a = some ⟨a.Name, a.N, a.V ++ vs, a.W, a.S⟩
  | [], a, _ => by simp [allV]
  | n :: ns, a, h => by
    have ih := allV_ok ns (addV a n) fun m hm => h m (by simp [hm])
    simp only [List.map_cons, allV]
    rw [vval_valT (h n (by simp)).1 (h n (by simp)).2, bindS, ih]
    simp [addV]
def free (q : Str) : Prop := ∀ z, z ∈ q → z ≠ 32
def clean (q : Str) : Prop := ∀ z, z ∈ q → z ≠ 10
theorem wordB_mem {s : Str} (h : wordB s = true) {z : UInt8} (hz : z ∈ s) : z ≠ 32 ∧ z ≠ 10 := by
  unfold wordB at h
  simp only [Bool.and_eq_true, Bool.not_eq_true', List.any_eq_false] at h
  have := h.2 z hz
  unfold badB at this
  simp only [Bool.or_eq_true, decide_eq_true_eq, not_or] at this
  constructor
  · rintro rfl; exact this.1 (by decide)
  · rintro rfl; exact this.1 (by decide)
theorem itoa_free {n : Int} (h : inR n) : free (Lib.itoa n) ∧ clean (Lib.itoa n) := ⟨fun z hz => dg_ne (itoa_mem h hz) (by decide) (by decide), fun z hz => dg_ne (itoa_mem h hz) (by decide) (by decide)⟩
/-- What was written is read. -/
theorem write_read : ∀ (f : Str) (c a : Cmd) (ps : List Str) (c' : Cmd), (∀ k, k ∈ f → isLt k = true) → okL f = true → okF f = true → okC c → wrF f c = some (ps, c', false) → emp c' → (f.contains 119 = true → a.W = []) → (f.contains 115 = true → a.S = []) →
    ∃ qs, Lib.joinTail [32] ps = Lib.joinTail [32] qs ∧ (∀ q, q ∈ qs → free q) ∧ (∀ q, q ∈ ps → clean q) ∧ readF f qs a = some (add a c, [])
  | [], c, a, ps, c', _, _, _, _, h, he, _, _ => by
    simp only [wrF, Option.some.injEq, Prod.mk.injEq] at h
    obtain ⟨rfl, rfl, _⟩ := h
    exact ⟨[], rfl, by simp, by simp, by rw [add_emp a he]; rfl⟩
  | k :: f, c, a, ps, c', hk, ho, hF, hc, h, he, hW, hS => by
    have hcons : wrF (k :: f) c = (wpart k c).bind fun x => (wrF f x.2).bind fun y => some (x.1 ++ y.1, y.2.1, badWS k c || y.2.2) := rfl
    rw [hcons] at h
    have hkl := hk k (by simp)
    have hcont : ∀ z : UInt8, (k :: f).contains z = (z == k || f.contains z) := fun z => List.contains_cons
    simp only [okL, okF, Bool.and_eq_true, Bool.or_eq_true, bne_iff_ne, ne_eq, Bool.not_eq_true', beq_iff_eq] at ho hF
    cases hp : wpart k c with
    | none => rw [hp] at h; cases h
    | some x =>
      rw [hp, bindS] at h
      cases hq : wrF f x.2 with
      | none => rw [hq] at h; cases h
      | some y =>
        obtain ⟨a', b', d⟩ := y
        rw [hq, bindS] at h
        simp only [Option.some.injEq, Prod.mk.injEq, Bool.or_eq_false_iff] at h
        obtain ⟨rfl, rfl, hbw, rfl⟩ := h
        have hkf : ∀ k, k ∈ f → isLt k = true := fun k hk' => hk k (by simp [hk'])
        have hW' : f.contains 119 = true → a.W = [] := fun h => hW (by rw [hcont, h]; simp)
        have hS' : f.contains 115 = true → a.S = [] := fun h => hS (by rw [hcont, h]; simp)
        -- the rest, once a piece was read
        have step : ∀ (a1 : Cmd) (p : Str), x.1 = [p] → okC x.2 → free p → clean p → (∀ qs, partF k (p :: qs) a = some (a1, qs)) → add a1 x.2 = add a c → (f.contains 119 = true → a1.W = []) → (f.contains 115 = true → a1.S = []) →
            ∃ qs, Lib.joinTail [32] (x.1 ++ a') = Lib.joinTail [32] qs ∧ (∀ q, q ∈ qs → free q) ∧ (∀ q, q ∈ x.1 ++ a' → clean q) ∧ readF (k :: f) qs a = some (add a c, []) := fun a1 p e1 e2 e3 e4 e5 e6 e7 e8 => by
          obtain ⟨qs, g1, g2, g3, g4⟩ := write_read f x.2 a1 a' b' hkf ho.2 hF.2 e2 hq he e7 e8
          refine ⟨p :: qs, ?_, ?_, ?_, ?_⟩
          · rw [e1, joinTail_app, g1, ← joinTail_app]; rfl
          · intro q hq'; rcases List.mem_cons.1 hq' with rfl | hq'
            · exact e3
            · exact g2 q hq'
          · intro q hq'; rw [e1] at hq'; rcases List.mem_cons.1 hq' with rfl | hq'
            · exact e4
            · exact g3 q hq'
          · unfold readF; rw [e5, bindS]; dsimp only; rw [g4, e6]
        have last : f = [] → ∀ (qs : List Str), Lib.joinTail [32] x.1 = Lib.joinTail [32] qs → (∀ q, q ∈ qs → free q) → (∀ q, q ∈ x.1 → clean q) → (emp x.2 → partF k qs a = some (add a c, [])) →
            ∃ qs, Lib.joinTail [32] (x.1 ++ a') = Lib.joinTail [32] qs ∧ (∀ q, q ∈ qs → free q) ∧ (∀ q, q ∈ x.1 ++ a' → clean q) ∧ readF (k :: f) qs a = some (add a c, []) := fun hf qs e1 e2 e3 e4 => by
          subst hf
          simp only [wrF, Option.some.injEq, Prod.mk.injEq] at hq
          obtain ⟨rfl, rfl, _⟩ := hq
          refine ⟨qs, by rw [List.append_nil]; exact e1, e2, by rw [List.append_nil]; exact e3, ?_⟩
          unfold readF; rw [e4 he, bindS]; rfl
        unfold isLt at hkl
        simp only [Bool.or_eq_true, beq_iff_eq] at hkl
        rcases hkl with ((((rfl | rfl) | rfl) | rfl) | rfl) | rfl
        · -- a number
          have hwp : wpart 105 c = (match c.N with
            | [] => none
            | n :: ns => some ([Lib.itoa n], tkN c ns)) := rfl
          rw [hwp] at hp
          cases hN : c.N with
          | nil => rw [hN] at hp; cases hp
          | cons n ns =>
            rw [hN] at hp
            simp only [Option.some.injEq] at hp
            subst hp
            have hn := hc.1 n (by rw [hN]; simp)
            refine step (addN a n) (Lib.itoa n) rfl ⟨fun m hm => hc.1 m (by rw [hN]; exact List.mem_cons_of_mem _ hm), hc.2⟩ (itoa_free hn).1 (itoa_free hn).2 (fun qs => ?_) ?_ hW' hS'
            · show (nval (Lib.itoa n)).bind _ = _
              rw [nval_itoa hn]; rfl
            · simp [add, addN, tkN, hN]
        · -- all numbers
          have hf : f = [] := by rcases ho.1 with h | h
                                 · exact absurd rfl h.1.1
                                 · exact h
          have hwp : wpart 42 c = some (c.N.map Lib.itoa, tkN c []) := rfl
          rw [hwp] at hp
          simp only [Option.some.injEq] at hp
          subst hp
          refine last hf (c.N.map Lib.itoa) rfl (fun q hq' => ?_) (fun q hq' => ?_) (fun he' => ?_)
          · obtain ⟨n, hn, rfl⟩ := List.mem_map.1 hq'; exact (itoa_free (hc.1 n hn)).1
          · obtain ⟨n, hn, rfl⟩ := List.mem_map.1 hq'; exact (itoa_free (hc.1 n hn)).2
          · show (allI (c.N.map Lib.itoa) a).bind _ = _
            rw [allI_ok c.N a hc.1, bindS]
            obtain ⟨_, e2, e3, e4⟩ := he'
            simp only [tkN] at e2 e3 e4
            simp [add, e2, e3, e4]
        · -- a value
          have hwp : wpart 118 c = (match c.V with
            | [] => none
            | v :: vs => if mayA v = true then some ([valA v], tkV c vs) else none) := rfl
          rw [hwp] at hp
          cases hV : c.V with
          | nil => rw [hV] at hp; cases hp
          | cons v vs =>
            rw [hV] at hp
            dsimp only at hp
            split at hp
            · rename_i hm
              simp only [Option.some.injEq] at hp
              subst hp
              have hn := hc.2 v (by rw [hV]; simp)
              refine step (addV a v) (valA v) rfl ⟨hc.1, fun m hm => hc.2 m (by rw [hV]; exact List.mem_cons_of_mem _ hm)⟩ (fun z hz => (valT_mem hm hn hz).1) (fun z hz => (valT_mem hm hn hz).2) (fun qs => ?_) ?_ hW' hS'
              · show (vval (valA v)).bind _ = _
                rw [vval_valT hm hn]; rfl
              · simp [add, addV, tkV, hV]
            · cases hp
        · -- all values
          have hf : f = [] := by rcases ho.1 with h | h
                                 · exact absurd rfl h.1.2
                                 · exact h
          have hwp : wpart 86 c = (if c.V.all mayA = true then some (c.V.map valA, tkV c []) else none) := rfl
          rw [hwp] at hp
          split at hp
          · rename_i hm
            simp only [Option.some.injEq] at hp
            subst hp
            have hall : ∀ v, v ∈ c.V → mayA v = true ∧ inR v.N := fun v hv => ⟨List.all_eq_true.1 hm v hv, hc.2 v hv⟩
            refine last hf (c.V.map valA) rfl (fun q hq' => ?_) (fun q hq' => ?_) (fun he' => ?_)
            · obtain ⟨n, hn, rfl⟩ := List.mem_map.1 hq'; exact fun z hz => (valT_mem (hall n hn).1 (hall n hn).2 hz).1
            · obtain ⟨n, hn, rfl⟩ := List.mem_map.1 hq'; exact fun z hz => (valT_mem (hall n hn).1 (hall n hn).2 hz).2
            · show (allV (c.V.map valA) a).bind _ = _
              rw [allV_ok c.V a hall, bindS]
              obtain ⟨e1, _, e3, e4⟩ := he'
              simp only [tkV] at e1 e3 e4
              simp [add, e1, e3, e4]
          · cases hp
        · -- a word
          have hwp : wpart 119 c = some ([c.W], setW c []) := rfl
          rw [hwp] at hp
          simp only [Option.some.injEq] at hp
          subst hp
          have hw : wordB c.W = true := by
            have : badWS 119 c = !wordB c.W := rfl
            rw [this] at hbw; simpa using hbw
          have ha := hW (by rw [hcont]; simp)
          have hnot : f.contains 119 = false := by rcases hF.1.1.1.1 with h | h
                                                   · exact absurd rfl h
                                                   · exact h
          refine step (setW a c.W) c.W rfl hc (fun z hz => (wordB_mem hw hz).1) (fun z hz => (wordB_mem hw hz).2) (fun qs => ?_) ?_ (fun h => by rw [hnot] at h; cases h) hS'
          · show (if wordB c.W = true then some (setW a c.W, qs) else none) = _
            rw [if_pos hw]
          · simp [add, setW, ha]
        · -- a text
          have hf : f = [] := by rcases ho.1 with h | h
                                 · exact absurd rfl h.2
                                 · exact h
          have hwp : wpart 115 c = some ([c.S], setS c []) := rfl
          rw [hwp] at hp
          simp only [Option.some.injEq] at hp
          subst hp
          have ha := hS (by rw [hcont]; simp)
          have hnl : noNL c.S = true := by
            have : badWS 115 c = !noNL c.S := rfl
            rw [this] at hbw; simpa using hbw
          refine last hf (splitC 32 c.S) ?_ (split_free c.S) (fun q hq' => ?_) (fun he' => ?_)
          · rw [joinTail_split]; simp [Lib.joinTail]
          · simp at hq'; subst hq'
            intro z hz e; subst e
            unfold noNL at hnl
            simp only [Bool.not_eq_true', List.any_eq_false] at hnl
            have := hnl _ hz
            simp at this
          · obtain ⟨e1, e2, e3, _⟩ := he'
            simp only [setS] at e1 e2 e3
            have hj := join_split c.S
            have hn := splitC_ne 32 c.S
            cases hs : splitC 32 c.S with
            | nil => exact absurd hs hn
            | cons p l =>
              rw [hs] at hj
              show some (setS a (Lib.join (p :: l) [32]), []) = _
              rw [hj]
              simp [add, setS, ha, e1, e2, e3]
/-- What was read is written. -/
theorem read_write : ∀ (f : Str) (qs : List Str) (a c : Cmd), (∀ k, k ∈ f → isLt k = true) → okL f = true → okF f = true → (∀ q, q ∈ qs → free q ∧ clean q ∧ q.length ≤ 1000000) → readF f qs a = some (c, []) → (f.contains 119 = true → a.W = []) → (f.contains 115 = true → a.S = []) →
    ∃ d ps e, c = add a d ∧ d.Name = a.Name ∧ wrF f d = some (ps, e, false) ∧ emp e ∧ okC d ∧ Lib.joinTail [32] ps = Lib.joinTail [32] qs ∧ (f.contains 119 = false → d.W = []) ∧ (f.contains 115 = false → d.S = []) ∧ 2 * (d.N.length + d.V.length) + d.W.length + d.S.length ≤ 2 * tot qs
  | [], qs, a, c, _, _, _, _, h, _, _ => by
    simp only [readF, Option.some.injEq, Prod.mk.injEq] at h
    obtain ⟨rfl, rfl⟩ := h
    exact ⟨⟨a.Name, [], [], [], []⟩, [], ⟨a.Name, [], [], [], []⟩, by simp [add], rfl, rfl, ⟨rfl, rfl, rfl, rfl⟩, ⟨by simp, by simp⟩, rfl, fun _ => rfl, fun _ => rfl, by simp⟩
  | k :: f, qs, a, c, hk, ho, hF, hq, h, hW, hS => by
    have hkl := hk k (by simp)
    have hcont : ∀ z : UInt8, (k :: f).contains z = (z == k || f.contains z) := fun z => List.contains_cons
    simp only [okL, okF, Bool.and_eq_true, Bool.or_eq_true, bne_iff_ne, ne_eq, Bool.not_eq_true', beq_iff_eq] at ho hF
    have hkf : ∀ k, k ∈ f → isLt k = true := fun k hk' => hk k (by simp [hk'])
    have hW' : f.contains 119 = true → a.W = [] := fun h => hW (by rw [hcont, h]; simp)
    have hS' : f.contains 115 = true → a.S = [] := fun h => hS (by rw [hcont, h]; simp)
    unfold readF at h
    have hwr : ∀ (d1 : Cmd) (x : List Str × Cmd) (ps e), wpart k d1 = some x → badWS k d1 = false → wrF f x.2 = some (ps, e, false) → wrF (k :: f) d1 = some (x.1 ++ ps, e, false) := fun d1 x ps e h1 h2 h3 => by
      have hcons : wrF (k :: f) d1 = (wpart k d1).bind fun x => (wrF f x.2).bind fun y => some (x.1 ++ y.1, y.2.1, badWS k d1 || y.2.2) := rfl
      rw [hcons, h1, bindS, h3, bindS, h2]; rfl
    unfold isLt at hkl
    simp only [Bool.or_eq_true, beq_iff_eq] at hkl
    have htail : ∀ (p : Str) (ps qs : List Str), Lib.joinTail [32] ps = Lib.joinTail [32] qs → Lib.joinTail [32] ([p] ++ ps) = Lib.joinTail [32] (p :: qs) := fun p ps qs h => by
      rw [joinTail_app, h, ← joinTail_app]; rfl
    have hempc : ∀ d : Cmd, wrF [] d = some ([], d, false) := fun d => rfl
    rcases hkl with ((((rfl | rfl) | rfl) | rfl) | rfl) | rfl
    · cases qs with
      | nil => cases h
      | cons p qs =>
        have hp : partF 105 (p :: qs) a = (nval p).bind fun n => some (addN a n, qs) := rfl
        rw [hp] at h
        cases hn : nval p with
        | none => rw [hn] at h; cases h
        | some n =>
          rw [hn, bindS, bindS] at h
          obtain ⟨e1, e2⟩ := nval_back (hq p (by simp)).2.2 hn
          obtain ⟨d, ps, e, g1, g2, g3, g4, g5, g6, g7, g8, g9⟩ := read_write f qs (addN a n) c hkf ho.2 hF.2 (fun q hq' => hq q (by simp [hq'])) h hW' hS'
          refine ⟨⟨a.Name, n :: d.N, d.V, d.W, d.S⟩, [p] ++ ps, e, ?_, rfl, ?_, g4, ⟨fun m hm => ?_, g5.2⟩, htail p ps qs g6, fun h => g7 (by rw [hcont] at h; simp at h; simpa using h), fun h => g8 (by rw [hcont] at h; simp at h; simpa using h), ?_⟩
          · rw [g1]; simp [add, addN]
          · have := hwr ⟨a.Name, n :: d.N, d.V, d.W, d.S⟩ ([Lib.itoa n], d) ps e (by
              show some ([Lib.itoa n], tkN ⟨a.Name, n :: d.N, d.V, d.W, d.S⟩ d.N) = _
              have : tkN ⟨a.Name, n :: d.N, d.V, d.W, d.S⟩ d.N = d := by unfold tkN; dsimp only; rw [show a.Name = d.Name from g2.symm]
              rw [this]) rfl g3
            rw [e1] at this; exact this
          · rcases List.mem_cons.1 hm with rfl | hm
            · exact e2
            · exact g5.1 m hm
          · simp [tot]; omega
    · have hf : f = [] := by rcases ho.1 with h | h
                             · exact absurd rfl h.1.1
                             · exact h
      subst hf
      have hall : ∀ (qs : List Str) (a : Cmd), (∀ q, q ∈ qs → q.length ≤ 1000000) → ∀ c', allI qs a = some c' → ∃ ns : List Int, c' = ⟨a.Name, a.N ++ ns, a.V, a.W, a.S⟩ ∧ ns.map Lib.itoa = qs ∧ ∀ n, n ∈ ns → inR n := fun qs => by
        induction qs with
        | nil => intro a _ c' h; simp only [allI, Option.some.injEq] at h; exact ⟨[], by rw [← h]; simp, rfl, by simp⟩
        | cons p qs ih =>
          intro a hl c' h
          simp only [allI] at h
          cases hn : nval p with
          | none => rw [hn] at h; cases h
          | some n =>
            rw [hn, bindS] at h
            obtain ⟨e1, e2⟩ := nval_back (hl p (by simp)) hn
            obtain ⟨ns, i1, i2, i3⟩ := ih (addN a n) (fun q hq => hl q (by simp [hq])) c' h
            exact ⟨n :: ns, by rw [i1]; simp [addN], by simp [e1, i2], fun m hm => by
              rcases List.mem_cons.1 hm with rfl | hm
              · exact e2
              · exact i3 m hm⟩
      have hp : partF 42 qs a = (allI qs a).bind fun c => some (c, []) := rfl
      rw [hp] at h
      cases hn : allI qs a with
      | none => rw [hn] at h; cases h
      | some c1 =>
        rw [hn, bindS, bindS] at h
        simp only [readF, Option.some.injEq, Prod.mk.injEq, and_true] at h
        subst h
        obtain ⟨ns, i1, i2, i3⟩ := hall qs a (fun q hq' => (hq q hq').2.2) c1 hn
        have htl := tot_len qs
        have hl2 : ns.length = qs.length := by rw [← i2]; simp
        refine ⟨⟨a.Name, ns, [], [], []⟩, ns.map Lib.itoa ++ [], ⟨a.Name, [], [], [], []⟩, by rw [i1]; simp [add], rfl, hwr ⟨a.Name, ns, [], [], []⟩ (ns.map Lib.itoa, ⟨a.Name, [], [], [], []⟩) [] _ rfl rfl (hempc _), ⟨rfl, rfl, rfl, rfl⟩, ⟨i3, by simp⟩, by rw [List.append_nil, i2], fun _ => rfl, fun _ => rfl, by simp; omega⟩
    · cases qs with
      | nil => cases h
      | cons p qs =>
        have hp : partF 118 (p :: qs) a = (vval p).bind fun n => some (addV a n, qs) := rfl
        rw [hp] at h
        cases hn : vval p with
        | none => rw [hn] at h; cases h
        | some n =>
          rw [hn, bindS, bindS] at h
          obtain ⟨e0, e1, e2⟩ := vval_back (hq p (by simp)).2.2 hn
          obtain ⟨d, ps, e, g1, g2, g3, g4, g5, g6, g7, g8, g9⟩ := read_write f qs (addV a n) c hkf ho.2 hF.2 (fun q hq' => hq q (by simp [hq'])) h hW' hS'
          refine ⟨⟨a.Name, d.N, n :: d.V, d.W, d.S⟩, [p] ++ ps, e, ?_, rfl, ?_, g4, ⟨g5.1, fun m hm => ?_⟩, htail p ps qs g6, fun h => g7 (by rw [hcont] at h; simp at h; simpa using h), fun h => g8 (by rw [hcont] at h; simp at h; simpa using h), ?_⟩
          · rw [g1]; simp [add, addV]
          · have := hwr ⟨a.Name, d.N, n :: d.V, d.W, d.S⟩ ([valA n], d) ps e (by
              show (if mayA n = true then some ([valA n], tkV ⟨a.Name, d.N, n :: d.V, d.W, d.S⟩ d.V) else none) = _
              have : tkV ⟨a.Name, d.N, n :: d.V, d.W, d.S⟩ d.V = d := by unfold tkV; dsimp only; rw [show a.Name = d.Name from g2.symm]
              rw [if_pos e0, this]) rfl g3
            rw [e1] at this; exact this
          · rcases List.mem_cons.1 hm with rfl | hm
            · exact e2
            · exact g5.2 m hm
          · simp [tot]; omega
    · have hf : f = [] := by rcases ho.1 with h | h
                             · exact absurd rfl h.1.2
                             · exact h
      subst hf
      have hall : ∀ (qs : List Str) (a : Cmd), (∀ q, q ∈ qs → q.length ≤ 1000000) → ∀ c', allV qs a = some c' → ∃ ns : List api_Val, c' = ⟨a.Name, a.N, a.V ++ ns, a.W, a.S⟩ ∧ ns.map valA = qs ∧ ∀ n, n ∈ ns → mayA n = true ∧ inR n.N := fun qs => by
        induction qs with
        | nil => intro a _ c' h; simp only [allV, Option.some.injEq] at h; exact ⟨[], by rw [← h]; simp, rfl, by simp⟩
        | cons p qs ih =>
          intro a hl c' h
          simp only [allV] at h
          cases hn : vval p with
          | none => rw [hn] at h; cases h
          | some n =>
            rw [hn, bindS] at h
            obtain ⟨e0, e1, e2⟩ := vval_back (hl p (by simp)) hn
            obtain ⟨ns, i1, i2, i3⟩ := ih (addV a n) (fun q hq => hl q (by simp [hq])) c' h
            exact ⟨n :: ns, by rw [i1]; simp [addV], by simp [e1, i2], fun m hm => by
              rcases List.mem_cons.1 hm with rfl | hm
              · exact ⟨e0, e2⟩
              · exact i3 m hm⟩
      have hp : partF 86 qs a = (allV qs a).bind fun c => some (c, []) := rfl
      rw [hp] at h
      cases hn : allV qs a with
      | none => rw [hn] at h; cases h
      | some c1 =>
        rw [hn, bindS, bindS] at h
        simp only [readF, Option.some.injEq, Prod.mk.injEq, and_true] at h
        subst h
        obtain ⟨ns, i1, i2, i3⟩ := hall qs a (fun q hq' => (hq q hq').2.2) c1 hn
        have htl := tot_len qs
        have hl2 : ns.length = qs.length := by rw [← i2]; simp
        have hwp : wpart 86 ⟨a.Name, [], ns, [], []⟩ = some (ns.map valA, ⟨a.Name, [], [], [], []⟩) := by
          show (if ns.all mayA = true then some (ns.map valA, tkV ⟨a.Name, [], ns, [], []⟩ []) else none) = _
          rw [if_pos (List.all_eq_true.2 fun n hn => (i3 n hn).1)]; rfl
        refine ⟨⟨a.Name, [], ns, [], []⟩, ns.map valA ++ [], ⟨a.Name, [], [], [], []⟩, by rw [i1]; simp [add], rfl, hwr ⟨a.Name, [], ns, [], []⟩ (ns.map valA, ⟨a.Name, [], [], [], []⟩) [] _ hwp rfl (hempc _), ⟨rfl, rfl, rfl, rfl⟩, ⟨by simp, fun n hn => (i3 n hn).2⟩, by rw [List.append_nil, i2], fun _ => rfl, fun _ => rfl, by simp; omega⟩
    · cases qs with
      | nil => cases h
      | cons p qs =>
        have hp : partF 119 (p :: qs) a = if wordB p = true then some (setW a p, qs) else none := rfl
        rw [hp] at h
        by_cases hw : wordB p = true
        · rw [if_pos hw, bindS] at h
          have ha := hW (by rw [hcont]; simp)
          have hnot : f.contains 119 = false := by rcases hF.1.1.1.1 with h | h
                                                   · exact absurd rfl h
                                                   · exact h
          obtain ⟨d, ps, e, g1, g2, g3, g4, g5, g6, g7, g8, g9⟩ := read_write f qs (setW a p) c hkf ho.2 hF.2 (fun q hq' => hq q (by simp [hq'])) h (fun h => by rw [hnot] at h; cases h) hS'
          have hdW := g7 hnot
          refine ⟨⟨a.Name, d.N, d.V, p, d.S⟩, [p] ++ ps, e, ?_, rfl, ?_, g4, g5, htail p ps qs g6, fun h => by rw [hcont] at h; simp at h, fun h => g8 (by rw [hcont] at h; simp at h; simpa using h), ?_⟩
          · rw [g1]; simp [add, setW, hdW, ha]
          · exact hwr ⟨a.Name, d.N, d.V, p, d.S⟩ ([p], d) ps e (by
              show some ([p], setW ⟨a.Name, d.N, d.V, p, d.S⟩ []) = _
              have : setW ⟨a.Name, d.N, d.V, p, d.S⟩ [] = d := by unfold setW; dsimp only; rw [show a.Name = d.Name from g2.symm, ← hdW]
              rw [this]) (by show (!wordB p) = false; rw [hw]; rfl) g3
          · rw [hdW] at g9; simp [tot] at g9 ⊢; omega
        · rw [if_neg hw] at h; cases h
    · have hf : f = [] := by rcases ho.1 with h | h
                             · exact absurd rfl h.2
                             · exact h
      subst hf
      cases qs with
      | nil => cases h
      | cons p l =>
        have hp : partF 115 (p :: l) a = some (setS a (Lib.join (p :: l) [32]), []) := rfl
        rw [hp, bindS] at h
        simp only [readF, Option.some.injEq, Prod.mk.injEq, and_true] at h
        subst h
        have ha := hS (by rw [hcont]; simp)
        have hj := tot_join (p :: l)
        have hcl : ∀ (l : List Str), (∀ q, q ∈ l → clean q) → clean (Lib.joinTail [32] l) := fun l hl z hz => by
          simp only [Lib.joinTail, List.mem_flatten, List.mem_map] at hz
          obtain ⟨_, ⟨q, hq, rfl⟩, hz⟩ := hz
          rcases List.mem_cons.1 (by simpa using hz : z ∈ 32 :: q) with rfl | hz
          · decide
          · exact hl q hq z hz
        have hnl : noNL (Lib.join (p :: l) [32]) = true := by
          unfold noNL
          simp only [Bool.not_eq_true', List.any_eq_false]
          intro z hz
          rw [Lib.join_cons] at hz
          have : z ≠ 10 := by
            rcases List.mem_append.1 hz with hz | hz
            · exact (hq p (by simp)).2.1 z hz
            · exact hcl l (fun q hq' => (hq q (by simp [hq'])).2.1) z hz
          simpa using this
        refine ⟨⟨a.Name, [], [], [], Lib.join (p :: l) [32]⟩, [Lib.join (p :: l) [32]] ++ [], ⟨a.Name, [], [], [], []⟩, by simp [add, setS, ha], rfl, hwr ⟨a.Name, [], [], [], Lib.join (p :: l) [32]⟩ ([Lib.join (p :: l) [32]], ⟨a.Name, [], [], [], []⟩) [] _ rfl (by show (!noNL (Lib.join (p :: l) [32])) = false; rw [hnl]; rfl) (hempc _), ⟨rfl, rfl, rfl, rfl⟩, ⟨by simp, by simp⟩, ?_, fun _ => rfl, fun h => by rw [hcont] at h; simp at h, by simp; omega⟩
        rw [List.append_nil, Lib.join_cons]
        simp [Lib.joinTail]
end Go.Cq

set_option maxRecDepth 100000
set_option linter.unusedVariables false
set_option linter.unusedSimpArgs false
namespace Go.Cq
open Go Go.Av

theorem name_ok {nm : Str} (h : (formF nm).2 = true) : free nm ∧ clean nm := by
  have hall : nmL.all (fun p => p.all fun z => z != 32 && z != 10) = true := by decide
  have hmem : nm ∈ nmL := by
    unfold formF at h
    cases hf : (nmL.zip fmL).find? (fun p => p.1 == nm) with
    | none => rw [hf] at h; cases h
    | some p =>
      have h1 := List.find?_some hf
      have h2 := List.mem_of_find?_eq_some hf
      have : p.1 = nm := by simpa using h1
      rw [← this]
      exact (List.of_mem_zip (a := p.1) (b := p.2) h2).1
  have := List.all_eq_true.1 hall nm hmem
  constructor
  · intro z hz; have := List.all_eq_true.1 this z hz; simp at this; exact this.1
  · intro z hz; have := List.all_eq_true.1 this z hz; simp at this; exact this.2
theorem line_cmd {c : Cmd} {s : Str} (hc : okC c) (h : lineF c = (s, 0)) : cmdF s = some c ∧ clean s ∧ s.length ≤ 4096 := by
  unfold lineF at h
  split at h
  · rename_i his
    cases hw : wrF (formF c.Name).1 c with
    | none => rw [hw] at h; cases h
    | some y =>
      obtain ⟨ps, c', b⟩ := y
      rw [hw] at h
      dsimp only at h
      split at h
      · rename_i he
        obtain ⟨rfl, he⟩ := he
        split at h
        · cases h
        · rename_i hl
          injection h with h _
          subst h
          obtain ⟨qs, g1, g2, g3, g4⟩ := write_read (formF c.Name).1 c ⟨c.Name, [], [], [], []⟩ ps c' (form_letters _) (form_okL _) (form_okF _) hc hw he (fun _ => rfl) (fun _ => rfl)
          have hn := name_ok his
          have hjoin : Lib.join (c.Name :: ps) [32] = Lib.join (c.Name :: qs) [32] := by rw [Lib.join_cons, Lib.join_cons, g1]
          refine ⟨?_, ?_, by omega⟩
          · unfold cmdF
            rw [hjoin, split_pieces c.Name qs hn.1 g2]
            dsimp only
            rw [if_pos his, g4]
            simp [add]
          · intro z hz
            rw [Lib.join_cons] at hz
            rcases List.mem_append.1 hz with hz | hz
            · exact hn.2 z hz
            · simp only [Lib.joinTail, List.mem_flatten, List.mem_map] at hz
              obtain ⟨_, ⟨q, hq, rfl⟩, hz⟩ := hz
              rcases List.mem_cons.1 (by simpa using hz : z ∈ 32 :: q) with rfl | hz
              · decide
              · exact g3 q hq z hz
      · cases h
  · cases h
/-- A command that can be written. -/
def Fine (c : Cmd) (s : Str) : Prop := lineF c = (s, 0) ∧ okC c ∧ c.Name.length + 60 * (c.N.length + c.V.length) + c.W.length + c.S.length ≤ 900000
theorem cmd_line {c : Cmd} {s : Str} (hs : clean s) (hl : s.length ≤ 4096) (h : cmdF s = some c) : Fine c s := by
  unfold cmdF at h
  have hj := join_split s
  have ht := splitC_tot 32 s
  have hfr := split_free s
  have hsub := split_sub s
  cases hsp : splitC 32 s with
  | nil => rw [hsp] at h; cases h
  | cons p l =>
    rw [hsp] at h hj ht hfr hsub
    simp only [tot] at ht
    dsimp only at h
    split at h
    · rename_i his
      cases hr : readF (formF p).1 l ⟨p, [], [], [], []⟩ with
      | none => rw [hr] at h; cases h
      | some y =>
        obtain ⟨c2, qs2⟩ := y
        rw [hr] at h
        cases qs2 with
        | cons _ _ => cases h
        | nil =>
          simp only [Option.some.injEq] at h
          subst h
          obtain ⟨d, ps, e, g1, g2, g3, g4, g5, g6, g7, g8, g9⟩ := read_write (formF p).1 l ⟨p, [], [], [], []⟩ c2 (form_letters _) (form_okL _) (form_okF _) (fun q hq => ⟨hfr q (by simp [hq]), fun z hz => hs z (hsub q (by simp [hq]) z hz), by
            have := tot_mem hq; omega⟩) hr (fun _ => rfl) (fun _ => rfl)
          have hcd : c2 = d := by rw [g1]; simp only [add, List.nil_append]; rw [show p = d.Name from g2.symm]
          subst hcd
          have hn : c2.Name = p := g2
          refine ⟨?_, g5, by rw [hn]; omega⟩
          unfold lineF
          rw [hn, if_pos his, g3]
          dsimp only
          rw [if_pos ⟨rfl, g4⟩]
          have hjoin : Lib.join (p :: ps) [32] = s := by rw [Lib.join_cons, g6, ← Lib.join_cons, hj]
          rw [hjoin, if_neg (by omega)]
    · cases h
theorem line_len (c : Cmd) : (lineF c).1.length ≤ 4096 := by
  unfold lineF
  split
  · split
    · split
      · split
        · simp
        · dsimp only; omega
      · simp
    · simp
  · simp
def linesOf : List Cmd → Str
  | [] => []
  | c :: l => (lineF c).1 ++ [10] ++ linesOf l
theorem cut_line {s r : Str} (h : clean s) : cutAt 10 (s ++ 10 :: r) = (s, r, true) := cutAt_app 10 s r h
theorem scan_lines : ∀ (l : List Cmd) (out : List Cmd), (∀ c, c ∈ l → okC c ∧ (lineF c).2 = 0) → out.length + l.length ≤ 60 → scan [] (linesOf l) out = (out ++ l, 0, 0)
  | [], out, _, _ => by simp [linesOf, scan]
  | c :: l, out, h, hl => by
    obtain ⟨h1, h2⟩ := h c (by simp)
    have hline : lineF c = ((lineF c).1, 0) := Prod.ext rfl h2
    obtain ⟨g1, g2, g3⟩ := line_cmd h1 hline
    have ht : linesOf (c :: l) = (lineF c).1 ++ 10 :: linesOf l := by simp [linesOf]
    simp only [List.length_cons] at hl
    rw [ht, scan_cut, cut_line g2]
    dsimp only
    rw [ifT, List.nil_append, g1]
    dsimp only
    rw [if_pos ⟨g3, by omega⟩, scan_lines l (out ++ [c]) (fun x hx => h x (by simp [hx])) (by simp; omega)]
    simp
theorem scan_back : ∀ (r cur : Str) (out m : List Cmd) (n : Nat), clean cur → scan cur r out = (m, n, 0) → ∃ ms, m = out ++ ms ∧ cur ++ r = linesOf ms ∧ ∀ c, c ∈ ms → Fine c (lineF c).1
  | [], cur, out, m, n, hc, h => by
    unfold scan at h
    split at h
    · rename_i he
      simp only [Prod.mk.injEq] at h
      exact ⟨[], by rw [← h.1]; simp, by rw [he]; rfl, by simp⟩
    · simp [bad] at h
  | x :: r, cur, out, m, n, hc, h => by
    rw [scan_cons] at h
    split at h
    · rename_i hx
      subst hx
      split at h
      · rename_i c e
        split at h
        · rename_i hl
          have hf := cmd_line hc hl.1 e
          obtain ⟨ms, g1, g2, g3⟩ := scan_back r [] (out ++ [c]) m n (by intro z hz; simp at hz) h
          have hs : (lineF c).1 = cur := by rw [hf.1]
          refine ⟨c :: ms, by rw [g1]; simp, ?_, fun z hz => ?_⟩
          · rw [List.nil_append] at g2
            simp [linesOf, hs, ← g2]
          · rcases List.mem_cons.1 hz with rfl | hz
            · rw [hs]; exact hf
            · exact g3 z hz
        · simp [bad] at h
      · simp [bad] at h
    · rename_i hx
      obtain ⟨ms, g1, g2, g3⟩ := scan_back r (cur ++ [x]) out m n (fun z hz => by
        rcases List.mem_append.1 hz with hz | hz
        · exact hc z hz
        · simp at hz; subst hz; exact hx) h
      exact ⟨ms, g1, by rw [← g2]; simp, g3⟩
theorem scan_bad : ∀ (r cur : Str) (out : List Cmd), (scan cur r out).2.2 ≠ 0 → (scan cur r out).1 = []
  | [], cur, out, h => by
    unfold scan at h ⊢
    split
    · rename_i e; rw [if_pos e] at h; simp at h
    · rfl
  | x :: r, cur, out, h => by
    rw [scan_cons] at h ⊢
    split at h
    · rename_i hx
      rw [if_pos hx]
      split at h
      · rename_i c e
        split at h
        · rename_i hl; rw [if_pos hl]; exact scan_bad r [] _ h
        · rename_i hl; rw [if_neg hl]; rfl
      · rfl
    · rename_i hx; rw [if_neg hx]; exact scan_bad r _ out h

/-! ### The law's loops -/
def bigB (c : ref30_Command) : Bool := (((((decide ((100 : Int) < (c.Name.length : Int))) || (decide ((5000 : Int) < (c.N.length : Int)))) || (decide ((5000 : Int) < (c.V.length : Int)))) || (decide ((100 : Int) < (c.W.length : Int)))) || (decide ((5000 : Int) < (c.S.length : Int))))
theorem big_len {c : ref30_Command} (h : bigB c = false) : c.Name.length ≤ 100 ∧ c.N.length ≤ 5000 ∧ c.V.length ≤ 5000 ∧ c.W.length ≤ 100 ∧ c.S.length ≤ 5000 := by
  unfold bigB at h
  simp only [Bool.or_eq_false_iff, decide_eq_false_iff_not] at h
  obtain ⟨⟨⟨⟨h1, h2⟩, h3⟩, h4⟩, h5⟩ := h
  omega
def allOk : List Cmd → Bool
  | [] => true
  | c :: l => decide ((lineF c).2 = 0) && allOk l
theorem allOk_mem : ∀ {l : List Cmd}, allOk l = true → ∀ c, c ∈ l → (lineF c).2 = 0
  | [], _, c, hc => by simp at hc
  | x :: l, h, c, hc => by
    simp only [allOk, Bool.and_eq_true, decide_eq_true_eq] at h
    rcases List.mem_cons.1 hc with rfl | hc
    · exact h.1
    · exact allOk_mem h.2 c hc
theorem back_l1 (l : List ref30_Command) (hl : l.length ≤ 60) (hc : ∀ c, c ∈ l → okCr c) (K : Str → Bool → Option Bool) : ∀ (r : List ref30_Command) (j q : Nat) (acc : Str) (ok : Bool), l.drop j = r → j ≤ l.length → acc.length ≤ 4097 * j → r.length < q →
    ((∀ c, c ∈ r → bigB c = false) → K (acc ++ linesOf (r.map toC)) (ok && allOk (r.map toC)) = some true) → law30_ScriptBack_l1 l K q acc ok (j : Int) = some true
  | [], j, q+1, acc, ok, h, hj, ha, _, hK => by
    have : j = l.length := by have : l.length ≤ j := by simpa using h
                              omega
    subst this
    rw [law30_ScriptBack_l1, ge_len, ifF]
    have := hK (by simp)
    simpa [linesOf, allOk] using this
  | c :: r, j, q+1, acc, ok, h, hj, ha, hq, hK => by
    obtain ⟨e1, e2, e3⟩ := getDrop h
    rw [law30_ScriptBack_l1, lt_len e3, ifT, lAt_nat e1, bindS, show law30_big c = some (bigB c) from rfl, bindS]
    cases hb : bigB c with
    | true => rw [ifT, sure_ok, bindS]
    | false =>
      have hbl := big_len hb
      have hok := hc c (List.mem_of_getElem? e1)
      obtain ⟨rr, l1, l2, l3⟩ := script_line (c := toC c) (okC_toC hok) (by simp [toC]; omega)
      have hll := line_len (toC c)
      rw [ifF, give_eq (by omega) (by omega), bindS, l1, bindS, l2, cat_of (by simp; omega), bindS, cat_of (by simp; omega), bindS, cks (by omega), bindS]
      have hn : rr.2.isNone = decide ((lineF (toC c)).2 = 0) := by
        rw [l3]
        by_cases h0 : (lineF (toC c)).2 = 0
        · rw [if_pos h0, decide_eq_true h0]; rfl
        · rw [if_neg h0, decide_eq_false h0]; rfl
      rw [hn]
      refine back_l1 l hl hc K r (j+1) q _ _ e2 (by omega) (by simp; omega) (by simp at hq; omega) fun hbr => ?_
      have := hK fun z hz => by
        rcases List.mem_cons.1 hz with rfl | hz
        · exact hb
        · exact hbr z hz
      simp only [List.map_cons, linesOf, allOk] at this
      rw [show acc ++ ((lineF (toC c)).1 ++ [10] ++ linesOf (r.map toC)) = acc ++ ((lineF (toC c)).1 ++ [10]) ++ linesOf (r.map toC) by simp, ← Bool.and_assoc] at this
      exact this
  | [], _, 0, _, _, _, _, _, hq, _ => by omega
  | _ :: _, _, 0, _, _, _, _, _, hq, _ => by omega
theorem back_l2 (l : List ref30_Command) (v : List script_Command × Int × Option Int) (hv : v.1 = l.map toC) (hl : l.length ≤ 60) (hb : ∀ c, c ∈ l → bigB c = false) (K : Unit → Option Bool) : ∀ (r : List ref30_Command) (j q : Nat), l.drop j = r → j ≤ l.length → r.length < q → law30_ScriptBack_l2 l v K q (j : Int) = K ()
  | [], j, q+1, h, hj, _ => by
    have : j = l.length := by have : l.length ≤ j := by simpa using h
                              omega
    subst this
    rw [law30_ScriptBack_l2, hv, List.length_map, ge_len, ifF]
  | c :: r, j, q+1, h, hj, hq => by
    obtain ⟨e1, e2, e3⟩ := getDrop h
    have hbl := big_len (hb c (List.mem_of_getElem? e1))
    have e1' : v.1[j]? = some (toC c) := by rw [hv, List.getElem?_map, e1]; rfl
    rw [law30_ScriptBack_l2, hv, List.length_map, lt_len e3, ifT, ← hv, lAt_nat e1', bindS, lAt_nat e1, bindS, give_eq (by omega) (by omega), bindS, same_eq (by simp [toC]; omega) (by simp [toC]; omega), bindS, show (!true) = false from rfl, ifF, cks (by omega), bindS]
    exact back_l2 l v hv hl hb K r (j+1) q e2 (by omega) (by simp at hq; omega)
  | [], _, 0, _, _, hq => by omega
  | _ :: _, _, 0, _, _, hq => by omega
theorem linesOf_app : ∀ (a b : List Cmd), linesOf (a ++ b) = linesOf a ++ linesOf b
  | [], b => rfl
  | c :: a, b => by simp [linesOf, linesOf_app a b]
theorem back_l3 (v : List script_Command × Int × Option Int) (hf : ∀ c, c ∈ v.1 → Fine c (lineF c).1) (ht : (linesOf v.1).length ≤ 1000000) (hl : v.1.length ≤ 1000000) (K : Str → Option Bool) : ∀ (r : List script_Command) (j q : Nat), v.1.drop j = r → j ≤ v.1.length → r.length < q → law30_ScriptBack_l3 v K q (linesOf (v.1.take j)) (j : Int) = K (linesOf v.1)
  | [], j, q+1, h, hj, _ => by
    have : j = v.1.length := by have : v.1.length ≤ j := by simpa using h
                                omega
    subst this
    rw [law30_ScriptBack_l3, ge_len, ifF, List.take_length]
  | c :: r, j, q+1, h, hj, hq => by
    obtain ⟨e1, e2, e3⟩ := getDrop h
    obtain ⟨f1, f2, f3⟩ := hf c (List.mem_of_getElem? e1)
    obtain ⟨rr, l1, l2, l3⟩ := script_line (c := c) f2 f3
    have hll := line_len c
    have htk : linesOf (v.1.take (j+1)) = linesOf (v.1.take j) ++ ((lineF c).1 ++ [10]) := by
      rw [List.take_add_one, e1, linesOf_app]; simp [linesOf]
    have hle : (linesOf (v.1.take (j+1))).length ≤ (linesOf v.1).length := by
      conv => rhs; rw [← List.take_append_drop (j+1) v.1, linesOf_app]
      simp
    rw [htk] at hle
    simp only [List.length_append, List.length_singleton] at hle
    rw [f1] at l3
    simp only [if_true] at l3
    rw [law30_ScriptBack_l3, lt_len e3, ifT, lAt_nat e1, bindS, l1, bindS, l3, show (none : Option Int).isSome = false from rfl, ifF, l2, cat_of (by simp; omega), bindS, cat_of (by simp; omega), bindS, cks (by omega), bindS, ← htk]
    exact back_l3 v hf ht hl K r (j+1) q e2 (by omega) (by simp at hq; omega)
  | [], _, 0, _, _, hq => by omega
  | _ :: _, _, 0, _, _, hq => by omega
theorem scriptBack (l : List ref30_Command) (text : Str) (hc : ∀ c, c ∈ l → okCr c) : law30_ScriptBack l text = some true := by
  unfold law30_ScriptBack
  by_cases hbig : ((decide ((60 : Int) < (l.length : Int))) || (decide ((70000 : Int) < (text.length : Int)))) = true
  · rw [hbig, ifT, sure_ok, bindS]
  have hbig' : ((decide ((60 : Int) < (l.length : Int))) || (decide ((70000 : Int) < (text.length : Int)))) = false := by simpa using hbig
  rw [hbig', ifF, letK_e]
  simp only [Bool.or_eq_false_iff, decide_eq_false_iff_not] at hbig'
  refine back_l1 l (by omega) hc _ l 0 fuel [] true rfl (by omega) (by simp) (len_fuel (by omega)) fun hb => ?_
  rw [letK_e, List.nil_append, Bool.true_and]
  -- the text
  have hK : ((script_Parse text).bind fun v49 =>
        if v49.2.2.isSome then
          (
            if (decide ((v49.1.length : Int) = 0)) then
              (law30_sure).bind fun v53 =>
              some v53
            else
              some false
          ).bind fun y50 =>
          some y50
        else
          letK (fun (v70 : Str) =>
            (
              if (v70 == text) then
                (law30_sure).bind fun v74 =>
                some v74
              else
                some false
            ).bind fun y71 =>
            some y71
          ) fun (K55 : (Str → Option Bool)) =>
          law30_ScriptBack_l3 v49 K55 fuel [] 0) = some true := by
    obtain ⟨p, h1, h2, h3, h4⟩ := script_parse text
    rw [h1, bindS]
    by_cases h0 : (parseF text).2.2 = 0
    · rw [if_pos h0] at h4
      rw [h4, show (none : Option Int).isSome = false from rfl, ifF, letK_e]
      have hscan : ∃ ms, (parseF text).1 = ms ∧ text = linesOf ms ∧ ∀ c, c ∈ ms → Fine c (lineF c).1 := by
        unfold parseF at h0 ⊢
        split
        · rename_i h; rw [if_pos h] at h0; simp at h0
        · rename_i h
          rw [if_neg h] at h0
          obtain ⟨ms, g1, g2, g3⟩ := scan_back text [] [] (scan [] text []).1 (scan [] text []).2.1 (by intro z hz; simp at hz) (Prod.ext rfl (Prod.ext rfl h0))
          exact ⟨ms, by simpa using g1, by simpa using g2, g3⟩
      obtain ⟨ms, g1, g2, g3⟩ := hscan
      have hpl := parse_len text
      rw [g1] at h2 hpl
      have hlen : (linesOf p.1).length ≤ 1000000 := by rw [h2, ← g2]; omega
      have := back_l3 p (by rw [h2]; exact g3) hlen (by rw [h2]; omega) (fun v70 => ((if (v70 == text) = true then (law30_sure).bind fun v74 => some v74 else some false).bind fun y71 => some y71)) p.1 0 fuel rfl (by omega) (len_fuel (by rw [h2]; omega))
      refine Eq.trans this ?_
      rw [h2, ← g2, beq_self_eq_true, ifT, sure_ok, bindS, bindS]
    · rw [if_neg h0] at h4
      have hnil : (parseF text).1 = [] := by
        unfold parseF at h0 ⊢
        split
        · rfl
        · rename_i h; rw [if_neg h] at h0; exact scan_bad text [] [] h0
      rw [h4, show (some (((parseF text).2.2 : Nat) : Int)).isSome = true from rfl, ifT, h2, hnil, show decide ((([] : List script_Command).length : Int) = 0) = true from rfl, ifT, sure_ok, bindS, bindS]
  rw [hK]
  cases hok : allOk (l.map toC) with
  | false => rw [Bool.false_and, ifF]
  | true =>
    rw [Bool.true_and]
    by_cases hlen : (linesOf (l.map toC)).length ≤ 65536
    · rw [decide_eq_true (by omega), ifT]
      obtain ⟨p, h1, h2, h3, h4⟩ := script_parse (linesOf (l.map toC))
      have hpar : parseF (linesOf (l.map toC)) = (l.map toC, 0, 0) := by
        unfold parseF
        rw [if_neg (by omega)]
        have := scan_lines (l.map toC) [] (fun c hm => by
          obtain ⟨u, hu, rfl⟩ := List.mem_map.1 hm
          exact ⟨okC_toC (hc u hu), allOk_mem hok _ hm⟩) (by simp; omega)
        simpa using this
      rw [hpar] at h2 h3 h4
      rw [if_pos rfl] at h4
      rw [h1, bindS, h4, h3, h2, show (none : Option Int).isSome = false from rfl]
      rw [show ((false || (!decide ((((0 : Nat)) : Int) = 0))) || (!decide (((l.map toC).length : Int) = (l.length : Int)))) = false by simp, ifF, letK_e]
      exact back_l2 l p h2 (by omega) hb _ l 0 fuel rfl (by omega) (len_fuel (by omega))
    · rw [decide_eq_false (by omega), ifF]
end Go.Cq

