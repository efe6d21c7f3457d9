import Derived.Test.YtiboeelbmgnbgaaGreatDoorP1
set_option linter.unusedSectionVars false
set_option linter.unusedVariables false
set_option linter.unusedSimpArgs false
set_option linter.unnecessarySimpa false
set_option maxRecDepth 100000
namespace Go.Cq
open Go Go.Av
def tabO (N : List rNd) : Nat → List (List RW)
 | 0 => []
 | i+1 => tabO N i ++ [match N[i]? with | some n => zFU N (tabO N i) n | none => []]
theorem zDz (N : List rNd) : ∀ i, (tabO N i).length = i
 | 0 => rfl
 | i+1 => by simp [tabO, zDz N i]
theorem zNw (N : List rNd) : ∀ (d j k : Nat), k < j → (tabO N (j + d))[k]? = (tabO N j)[k]?
 | 0, j, k, h => rfl
 | d+1, j, k, h => by
  show (tabO N (j + d) ++ _)[k]? = _
  rw [List.getElem?_append_left (by rw [zDz]; omega), zNw N d j k h]
theorem zNd (N : List rNd) {i j : Nat} (hij : j ≤ i) {k : Int} (h : k < (j : Int)) (h0 : 0 ≤ k) : oAt (tabO N i) k = oAt (tabO N j) k := by
 obtain ⟨k, rfl⟩ : ∃ k' : Nat, k = (k' : Int) := ⟨k.toNat, by omega⟩
 have := zNw N (i - j) j k (by omega)
 rw [show j + (i - j) = i by omega] at this
 unfold oAt
 simp only [Int.toNat_natCast]
 rw [this]
theorem zMw {N : List rNd} {O O' : List (List RW)} {n : rNd} (hm : mayB (zAd n) = true) (h : ∀ k, k ∈ n.Kids → oAt O k = oAt O' k) : zFU N O n = zFU N O' n := by
  have harg : ∀ s, ∀ l : List Int, (∀ k, k ∈ l → k ∈ n.Kids) → l.map (argW N O s) = l.map (argW N O' s) := fun s l hl => List.map_congr_left fun k hk => by unfold argW; rw [h k (hl k hk)]
  have hmap : ∀ l : List Int, (∀ k, k ∈ l → k ∈ n.Kids) → l.map (oAt O) = l.map (oAt O') := fun l hl => List.map_congr_left fun k hk => h k (hl k hk)
  have hdrop : ∀ k, k ∈ n.Kids.drop 1 → k ∈ n.Kids := fun k hk => List.mem_of_mem_drop hk
  unfold zFU
  split
  · rfl
  split
  · rfl
  split
  · rfl
  split
  · rfl
  split
  · rename_i e; rw [h _ (zDM (by rw [may8 hm e]; exact Nat.le_refl _))]
  split
  · rename_i e; rw [h _ (zDM (by rw [may13 hm e]; exact Nat.le_refl _))]
  split
  · unfold msgW; rw [harg n.S n.Kids (fun k hk => hk)]
  split
  · rename_i e
    have hpos : 1 ≤ n.Kids.length := by rcases zBB (may9 hm e) with h | h | h <;> omega
    unfold msgW toW; rw [harg n.S _ hdrop, h _ (zDM hpos)]
  split
  · rename_i e
    have hpos : 1 ≤ n.Kids.length := by have := (may10 hm e).1; omega
    unfold zM6 toW; rw [hmap _ hdrop, h _ (zDM hpos)]
  unfold zHO; rw [hmap _ (fun k hk => hk)]
theorem zJW {N : List rNd} (hN : NOk N) {i : Nat} {n : rNd} (hn : N[i]? = some n) (hk : ∀ k, k ∈ n.Kids → 0 ≤ k ∧ k < (i : Int)) {j : Nat} (hij : i < j) : oAt (tabO N j) (i : Int) = zFU N (tabO N j) n := by
 rw [zNd N (j := i + 1) (by omega) (by omega) (by omega)]
 have : (tabO N (i+1))[i]? = some (zFU N (tabO N i) n) := by
  simp only [tabO, hn]
  rw [List.getElem?_append_right (by rw [zDz]; exact Nat.le_refl _), zDz]; simp
 rw [zIr this]
 exact zMw (hN.may n (List.mem_of_getElem? hn)) fun k hkm => (zNd N (by omega) (hk k hkm).2 (hk k hkm).1).symm
def sumK (O : List (List RW)) : List Int → Nat
 | [] => 0
 | k :: r => (oAt O k).length + 3 + sumK O r
theorem zQv {O : List (List RW)} {N : List rNd} {s : Str} : ∀ (ks : List Str) (l : List Int), (zipW ks (l.map (argW N O s))).length ≤ sumK O l
  | [], l => by cases l <;> simp [zipW]
  | k :: ks, [] => by simp [zipW]
  | k :: ks, x :: l => by
    have h1 := zQv (O := O) (N := N) (s := s) ks l
    have h2 := zD5 (inW (nK N x).1 (nK N x).2 (zCS s)) (oAt O x)
    have h3 : (argW N O s x).length ≤ (oAt O x).length + 2 := h2
    simp only [List.map_cons, zipW, List.length_cons, List.length_append, sumK]
    omega
theorem zPo {O : List (List RW)} {N : List rNd} {s : Str} (l : List Int) : (msgW N O s l).length ≤ 1 + sumK O l := by
 unfold msgW zIa
 split
 ·simp
 split
 ·cases l with
  | nil => simp [hd0]
  | cons x l =>
   have h2 := zD5 (inW (nK N x).1 (nK N x).2 (zCS s)) (oAt O x)
   have h3 : (argW N O s x).length ≤ (oAt O x).length + 2 := h2
   simp only [List.map_cons, hd0, List.length_cons, sumK]; omega
 have := zQv (O := O) (N := N) (s := s) (zER s) l
 omega
theorem zKb {O : List (List RW)} {k : Int} (l : List Int) : (sepW k (l.map (oAt O))).length ≤ sumK O l := by
 have hT : ∀ l : List Int, (sepT k (l.map (oAt O))).length ≤ sumK O l := by
  intro l
  induction l with
  | nil => simp [sepT]
  | cons x l ih =>
   unfold sepT at ih ⊢
   rw [List.map_cons, List.flatMap_cons, List.length_append, List.length_cons]
   simp only [sumK]; omega
 cases l with
 | nil => simp [sepW]
 | cons x l =>
  have := hT l
  simp only [List.map_cons, sepW, List.length_append, sumK]; omega
theorem zEP (l : List Str) : (zEy l).length ≤ l.length + 2 := by
  unfold zEy; split <;> simp
theorem zHm {O : List (List RW)} {l : List Int} (h : 1 ≤ l.length) : sumK O l = (oAt O (kid0 l)).length + 3 + sumK O (l.drop 1) := by
 cases l with
 | nil => simp at h
 | cons x r => rfl
theorem zOc {N : List rNd} {O : List (List RW)} {n : rNd} (hm : mayB (zAd n) = true) (hL : n.L.length ≤ 40) : (zFU N O n).length ≤ 60 + sumK O n.Kids := by
  have hto : ∀ s k, (toW N O s k).length ≤ (oAt O k).length + 2 := fun s k => zD5 _ _
  unfold zFU
  split
  · simp; omega
  split
  · unfold numW; split <;> simp <;> omega
  split
  · simp; omega
  split
  · simp; omega
  split
  · rename_i e
    rw [zHm (by rw [may8 hm e]; exact Nat.le_refl _)]; simp only [List.length_cons]; omega
  split
  · rename_i e
    rw [zHm (by rw [may13 hm e]; exact Nat.le_refl _)]; simp only [List.length_cons]; omega
  split
  · have := zPo (O := O) (N := N) (s := n.S) n.Kids; omega
  split
  · rename_i e
    have hpos : 1 ≤ n.Kids.length := by rcases zBB (may9 hm e) with h | h | h <;> omega
    have h1 := zPo (O := O) (N := N) (s := n.S) (n.Kids.drop 1)
    have h2 := hto n.S (kid0 n.Kids)
    rw [zHm hpos, List.length_append]; omega
  split
  · rename_i e
    have hpos : 1 ≤ n.Kids.length := by have := (may10 hm e).1; omega
    unfold zM6
    have h1 := zKb (O := O) (k := 8) (n.Kids.drop 1)
    have h2 := hto (nK N (kid0 (n.Kids.drop 1))).2 (kid0 n.Kids)
    rw [zHm hpos, List.length_append]; omega
  unfold zHO
  have h1 := zKb (O := O) (k := 9) n.Kids
  have h2 := zEP (n.L.drop n.N.toNat)
  have h3 : (if 0 < n.N then [w0 14 []] else []).length ≤ 1 := by split <;> simp
  have h4 : ((n.L.take n.N.toNat).map (w0 5)).length + (n.L.drop n.N.toNat).length ≤ 40 := by simp; omega
  simp only [List.length_cons, List.length_append, List.length_nil]
  omega
section
variable {N : List rNd} (hN : NOk N)
theorem zDy {N : List rNd} {i : Nat} {x : tNd} (h : (N.map zAd)[i]? = some x) : ∃ n, N[i]? = some n ∧ x = zAd n := by
 rw [List.getElem?_map, Option.map_eq_some_iff] at h
 obtain ⟨n, h1, h2⟩ := h
 exact ⟨n, h1, h2.symm⟩
theorem Fo.rng {N : List tNd} {P : Nat → Bool × Bool × Bool} {k lo hi h : Nat} {l : List Int} (hf : Fo N P k lo hi l h) : ∀ x, x ∈ l → 0 ≤ x ∧ x < (hi : Int) := fun x hx => by
 refine ⟨?_, hf.le.2 x hx⟩
 have hz : ∀ {l : List Int} {k lo hi h : Nat}, Fo N P k lo hi l h → ∀ x, x ∈ l → 0 ≤ x := by
  intro l
  induction l with
  | nil => intro _ _ _ _ _ x hx; simp at hx
  | cons y l ih =>
   intro _ _ _ _ hf x hx
   cases hf with
   | cons hj hs ht hr =>
    rcases List.mem_cons.1 hx with rfl | hx
    ·omega
    exact ih hr x hx
 exact hz hf x hx
mutual
theorem Tr.size {N : List rNd} (hN : NOk N) {lo i h : Nat} : Tr (N.map zAd) lo i h → (oAt (tabO N N.length) (i : Int)).length + 3 ≤ 64 * (i + 1 - lo)
 | .mk (n := x) hn hm hf => by
  obtain ⟨n, h1, h2⟩ := zDy hn
  have hb := hf.rng
  have hs := Fo.size hN hf
  have hl := hf.le.1
  subst h2
  have hlt := (List.getElem?_eq_some_iff.1 h1).1
  rw [zJW hN h1 hb hlt]
  have hmem := List.mem_of_getElem? h1
  have := zOc (N := N) (O := tabO N N.length) hm (hN.l n hmem)
  have e : (zAd n).Kids = n.Kids := rfl
  rw [e] at hs
  omega
theorem Fo.size {N : List rNd} (hN : NOk N) {P : Nat → Bool × Bool × Bool} {k lo hi h : Nat} {l : List Int} : Fo (N.map zAd) P k lo hi l h → sumK (tabO N N.length) l ≤ 64 * (hi - lo)
 | .nil => by simp [sumK]
 | .cons (j := j) hj hs ht hr => by
  have h1 := Tr.size hN ht
  have h2 := Fo.size hN hr
  have l1 := ht.le
  have l2 := hr.le.1
  simp only [sumK]
  omega
end
end
end Go.Cq

set_option maxRecDepth 100000
namespace Go.Cq
open Go Go.Av
mutual
theorem Tr.all {N : List tNd} {lo i h : Nat} : Tr N lo i h → ∀ j, lo ≤ j → j ≤ i → ∃ lo' h', Tr N lo' j h' ∧ h' ≤ h
 | .mk hn hm hf, j, h1, h2 => by
  rcases Nat.lt_or_ge j i with h | h
  ·obtain ⟨a, b, c, d⟩ := Fo.all hf j h1 h
   exact ⟨a, b, c, by omega⟩
  obtain rfl : j = i := by omega
  exact ⟨_, _, .mk hn hm hf, Nat.le_refl _⟩
theorem Fo.all {N : List tNd} {P : Nat → Bool × Bool × Bool} {k lo hi h : Nat} {l : List Int} : Fo N P k lo hi l h → ∀ j, lo ≤ j → j < hi → ∃ lo' h', Tr N lo' j h' ∧ h' ≤ h
 | .nil, j, h1, h2 => by omega
 | .cons (j := m) hj hs ht hr, j, h1, h2 => by
  rcases Nat.lt_or_ge m j with h | h
  ·obtain ⟨a, b, c, d⟩ := Fo.all hr j h h2
   exact ⟨a, b, c, by omega⟩
  obtain ⟨a, b, c, d⟩ := Tr.all ht j h1 h
  exact ⟨a, b, c, by omega⟩
end
theorem Fo.get {N : List tNd} {P : Nat → Bool × Bool × Bool} : ∀ {l : List Int} {k lo hi h : Nat}, Fo N P k lo hi l h → ∀ (t : Nat) (x : Int), l[t]? = some x → ∃ (j : Nat) (nj : tNd) (lo' h' : Nat), x = (j : Int) ∧ N[j]? = some nj ∧ zBi nj.K (P (k + t)) = true ∧ Tr N lo' j h' ∧ h' ≤ h ∧ j < hi
 | [], _, _, _, _, _, t, x, hx => by simp at hx
 | y :: l, k, _, _, _, hf, t, x, hx => by
  cases hf with
  | cons hj hs ht hr =>
   cases t with
   | zero =>
    simp at hx
    exact ⟨_, _, _, _, hx.symm, hj, hs, ht, by omega, by have := hr.le.1; omega⟩
   | succ t =>
    obtain ⟨j, nj, lo', h', a1, a2, a3, a4, a5, a6⟩ := Fo.get hr t x (by simpa using hx)
    exact ⟨j, nj, lo', h', a1, a2, by rw [show k + (t + 1) = k + 1 + t by omega]; exact a3, a4, by omega, a6⟩
structure MOk (m : rMt) : Prop where
 sm : Small m
 n : NOk m.Nodes
 tr : ∃ h, Fo (m.Nodes.map zAd) (zGr m.Body.length) 0 0 m.Nodes.length m.Body h ∧ h ≤ 64
 sel : arity m.Sel = ((m.Args.length : Int), true)
theorem mOk_of {m : rMt} (h : Small m) (hK : ∀ n, n ∈ m.Nodes → 0 ≤ n.K) (hok : okM m = true) : MOk m := by
 unfold okM at hok
 simp only [Bool.and_eq_true] at hok
 obtain ⟨h1, h2⟩ := hok
 obtain ⟨ht, hf, hh⟩ := (zLm _).1 h2
 have hl : (zAl m).Nodes.length = m.Nodes.length := by simp [zAl]
 rw [hl] at hf
 have hf' : Fo (m.Nodes.map zAd) (zGr m.Body.length) 0 0 m.Nodes.length m.Body ht := hf
 refine ⟨h, ⟨fun x hx => ?_, hK, fun x hx => (h.ns x hx).k, fun x hx => (h.ns x hx).l, by have := h.n; omega⟩, ⟨ht, hf', hh⟩, ?_⟩
 ·obtain ⟨i, hi⟩ := List.mem_iff_getElem?.1 hx
  obtain ⟨lo, h', htr, _⟩ := hf'.all i (Nat.zero_le _) (List.getElem?_eq_some_iff.1 hi).1
  cases htr with
  | mk a b c =>
   obtain ⟨n, e1, e2⟩ := zDy a
   rw [hi] at e1; cases e1
   rw [← e2]; exact b
 unfold zEJ at h1
 simp only [Bool.and_eq_true] at h1
 have := h1.1
 simp only [zEt, Bool.and_eq_true, decide_eq_true_eq] at this
 exact Prod.ext this.2 this.1
section
variable {m : rMt} (hm : MOk m)
theorem MOk.node {m : rMt} (hm : MOk m) {i : Nat} {n : rNd} (hn : m.Nodes[i]? = some n) : ∃ lo h, Fo (m.Nodes.map zAd) (zBe (zAd n)) 0 lo i n.Kids h ∧ h < 64 := by
 obtain ⟨ht, hf, hh⟩ := hm.tr
 obtain ⟨lo, h', htr, hle⟩ := hf.all i (Nat.zero_le _) (List.getElem?_eq_some_iff.1 hn).1
 cases htr with
 | mk a b c =>
  obtain ⟨n', e1, e2⟩ := zDy a
  rw [hn] at e1; cases e1
  subst e2
  exact ⟨_, _, c, by omega⟩
theorem MOk.kids {m : rMt} (hm : MOk m) {i : Nat} {n : rNd} (hn : m.Nodes[i]? = some n) : ∀ k, k ∈ n.Kids → 0 ≤ k ∧ k < (i : Int) := by
 obtain ⟨lo, h, hf, _⟩ := hm.node hn
 exact hf.rng
theorem MOk.msgs {m : rMt} (hm : MOk m) {i : Nat} {n : rNd} (hn : m.Nodes[i]? = some n) (h10 : n.K = 10) : ∀ k, k ∈ n.Kids.drop 1 → (nK m.Nodes k).1 = 11 := fun k hk => by
  obtain ⟨lo, h, hf, _⟩ := hm.node hn
  obtain ⟨t, ht⟩ := List.mem_iff_getElem?.1 hk
  rw [List.getElem?_drop] at ht
  obtain ⟨j, nj, lo', h', a1, a2, a3, a4, a5, a6⟩ := hf.get (1 + t) k ht
  obtain ⟨n', e1, e2⟩ := zDy a2
  subst a1
  rw [zOg e1]
  have hp : zBe (zAd n) (0 + (1 + t)) = (false, true, false) := by
    unfold zBe
    have h9 : ¬ (zAd n).K = 9 := by show ¬ n.K = 9; omega
    have h10' : (zAd n).K = 10 := h10
    rw [if_neg h9, if_pos h10']
    simp <;> omega
  rw [hp] at a3
  subst e2
  unfold zBi at a3
  have hK : (zAd n').K = n'.K := rfl
  rw [hK] at a3
  split at a3
  · cases a3
  split at a3
  · assumption
  split at a3
  · cases a3
  cases a3
theorem MOk.len {m : rMt} (hm : MOk m) (i : Nat) : (oAt (tabO m.Nodes m.Nodes.length) (i : Int)).length ≤ 40000 := by
 obtain ⟨ht, hf, hh⟩ := hm.tr
 have hl := hm.sm.n
 rcases Nat.lt_or_ge i m.Nodes.length with h | h
 ·obtain ⟨lo, h', htr, _⟩ := hf.all i (Nat.zero_le _) h
  have := Tr.size hm.n htr
  omega
 unfold oAt
 rw [List.getElem?_eq_none (by simp [zDz]; omega)]
 simp
theorem MOk.lenI {m : rMt} (hm : MOk m) {i : Nat} (hi : i ≤ m.Nodes.length) : ∀ x, x ∈ tabO m.Nodes i → x.length ≤ 100000 := fun x hx => by
 obtain ⟨j, hj⟩ := List.mem_iff_getElem?.1 hx
 have hji := (List.getElem?_eq_some_iff.1 hj).1
 rw [zDz] at hji
 have h1 := hm.len j
 rw [zNd m.Nodes hi (by omega) (by omega), zIr hj] at h1
 omega
abbrev zA0 (m : rMt) : List (List RW) := tabO m.Nodes m.Nodes.length
theorem w16_l1 {m : rMt} (hm : MOk m) : ∀ (c i q : Nat), i + c = m.Nodes.length → c < q → zBl m q (tabO m.Nodes i) (i : Int) = some (zA0 m) := by
 intro c
 have hl := hm.sm.n
 induction c with
 | zero =>
  intro i q hi hq
  obtain ⟨q, rfl⟩ : ∃ q', q = q' + 1 := ⟨q - 1, by omega⟩
  obtain rfl : i = m.Nodes.length := by omega
  simp only [zBl]
  rw [zAD, ifF]
 | succ c ih =>
  intro i q hi hq
  obtain ⟨q, rfl⟩ : ∃ q', q = q' + 1 := ⟨q - 1, by omega⟩
  have hil : i < m.Nodes.length := by omega
  obtain ⟨n, hn⟩ : ∃ n, m.Nodes[i]? = some n := ⟨_, List.getElem?_eq_getElem hil⟩
  have hk := hm.kids hn
  have hne := node_eq (O := tabO m.Nodes i) hm.n (hm.lenI (by omega)) (by rw [zDz]; omega) n (List.mem_of_getElem? hn) (fun k hkm => ⟨(hk k hkm).1, by rw [zDz]; exact (hk k hkm).2⟩) (fun h => hm.msgs hn h)
  simp only [zBl]
  rw [zAB hil, if_pos rfl, zAf hn, zAa, hne, zAa, appB (by simp [zDz]; unfold big9; omega), zAa, cks (by omega), zAa]
  have := ih (i+1) q (by omega) (by omega)
  simp only [tabO, hn] at this
  exact this
theorem w16_l2 (m : rMt) (hl : m.Args.length ≤ 1000) : ∀ (r : List Str) (i q : Nat) (acc : List (List RW)), m.Args.drop i = r → i ≤ m.Args.length → r.length < q → acc.length ≤ i → zBQ m q acc (i : Int) = some (acc ++ r.map fun a => [w0 0 a]) := by
  intro r
  induction r with
  | nil =>
    intro i q acc h hi hq hac
    obtain ⟨q, rfl⟩ : ∃ q', q = q' + 1 := ⟨q - 1, by simp at hq; omega⟩
    have : i = m.Args.length := by have : m.Args.length ≤ i := by simpa using h
                                   omega
    subst this
    simp only [zBQ]
    rw [zAD, ifF]; simp
  | cons k r ih =>
    intro i q acc h hi hq hac
    obtain ⟨q, rfl⟩ : ∃ q', q = q' + 1 := ⟨q - 1, by simp at hq; omega⟩
    obtain ⟨e1, e2, e3⟩ := zAE h
    simp only [zBQ]
    rw [zAB e3, if_pos rfl, zAf e1, zAa, w_eq, zAa, appB (by simp; unfold big9; omega), zAa, cks (by omega), zAa, ih (i+1) q _ e2 (by omega) (by simp at hq; omega) (by simp; omega)]
    simp
def zJb (m : rMt) : List RW := zIa m.Sel (m.Args.map fun a => [w0 0 a])
def zHl (m : rMt) : List RW := zJb m ++ (w0 15 [] :: (zEy m.Temps ++ (sepW 9 (m.Body.map (oAt (zA0 m))) ++ [w0 16 []])))
theorem zKL (m : rMt) (hl : m.Args.length ≤ 40) : (zJb m).length ≤ 100 := by
  unfold zJb zIa
  have hz : ∀ (ks : List Str) (l : List Str), (zipW ks (l.map fun a => [w0 0 a])).length ≤ 2 * l.length := by
    intro ks
    induction ks with
    | nil => intro l; simp [zipW]
    | cons k ks ih =>
      intro l
      cases l with
      | nil => simp [zipW]
      | cons x l => have := ih l; simp only [List.map_cons, zipW, List.length_cons, List.length_append, List.length_nil]; omega
  split
  · simp
  split
  · cases m.Args <;> simp [hd0]
  have := hz (zER m.Sel) m.Args; omega
theorem MOk.body_len {m : rMt} (hm : MOk m) : (sepW 9 (m.Body.map (oAt (zA0 m)))).length ≤ 40000 := by
 obtain ⟨ht, hf, hh⟩ := hm.tr
 have h1 : sumK (zA0 m) m.Body ≤ 64 * (m.Nodes.length - 0) := Fo.size hm.n hf
 have h2 := zKb (O := zA0 m) (k := 9) m.Body
 have := hm.sm.n
 omega
theorem words_eq {m : rMt} (hm : MOk m) : zEx m = some (zHl m) := by
 unfold zEx zHl zJb
 obtain ⟨ht, hf, hh⟩ := hm.tr
 have hl := hm.sm.n
 have ha := hm.sm.a
 have htl := hm.sm.t
 have h1 := w16_l1 hm m.Nodes.length 0 fuel (by omega) (by unfold fuel; omega)
 rw [show ((0 : Nat) : Int) = 0 from rfl] at h1
 have h1' : zBl m fuel [] 0 = some (zA0 m) := h1
 have h2 := w16_l2 m (by omega) m.Args 0 fuel [] rfl (Nat.zero_le _) (by unfold fuel; omega) (by simp)
 rw [show ((0 : Nat) : Int) = 0 from rfl] at h2
 obtain ⟨hs, hs2⟩ := zFQ hm.sel
 have h3 := zQE m.Sel (m.Args.map fun a => [w0 0 a]) hs hs2 (fun e => by
  rcases zBB hm.sel with h | h | h
  ·rw [h.1] at e; cases e
  ·simp; omega
  ·rw [h.1] at e; cases e) (fun e => by
  rcases zBB hm.sel with h | h | h
  ·rw [h.1] at e; cases e
  ·rw [h.1] at e; cases e
  exact ⟨h.2.1, by simp; omega, by omega⟩) (fun x hx => by obtain ⟨a, _, rfl⟩ := List.mem_map.1 hx; simp)
 have h4 := zI3 m.Temps (by omega)
 have h5 := zNt (zA0 m) m.Body (by have := hm.sm.b; omega) (hm.lenI (Nat.le_refl _)) (fun k hk => by
  have := hf.rng k hk
  rw [zDz]; exact this)
 have l1 : (zIa m.Sel (m.Args.map fun a => [w0 0 a])).length ≤ 100 := zKL m ha
 have l2 := zEP m.Temps
 have l3 := hm.body_len
 rw [h1', zAa, h2, zAa, List.nil_append, h3, zAa, w_eq, w_eq, appB (by simp only [List.length_nil]; unfold big9; omega), zAa, zAa, List.nil_append, appB (by simp only [List.length_cons, List.length_nil]; unfold big9; omega), zAa, h4, zAa,
  appB (by simp only [List.length_append, List.length_cons, List.length_nil]; unfold big9; omega), zAa, h5, zAa, appB (by simp only [List.length_append, List.length_cons, List.length_nil]; unfold big9; omega), zAa, zAa, appB (by simp only [List.length_append, List.length_cons, List.length_nil]; unfold big9; omega), zAa]
 simp
theorem zHw {m : rMt} (hm : MOk m) : (zHl m).length ≤ 41000 := by
 have l1 := zKL m hm.sm.a
 have l2 := zEP m.Temps
 have l3 := hm.body_len
 have l4 := hm.sm.t
 unfold zHl
 simp only [List.length_append, List.length_cons, List.length_nil]
 omega
end
end Go.Cq

