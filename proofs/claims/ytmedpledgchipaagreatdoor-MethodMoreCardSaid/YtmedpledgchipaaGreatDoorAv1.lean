import Derived.Calls
import Derived.Orders
import Derived.Laws.World
import Derived.Below
import Derived.Laws.Append
import Derived.Laws.StructEq
import Derived.Laws.Unary
import Derived.Laws.Concat
import Derived.Laws.IdiomCopy
set_option linter.unusedSectionVars false
set_option linter.unusedVariables false
set_option linter.unusedSimpArgs false
set_option linter.unnecessarySimpa false
namespace Go.Av
open Go
abbrev ETy := TypeId × Nat
inductive AV where
  | any
  | int (k : IntKind) (n : Int)
  | bool (b : Bool)
  | str (s : List UInt8)
  | sl (own : Option (Option ETy)) (l : List AV)
  | rs (id off len es : Nat) (ag full : Bool)
  | nilp
  | ptr (id off : Nat)
  | ip (cs : List AV)
  | agg (cs : List AV)
  | tup (vs : List AV)
  | iface (t : TypeId) (v : AV)
  | nilI
  | fn (f : Fn) (first captured : List AV)
  | nilF
  | nilM
  | fl (l : List AV)   -- a slice written out, on its way into a struct that is laid into memory
  | adr (b : Nat)   -- the address of a block that is no cells: an iterator
  | bld (id : Nat) (T : TypeId)   -- nil, or the address of the own block 'id' itself, which is a variable of this type
deriving Inhabited
def AV.cells : AV → List AV
 | .agg cs => cs
 | v => [v]
mutual
def ltR (n : Nat) : AV → Bool
 | .ptr id _ => decide (id < n)
 | .rs id _ _ _ _ _ => decide (id < n)
 | .bld id _ => decide (id < n)
 | .agg cs => ltRL n cs
 | .tup cs => ltRL n cs
 | .iface _ v => ltR n v
 | .fn _ l1 l2 => ltRL n l1 && ltRL n l2
 | _ => true
def ltRL (n : Nat) : List AV → Bool
 | [] => true
 | x :: xs => ltR n x && ltRL n xs
end
abbrev noRef (x : AV) : Bool := ltR 0 x
theorem ltRL_mem {n : Nat} : ∀ {l : List AV}, ltRL n l = true → ∀ x, x ∈ l → ltR n x = true
 | [], _, x, hx => by simp at hx
 | y :: l, h, x, hx => by
  simp only [ltRL, Bool.and_eq_true] at h
  rcases List.mem_cons.1 hx with rfl | hx
  ·exact h.1
  ·exact ltRL_mem h.2 x hx
mutual
theorem ltR_zero {n : Nat} : ∀ {x : AV}, ltR 0 x = true → ltR n x = true
 | .any, _ | .int _ _, _ | .bool _, _ | .str _, _ | .sl _ _, _ | .nilp, _ | .ip _, _ | .nilI, _ | .nilF, _ | .nilM, _ | .adr _, _ | .fl _, _ => by simp [ltR]
 | .rs _ _ _ _ _ _, h => by simp [ltR] at h
 | .ptr _ _, h => by simp [ltR] at h
 | .bld _ _, h => by simp [ltR] at h
 | .agg cs, h => by simp only [ltR] at h ⊢; exact ltRL_zero h
 | .tup cs, h => by simp only [ltR] at h ⊢; exact ltRL_zero h
 | .iface _ v, h => by simp only [ltR] at h ⊢; exact ltR_zero h
 | .fn _ l1 l2, h => by simp only [ltR, Bool.and_eq_true] at h ⊢; exact ⟨ltRL_zero h.1, ltRL_zero h.2⟩
theorem ltRL_zero {n : Nat} : ∀ {l : List AV}, ltRL 0 l = true → ltRL n l = true
 | [], _ => by simp [ltRL]
 | x :: xs, h => by simp only [ltRL, Bool.and_eq_true] at h ⊢; exact ⟨ltR_zero h.1, ltRL_zero h.2⟩
end
def maxB : Nat := 2 ^ 47
inductive Owner where
 | free
 | imm (v : Value)
 | blk (id : Nat)
 | slot (i : Nat)
 | cell (id off : Nat)
structure Gh where
 ow : Nat → Nat → Owner
 loc : Nat → Option (Nat × Nat × Nat)
 fz : Nat → Option (TypeId × Nat)   -- the blocks of bytes and the like that were made since; of which element type
inductive VR (g : Gh) : AV → Value → Prop
 | any (v) : VR g .any v
 | int {k n} (h1 : k.min ≤ n) (h2 : n ≤ k.max) : VR g (.int k n) (.int k n)
 | bool {b} : VR g (.bool b) (.bool b)
 | str {s : List UInt8} {v : ByteArray} (h : v.data.toList = s) (hb : s.length ≤ maxB) : VR g (.str s) (.string v)
 | sl {own l a n cap} (hl : l.length = n) (hc : n ≤ cap) (hb : n ≤ maxB) (b o es : Nat) (vs : Nat → Value)
   (ha : l ≠ [] → a = some ⟨b, o, none⟩) (hes : ∀ x, x ∈ l → x.cells.length = es) (h0 : 0 < es) (hn : ∀ x, x ∈ l → ∀ c, c ∈ x.cells → noRef c = true)
   (hi : ∀ (j : Nat) (av : AV), (l.flatMap AV.cells)[j]? = some av → g.ow b (o + j) = .imm (vs j))
   (hv : ∀ (j : Nat) (av : AV), (l.flatMap AV.cells)[j]? = some av → VR g av (vs j))
   (hq : own = some none → l = [] → n = cap ∧ (a = none ∨ ∃ b o, a = some ⟨b, o, none⟩ ∧ ∃ e, g.fz b = some e)) : VR g (.sl own l) (.slice a n cap)
 | rs {id off len es ag full cp b base c a} (hloc : g.loc id = some (b, base, c)) (ha : 0 < cp → a = some ⟨b, base + off, none⟩) (h0 : 0 < es) (h1 : len ≤ cp) (hf : full = true → cp = len) (h2 : off + cp * es ≤ c) (hb : len ≤ maxB) :
   VR g (.rs id off len es ag full) (.slice a len cp)
 | nilp : VR g .nilp (.pointer none)
 | ptr {id off b base c} (hloc : g.loc id = some (b, base, c)) : VR g (.ptr id off) (.pointer (some ⟨b, base + off, none⟩))
 | ip {cs b o} (vs : Nat → Value) (hn : ∀ x, x ∈ cs → noRef x = true) (hi : ∀ (j : Nat) (av : AV), cs[j]? = some av → g.ow b (o + j) = .imm (vs j)) (hv : ∀ (j : Nat) (av : AV), cs[j]? = some av → VR g av (vs j)) : VR g (.ip cs) (.pointer (some ⟨b, o, none⟩))
 | agg {cs : List AV} {vs : Array Value} (hs : cs.length = vs.size) (h : ∀ (j : Nat) (av : AV) (v : Value), cs[j]? = some av → vs[j]? = some v → VR g av v) : VR g (.agg cs) (.agg vs)
 | tup {cs : List AV} {vs : Array Value} (hs : cs.length = vs.size) (h : ∀ (j : Nat) (av : AV) (v : Value), cs[j]? = some av → vs[j]? = some v → VR g av v) : VR g (.tup cs) (.tuple vs)
 | iface {t av v} (h : VR g av v) : VR g (.iface t av) (.iface t v)
 | nilI : VR g .nilI .nilIface
 | fn {f} {l1 l2 : List AV} {a1 a2 : Array Value} (h1 : l1.length = a1.size) (h2 : l2.length = a2.size)
   (h3 : ∀ (j : Nat) (av : AV) (v : Value), l1[j]? = some av → a1[j]? = some v → VR g av v) (h4 : ∀ (j : Nat) (av : AV) (v : Value), l2[j]? = some av → a2[j]? = some v → VR g av v) : VR g (.fn f l1 l2) (.func f a1 a2)
 | nilF : VR g .nilF .nilFunc
 | nilM : VR g .nilM (.map none)
 | fl {l a n} (h : VR g (.sl none l) (.slice a n n)) (hf : a = none ∨ ∃ b, a = some ⟨b, 0, none⟩ ∧ (l = [] → ∃ e, g.fz b = some e)) : VR g (.fl l) (.slice a n n)
 | adr {b} : VR g (.adr b) (.pointer (some ⟨b, 0, none⟩))
 | bld {id T b v} (hloc : g.loc id = some (b, 0, 2)) (hz : g.fz b = some (T, 2)) (hv : v = .pointer none ∨ v = .pointer (some ⟨b, 0, none⟩)) : VR g (.bld id T) v
theorem VR.mono {g g' : Gh} (hi : ∀ b o v, g.ow b o = .imm v → g'.ow b o = .imm v) (hl : ∀ id l, g.loc id = some l → g'.loc id = some l) (hz : ∀ b e, g.fz b = some e → g'.fz b = some e)
  {av : AV} {v : Value} (h : VR g av v) : VR g' av v := by
 induction h with
 | any v => exact .any v
 | int h1 h2 => exact .int h1 h2
 | bool => exact .bool
 | str h hb => exact .str h hb
 | sl hl hc hb b o es vs ha hes h0 hn hi' _ hq ih => exact .sl hl hc hb b o es vs ha hes h0 hn (fun j av h => hi _ _ _ (hi' j av h)) ih (fun q1 q2 => ⟨(hq q1 q2).1, (hq q1 q2).2.imp id fun ⟨b, o, e1, e, e2⟩ => ⟨b, o, e1, e, hz _ _ e2⟩⟩)
 | rs hloc ha h0 h1 hf h2 hb => exact .rs (hl _ _ hloc) ha h0 h1 hf h2 hb
 | nilp => exact .nilp
 | ptr hloc => exact .ptr (hl _ _ hloc)
 | ip vs hn hi' _ ih => exact .ip vs hn (fun j av h => hi _ _ _ (hi' j av h)) ih
 | agg hs _ ih => exact .agg hs ih
 | tup hs _ ih => exact .tup hs ih
 | iface _ ih => exact .iface ih
 | nilI => exact .nilI
 | fn h1 h2 _ _ ih3 ih4 => exact .fn h1 h2 ih3 ih4
 | nilF => exact .nilF
 | nilM => exact .nilM
 | adr => exact .adr
 | fl _ hf ih => exact .fl ih (hf.imp id fun ⟨b, e, hh⟩ => ⟨b, e, fun hl => (hh hl).imp fun _ => hz _ _⟩)
 | bld hloc hz' hv => exact .bld (hl _ _ hloc) (hz _ _ hz') hv
theorem VR.lt {g g' : Gh} {n : Nat} (hi : ∀ b o v, g.ow b o = .imm v → g'.ow b o = .imm v) (hl : ∀ id l, id < n → g.loc id = some l → g'.loc id = some l) (hz : ∀ b e, g.fz b = some e → g'.fz b = some e) {av : AV} {v : Value} (h : VR g av v) : ltR n av = true → VR g' av v := by
 induction h with
 | any v => intro _; exact .any v
 | int h1 h2 => intro _; exact .int h1 h2
 | bool => intro _; exact .bool
 | str h hb => intro _; exact .str h hb
 | sl hl' hc hb b o es vs ha hes h0 hn hi' _ hq ih =>
  intro _
  refine .sl hl' hc hb b o es vs ha hes h0 hn (fun j av h => hi _ _ _ (hi' j av h)) (fun j av h => ih j av h ?_) (fun q1 q2 => ⟨(hq q1 q2).1, (hq q1 q2).2.imp id fun ⟨b, o, e1, e, e2⟩ => ⟨b, o, e1, e, hz _ _ e2⟩⟩)
  have hm := List.mem_of_getElem? h
  obtain ⟨x, hx, hxc⟩ := List.mem_flatMap.1 hm
  exact ltR_zero (hn x hx _ hxc)
 | rs hloc ha h0 h1 hf h2 hb => intro h; simp only [ltR, decide_eq_true_eq] at h; exact .rs (hl _ _ h hloc) ha h0 h1 hf h2 hb
 | nilp => intro _; exact .nilp
 | ptr hloc => intro h; simp only [ltR, decide_eq_true_eq] at h; exact .ptr (hl _ _ h hloc)
 | ip vs hn hi' _ ih => intro _; exact .ip vs hn (fun j av h => hi _ _ _ (hi' j av h)) (fun j av h => ih j av h (ltR_zero (hn av (List.mem_of_getElem? h))))
 | agg hs _ ih => intro h; simp only [ltR] at h; exact .agg hs (fun j av v h1 h2 => ih j av v h1 h2 (ltRL_mem h _ (List.mem_of_getElem? h1)))
 | tup hs _ ih => intro h; simp only [ltR] at h; exact .tup hs (fun j av v h1 h2 => ih j av v h1 h2 (ltRL_mem h _ (List.mem_of_getElem? h1)))
 | iface _ ih => intro h; exact .iface (ih (by simpa [ltR] using h))
 | nilI => intro _; exact .nilI
 | fn h1 h2 _ _ ih3 ih4 =>
  intro h; simp only [ltR, Bool.and_eq_true] at h
  exact .fn h1 h2 (fun j av v h1 h2 => ih3 j av v h1 h2 (ltRL_mem h.1 _ (List.mem_of_getElem? h1))) (fun j av v h1 h2 => ih4 j av v h1 h2 (ltRL_mem h.2 _ (List.mem_of_getElem? h1)))
 | nilF => intro _; exact .nilF
 | nilM => intro _; exact .nilM
 | adr => intro _; exact .adr
 | fl _ hf ih => intro _; exact .fl (ih (by simp [ltR])) (hf.imp id fun ⟨b, e, hh⟩ => ⟨b, e, fun hl => (hh hl).imp fun _ => hz _ _⟩)
 | bld hloc hz' hv => intro h; simp only [ltR, decide_eq_true_eq] at h; exact .bld (hl _ _ h hloc) (hz _ _ hz') hv
theorem VR.noref {g g' : Gh} (hi : ∀ b o v, g.ow b o = .imm v → g'.ow b o = .imm v) (hz : ∀ b e, g.fz b = some e → g'.fz b = some e) {av : AV} {v : Value} (h : VR g av v) (hn : noRef av = true) : VR g' av v :=
 h.lt (n := 0) hi (fun _ _ h => by omega) hz hn
def Tail (g : Gh) (key : Owner) : AV → Value → Prop
 | .sl (some oe) l, .slice a n cap => (l = [] ∧ n = cap ∧ (a = none ∨ ∃ b o, a = some ⟨b, o, none⟩ ∧ ∃ e, g.fz b = some e)) ∨ ((l ≠ [] ∨ ∃ e', oe = some e' ∧ 0 < e'.2) ∧ ∃ b o es, a = some ⟨b, o, none⟩ ∧ 0 < es ∧ (∀ x, x ∈ l → x.cells.length = es) ∧ (∀ j, o + n * es ≤ j → j < o + cap * es → g.ow b j = key) ∧ o = 0 ∧ ∀ e', oe = some e' → ∃ e, g.fz b = some e ∧ e'.1 = e.1 ∧ (0 < e'.2 → es = e'.2))
 | _, _ => True
def lget : List AV → Nat → AV
 | [], _ => .any
 | a :: _, 0 => a
 | _ :: l, n+1 => lget l n
def lset : List AV → Nat → AV → List AV
 | [], _, _ => []
 | _ :: l, 0, v => v :: l
 | a :: l, n+1, v => a :: lset l n v
theorem lget_eq (l : List AV) (n : Nat) : lget l n = l.getD n .any := by
 induction l generalizing n with
 | nil => rfl
 | cons a l ih => cases n with
  | zero => rfl
  | succ n => simpa [lget] using ih n
theorem lset_eq (l : List AV) (n : Nat) (v : AV) : lset l n v = l.set n v := by
 induction l generalizing n with
 | nil => rfl
 | cons a l ih => cases n with
  | zero => rfl
  | succ n => simpa [lset] using ih n
abbrev Heap := List (Option (List AV))
structure Rel (g : Gh) (tm : List AV) (hp : Heap) (a : Array Value) (w : World) : Prop where
 size : tm.length ≤ a.size
 slots : ∀ t, VR g (lget tm t) (a.getD t undef) ∧ Tail g (.slot t) (lget tm t) (a.getD t undef)
 heap : ∀ (id : Nat) cs, hp[id]? = some (some cs) → ∃ b base c, g.loc id = some (b, base, c) ∧ cs.length ≤ c ∧ (∀ j, j < c → g.ow b (base + j) = .blk id) ∧
  ∀ (j : Nat) av, cs[j]? = some av → ∃ v, w.cell? ⟨b, base + j, none⟩ = some v ∧ VR g av v ∧ Tail g (.cell id j) av v
 locs : ∀ id, hp.length ≤ id → g.loc id = none
 imms : ∀ b o v, g.ow b o = .imm v → w.cell? ⟨b, o, none⟩ = some v
 owns : ∀ b o, g.ow b o ≠ .free → (∃ v, w.cell? ⟨b, o, none⟩ = some v) ∧ ((∀ v, g.ow b o ≠ .imm v) → w.frozen? ⟨b, o, none⟩ = false)
 fzs : ∀ b e, g.fz b = some e → ∃ c lo hi, w.heap[b]? = some (Obj.cells c e.1 (lo, hi)) ∧ ((lo = hi ∨ lo = 0) ∧ c.size = e.2) ∧ ∀ o, lo ≤ o → o < hi → ∃ v, g.ow b o = .imm v
structure Upd (g : Gh) (w w' : World) : Prop where
 os : w'.os = w.os
 tape : w'.tape = w.tape
 output : w'.output = w.output
 size : w.heap.size ≤ w'.heap.size
 cells : ∀ (b : Nat) c e f, w.heap[b]? = some (Obj.cells c e f) → ∃ c' f', w'.heap[b]? = some (Obj.cells c' e f') ∧ c'.size = c.size ∧ (∀ o, (g.ow b o = .free ∨ ∃ v, g.ow b o = .imm v) → c'[o]? = c[o]?) ∧
  (g.fz b = none → f' = f) ∧ ∀ o, g.ow b o = .free → (decide (f'.1 ≤ o) && decide (o < f'.2)) = (decide (f.1 ≤ o) && decide (o < f.2))
 other : ∀ (b : Nat) o, w.heap[b]? = some o → (∀ c e f, o ≠ Obj.cells c e f) → w'.heap[b]? = some o
structure Stp (n : Nat) (g : Gh) (w : World) (g' : Gh) (w' : World) : Prop where
 imm : ∀ b o v, g.ow b o = .imm v → g'.ow b o = .imm v
 perm : ∀ b o, b < w.heap.size → g.ow b o = .free → g'.ow b o = .free
 loc : ∀ id l, id < n → g.loc id = some l → g'.loc id = some l
 upd : Upd g w w'
 fzm : ∀ b e, g.fz b = some e → g'.fz b = some e
 fzn : ∀ b, b < w.heap.size → g.fz b = none → g'.fz b = none
theorem Upd.of {g : Gh} {w w' : World} (h1 : w'.os = w.os) (h2 : w'.tape = w.tape) (h3 : w'.output = w.output) (h4 : w.heap.size ≤ w'.heap.size)
  (h5 : ∀ (b : Nat) c e f, w.heap[b]? = some (Obj.cells c e f) → ∃ c', w'.heap[b]? = some (Obj.cells c' e f) ∧ c'.size = c.size ∧ ∀ o, (g.ow b o = .free ∨ ∃ v, g.ow b o = .imm v) → c'[o]? = c[o]?)
  (h6 : ∀ (b : Nat) o, w.heap[b]? = some o → (∀ c e f, o ≠ Obj.cells c e f) → w'.heap[b]? = some o) : Upd g w w' :=
 ⟨h1, h2, h3, h4, fun b c e f hb => by obtain ⟨c', q1, q2, q3⟩ := h5 b c e f hb; exact ⟨c', f, q1, q2, q3, fun _ => rfl, fun _ _ => rfl⟩, h6⟩
theorem Stp.of {n : Nat} {g g' : Gh} {w w' : World} (h1 : ∀ b o v, g.ow b o = .imm v → g'.ow b o = .imm v) (h2 : ∀ b o, b < w.heap.size → g.ow b o = .free → g'.ow b o = .free)
  (h3 : ∀ id l, id < n → g.loc id = some l → g'.loc id = some l) (h4 : Upd g w w') (h5 : g'.fz = g.fz) : Stp n g w g' w' :=
 ⟨h1, h2, h3, h4, fun b e h => by rw [h5]; exact h, fun b _ h => by rw [h5]; exact h⟩
theorem Upd.refl (g : Gh) (w : World) : Upd g w w := .of rfl rfl rfl (Nat.le_refl _) (fun _ c _ _ h => ⟨c, h, rfl, fun _ _ => rfl⟩) (fun _ _ h _ => h)
theorem Stp.refl (n : Nat) (g : Gh) (w : World) : Stp n g w g w := .of (fun _ _ _ h => h) (fun _ _ _ h => h) (fun _ _ _ h => h) (.refl g w) rfl
theorem Stp.trans {n : Nat} {g g1 g2 : Gh} {w w1 w2 : World} (h : Stp n g w g1 w1) (k : Stp n g1 w1 g2 w2) : Stp n g w g2 w2 := by
 refine ⟨fun b o v hv => k.imm _ _ _ (h.imm _ _ _ hv), fun b o hb hv => k.perm _ _ (Nat.lt_of_lt_of_le hb h.upd.size) (h.perm _ _ hb hv), fun id l hi hl => k.loc _ _ hi (h.loc _ _ hi hl), ?_, fun b e he => k.fzm _ _ (h.fzm _ _ he), fun b hb hn => k.fzn _ (Nat.lt_of_lt_of_le hb h.upd.size) (h.fzn _ hb hn)⟩
 refine ⟨k.upd.os.trans h.upd.os, k.upd.tape.trans h.upd.tape, k.upd.output.trans h.upd.output, Nat.le_trans h.upd.size k.upd.size, ?_, ?_⟩
 ·intro b c e f hb
  have hlt : b < w.heap.size := by
   rcases Nat.lt_or_ge b w.heap.size with h' | h'
   ·exact h'
   ·simp [Array.getElem?_eq_none h'] at hb
  obtain ⟨c1, f1, h1, hs1, hc1, hf1, hg1⟩ := h.upd.cells b c e f hb
  obtain ⟨c2, f2, h2, hs2, hc2, hf2, hg2⟩ := k.upd.cells b c1 e f1 h1
  refine ⟨c2, f2, h2, hs2.trans hs1, fun o ho => ?_, fun hn => (hf2 (h.fzn _ hlt hn)).trans (hf1 hn), fun o ho => ?_⟩
  ·rw [hc2 o ?_, hc1 o ho]
   rcases ho with ho | ⟨v, ho⟩
   ·exact .inl (h.perm _ _ hlt ho)
   ·exact .inr ⟨v, h.imm _ _ _ ho⟩
  ·rw [hg2 o (h.perm _ _ hlt ho), hg1 o ho]
 ·intro b o hb hn
  exact k.upd.other b o (h.upd.other b o hb hn) hn
theorem Upd.cell {g : Gh} {w w' : World} (h : Upd g w w') {b o : Nat} {v : Value} (ho : g.ow b o = .free ∨ ∃ v, g.ow b o = .imm v) (hc : w.cell? ⟨b, o, none⟩ = some v) : w'.cell? ⟨b, o, none⟩ = some v := by
 unfold World.cell? at *
 split at hc
 ·rename_i c e f hb
  obtain ⟨c', f', h1, h2, h3, h4, h5⟩ := h.cells b c e f hb
  simp only [h1]
  simp at hc ⊢
  have := h3 o ho
  simpa [hc] using this
 ·simp at hc
theorem Upd.frozen {g : Gh} {w w' : World} (h : Upd g w w') {b o : Nat} {v : Value} (ho : g.ow b o = .free) (hc : w.cell? ⟨b, o, none⟩ = some v) : w'.frozen? ⟨b, o, none⟩ = w.frozen? ⟨b, o, none⟩ := by
 unfold World.cell? at hc
 split at hc
 ·rename_i c e f hb
  obtain ⟨c', f', h1, h2, h3, h4, h5⟩ := h.cells b c e f hb
  unfold World.frozen?
  simp only [h1]
  dsimp only at hb
  simp only [hb]
  exact h5 o ho
 ·simp at hc
end Go.Av

namespace Go.Av
open Go
def szOf (P : Program) (t : TypeId) : Option Nat := (P.info? t).map (·.size)
def bytesOf? (P : Program) (t : TypeId) : Option Nat := (P.info? t).map (·.bytes)
def aggOf (P : Program) (t : TypeId) : Option Bool :=
 match P.underlying t with
 | some (.struct _) | some (.array _ _) => some true
 | some _ => some false
 | none => none
structure El where
 t : TypeId
 sz : Nat
 ag : Bool
 by_ : Nat
def fldOf (P : Program) (t : TypeId) (f : Nat) : Option (Nat × Nat × Bool) :=
 match P.underlying t with
 | some (.struct fs) => match fs[f]? with
  | some x => match szOf P x.type, aggOf P x.type with
   | some s, some a => some (x.offset, s, a)
   | _, _ => none
  | none => none
 | _ => none
def partOf (P : Program) (t : TypeId) (i : Nat) : Option (Nat × Nat × Bool) :=
 match P.underlying t with
 | some (.struct _) => fldOf P t i
 | some (.array _ e) => match szOf P e, aggOf P e with
  | some s, some a => some (i * s, s, a)
  | _, _ => none
 | _ => none
def arrOf (P : Program) (t : TypeId) : Option Nat :=
 match P.underlying t with
 | some (.array n e) => match szOf P e, aggOf P e with
  | some 1, some false => some n
  | _, _ => none
 | _ => none
def kindOf (P : Program) (t : TypeId) : Nat :=
 match P.underlying t with
 | some .string => 1
 | some (.slice _) => 2
 | some (.interface _) => 3
 | some (.int _) => 4
 | some (.pointer _) => 5
 | some .bool => 6
 | some (.struct _) => 7
 | some (.func _ _ _) => 8
 | some (.map _ _) => 9
 | _ => 0
def intOf? (P : Program) (t : TypeId) : Option IntKind :=
 match P.underlying t with
 | some (.int k) => some k
 | _ => none
def ofValC : Value → AV
 | .bool b => .bool b
 | .int k n => .int k n
 | .string s => .str s.data.toList
 | .pointer none => .nilp
 | .slice none 0 0 => .sl none []
 | .nilIface => .nilI
 | .nilFunc => .nilF
 | .map none => .nilM
 | _ => .any
def ofVal : Value → AV
 | .bool b => .bool b
 | .int k n => .int k n
 | .string s => .str s.data.toList
 | .pointer none => .nilp
 | .slice none 0 0 => .sl (some none) []
 | .nilIface => .nilI
 | .nilFunc => .nilF
 | .map none => .nilM
 | .agg cs => .agg (cs.toList.map ofValC)
 | _ => .any
def okValC : Value → Bool
 | .int k n => decide (k.min ≤ n) && decide (n ≤ k.max)
 | .string s => decide (s.data.toList.length ≤ maxB)
 | _ => true
def okVal : Value → Bool
 | .agg cs => cs.toList.all okValC
 | v => okValC v
def zeroOf (P : Program) (t : TypeId) : Option (List AV) :=
 match P.info? t with
 | some i => match i.zero with
  | some z => if z.cells.toList.all okValC && (z.cells.size == i.size) then some (z.cells.toList.map ofValC) else none
  | none => none
 | none => none
def elOf (P : Program) (t : TypeId) : Option El :=
 match P.underlying t with
 | some (.slice e) => match szOf P e, aggOf P e, bytesOf? P e with
  | some s, some a, some b => if (zeroOf P e).isSome then some ⟨e, s, a, b⟩ else none
  | _, _, _ => none
 | _ => none
def un : AV → AV
 | .sl own l => .sl none l
 | v => v
def opv (tm : List AV) : Operand → AV
 | .tmp t => lget tm t
 | .const v => ofVal v
 | .global _ => .any
 | .func f => .fn (.func f) [] []
def put (tm : List AV) : Option Nat → AV → List AV
 | some d, v => lset tm d v
 | none, _ => tm
def hget : Heap → Nat → List AV
 | [], _ => []
 | some cs :: _, 0 => cs
 | none :: _, 0 => []
 | _ :: l, n+1 => hget l n
def hset : Heap → Nat → List AV → Heap
 | [], _, _ => []
 | _ :: l, 0, v => some v :: l
 | a :: l, n+1, v => a :: hset l n v
def ltake : Nat → List AV → List AV
 | 0, _ => []
 | _, [] => []
 | n+1, a :: l => a :: ltake n l
def ldrop : Nat → List AV → List AV
 | 0, l => l
 | _, [] => []
 | n+1, _ :: l => ldrop n l
def lput : List AV → Nat → List AV → List AV   -- cells laid over others from a place on
 | l, _, [] => l
 | l, i, v :: vs => lput (lset l i v) (i+1) vs
def kq : IntKind → IntKind → Bool
 | .i64, .i64 | .u8, .u8 | .u64, .u64 | .i32, .i32 | .u32, .u32 | .i16, .i16 | .u16, .u16 | .i8, .i8 => true
 | _, _ => false
theorem kq_eq {k k' : IntKind} (h : kq k k' = true) : k = k' := by cases k <;> cases k' <;> simp_all [kq]
def mvd (all : List Oper) (d : Nat) : Bool := all.any fun p => match p.op with
 | .move _ => match p.dst with
  | some e => e == d
  | none => false
 | _ => false
def stolen (all : List Oper) (d : Option Nat) : Bool :=
 match d with
 | none => false
 | some d => all.any fun o => match o.op with
  | .call { callee := .builtin .append, args, .. } => match args.toList with
   | .tmp t :: _ => t == d
   | _ => false
  | .assign (.tmp t) => match o.dst with
   | some r => bif r == 2 then bif t == d then mvd all d else false else false
   | none => false
  | _ => false
structure MR where
 c : Option Prop
 v : AV
 tm : List AV
 hp : Heap
def cmpv (op : BinOp) (a b : Int) : AV :=
 match op with
 | .eql => .bool (decide (a = b))
 | .neq => .bool (!decide (a = b))
 | .lss => .bool (decide (a < b))
 | .leq => .bool (decide (a ≤ b))
 | .gtr => .bool (decide (b < a))
 | .geq => .bool (decide (b ≤ a))
 | _ => .any
def bitv (op : BinOp) (k : IntKind) (x y : Int) : Int :=
 match op with
 | .and => k.wrap ((BitVec.ofInt k.bits x &&& BitVec.ofInt k.bits y).toNat)
 | .or => k.wrap ((BitVec.ofInt k.bits x ||| BitVec.ofInt k.bits y).toNat)
 | .xor => k.wrap ((BitVec.ofInt k.bits x ^^^ BitVec.ofInt k.bits y).toNat)
 | _ => k.wrap ((BitVec.ofInt k.bits x &&& ~~~(BitVec.ofInt k.bits y)).toNat)
def intv (op : BinOp) (k : IntKind) (a b : Int) : AV :=
 match op with
 | .add => .int k (k.wrap (a + b))
 | .sub => .int k (k.wrap (a - b))
 | .mul => .int k (k.wrap (a * b))
 | .quo => .int k (k.wrap (a.tdiv b))
 | .rem => .int k (a.tmod b)
 | .and => .int k (bitv .and k a b)
 | .or => .int k (bitv .or k a b)
 | .xor => .int k (bitv .xor k a b)
 | .andNot => .int k (bitv .andNot k a b)
 | .shl | .shr => .any
 | op => cmpv op a b
def shv (op : BinOp) (k : IntKind) (a b : Int) : AV :=
 match op with
 | .shl => .int k (k.wrap (a * 2 ^ (min b.toNat k.bits)))
 | .shr => .int k (a.fdiv (2 ^ (min b.toNat k.bits)))
 | _ => .any
def strv (op : BinOp) (a b : List UInt8) : AV :=
 match op with
 | .add => .str (a ++ b)
 | .eql => .bool (a == b)
 | .neq => .bool (!(a == b))
 | .lss => .bool (Op.bytesLess a b)
 | .leq => .bool (Op.bytesLess a b || a == b)
 | .gtr => .bool (!(Op.bytesLess a b || a == b))
 | .geq => .bool (!Op.bytesLess a b)
 | _ => .any
def eqs : AV → AV → Option Bool
 | .int k a, .int k' b => bif kq k k' then some (decide (a = b)) else none
 | .bool a, .bool b => some (a == b)
 | .str a, .str b => some (a == b)
 | _, _ => none
def eql_ : List AV → List AV → Option Bool
 | [], [] => some true
 | [x], [y] => eqs x y
 | x :: xs, y :: ys => match eqs x y, eql_ xs ys with
  | some a, some b => some (a && b)
  | _, _ => none
 | _, _ => none
def eqv (kd : Nat) (x y : AV) : Option Bool :=
 match kd with
 | 3 => match x, y with
  | .nilI, .nilI => some true
  | .nilI, .iface _ _ => some false
  | .iface _ _, .nilI => some false
  | _, _ => none
 | 5 => match x, y with
  | .nilp, .nilp => some true
  | .nilp, .ptr _ _ => some false
  | .ptr _ _, .nilp => some false
  | _, _ => none
 | 6 => match x, y with
  | .bool a, .bool b => some (a == b)
  | _, _ => none
 | 8 => match x, y with
  | .nilF, .nilF => some true
  | .nilF, .fn _ _ _ => some false
  | .fn _ _ _, .nilF => some false
  | _, _ => none
 | _ => none
def neg : Option Bool → Option Bool
 | some b => some (!b)
 | none => none
def obool : Option Bool → AV
 | some b => .bool b
 | none => .any
def eqop (op : BinOp) (r : Option Bool) : AV :=
 match op with
 | .eql => obool r
 | .neq => obool (neg r)
 | _ => .any
def flatF (P : Program) (p : Field × Nat) : Bool := p.1.name != "_" && (p.1.offset == p.2) && (szOf P p.1.type == some 1) && (kindOf P p.1.type == 1 || kindOf P p.1.type == 4 || kindOf P p.1.type == 6)
def flatSt (P : Program) (t : TypeId) : Option (List Nat) :=
 match P.underlying t with
 | some (.struct fs) => if (fs.toList.zipIdx 0).all (flatF P) && !P.stoodInHeld t && !P.eqGuardType P.depth t then some (fs.toList.map fun f => kindOf P f.type) else none
 | _ => none
def kindsOk : List Nat → List AV → Bool
 | [], [] => true
 | k :: ks, x :: xs => (match x with | .str _ => k == 1 | .int _ _ => k == 4 | .bool _ => k == 6 | _ => false) && kindsOk ks xs
 | _, _ => false
def binv (P : Program) (op : BinOp) (t : TypeId) (x y : AV) : AV :=
 match x, y with
 | .int k a, .int k' b => match op with
  | .shl => shv .shl k a b
  | .shr => shv .shr k a b
  | op => bif kq k k' then intv op k a b else .any
 | .str a, .str b => strv op a b
 | .agg xs, .agg ys => bif (match flatSt P t with | some l => kindsOk l xs && (xs.length == ys.length) | none => false) then eqop op (eql_ xs ys) else .any
 | x, y => eqop op (eqv (kindOf P t) x y)
def binc (op : BinOp) (x y : AV) : Option Prop :=
 match op with
 | .quo | .rem => match y with | .int _ b => some (b ≠ 0) | _ => some False
 | .shl | .shr => match y with | .int _ b => some (0 ≤ b) | _ => some False
 | .add => match x, y with
  | .str a, .str b => some (a.length + b.length ≤ maxB)
  | _, _ => none
 | _ => none
end Go.Av

namespace Go.Av
open Go
def opn : AV → AV
 | .sl _ [] => .sl (some none) []
 | v => v
def mvV (all : List Oper) (d : Option Nat) : AV → AV
 | .sl (some oe) l => bif stolen all d then .sl (some oe) l else .sl none l
 | v => v
def mvT (all : List Oper) (d : Option Nat) (tm : List AV) (x : Operand) : List AV :=
 match x with
 | .tmp t => match lget tm t with
  | .sl (some oe) l => bif stolen all d then lset tm t (.sl none l) else tm
  | _ => tm
 | _ => tm
def asT (tm : List AV) (x : Operand) : List AV :=
 match x with
 | .tmp t => match lget tm t with
  | .sl (some oe) l => lset tm t (.sl none l)
  | _ => tm
 | _ => tm
def fix : AV → AV
 | .sl _ l => .sl none l
 | v => v
def pickv : AV → AV → AV → AV
 | .bool true, x, _ => un x
 | .bool false, _, y => un y
 | _, _, _ => .any
def fillv (zero : List AV) : List (Nat × Nat × AV) → List AV   -- offset, size, value
 | [] => zero
 | (off, _, v) :: r => fillv (lput zero off (fix v).cells) r
def partsOf (P : Program) (t : TypeId) (tm : List AV) : List (Nat × Operand) → Option (List (Nat × Nat × AV))
 | [] => some []
 | (i, x) :: r => match partOf P t i, partsOf P t tm r with
  | some (off, sz, _), some l => some ((off, sz, opv tm x) :: l)
  | _, _ => none
def okPart : AV → Bool
 | .any | .tup _ => false
 | _ => true
def allFld (P : Program) (t : TypeId) : Bool := match P.underlying t with
 | some (.struct fs) => fs.toList.all fun f => (szOf P f.type).isSome
 | some (.array _ e) => (szOf P e).isSome
 | _ => false
def okParts (n : Nat) : List (Nat × Nat × AV) → Bool
 | [] => true
 | (off, sz, v) :: r => okPart v && ((fix v).cells.length == sz) && decide (off + sz ≤ n) && okParts n r
def elemsOf (tm : List AV) : Nat → List (Nat × Operand) → Option (List AV)
 | _, [] => some []
 | i, (j, x) :: r => if i = j then match elemsOf tm (i+1) r with
  | some l => some (fix (opv tm x) :: l)
  | none => none
  else none
def okCell : AV → Bool
 | .any | .agg _ | .tup _ => false
 | _ => true
def okElems (sz : Nat) (l : List AV) : Bool := l.all fun x => okPart x && (x.cells.length == sz) && x.cells.all noRef && x.cells.all okCell
def lenv : AV → AV
 | .str s => .int .i64 s.length
 | .sl _ l => .int .i64 l.length
 | .rs _ _ n _ _ _ => .int .i64 n
 | _ => .any
def lenOk : AV → Bool
 | .str _ | .sl _ _ | .rs _ _ _ _ _ _ => true
 | _ => false
def byteAV (c : UInt8) : AV := .int .u8 c.toNat
def toByte : AV → UInt8
 | .int _ n => UInt8.ofNat n.toNat
 | _ => 0
def IsBytes (l : List AV) : Prop := ∀ x, x ∈ l → ∃ n, x = .int .u8 n
def elsOf : AV → List AV
 | .sl _ l => l
 | .str s => s.map byteAV
 | _ => []
def okEl (sz : Nat) (z : AV) : Bool := (z.cells.length == sz) && z.cells.all okCell
def appc (e : El) (x y : AV) : Prop :=
 match x, y with
 | .sl (some none) l, .sl _ l2 => 0 < e.sz ∧ (∀ z, z ∈ l2 → okEl e.sz z = true) ∧ (∀ z, z ∈ l → okEl e.sz z = true) ∧ l.length + l2.length ≤ maxB ∧ (l.length + l2.length) * e.by_ ≤ maxB
 | .sl (some (some e')) l, .sl _ l2 => e'.1 = e.t ∧ (e'.2 = 0 ∨ e'.2 = e.sz) ∧ 0 < e.sz ∧ (∀ z, z ∈ l2 → okEl e.sz z = true) ∧ (∀ z, z ∈ l → okEl e.sz z = true) ∧ l.length + l2.length ≤ maxB ∧ (l.length + l2.length) * e.by_ ≤ maxB
 | .sl (some none) l, .str s => e.sz = 1 ∧ (∀ z, z ∈ l → okEl e.sz z = true) ∧ l.length + s.length ≤ maxB ∧ (l.length + s.length) * e.by_ ≤ maxB
 | .sl (some (some e')) l, .str s => e'.1 = e.t ∧ (e'.2 = 0 ∨ e'.2 = e.sz) ∧ e.sz = 1 ∧ (∀ z, z ∈ l → okEl e.sz z = true) ∧ l.length + s.length ≤ maxB ∧ (l.length + s.length) * e.by_ ≤ maxB
 | _, _ => False
def appv (x y : AV) : AV :=
 match x with
 | .sl (some oe) l => .sl (some oe) (l ++ elsOf y)
 | _ => .any
def mnv (x y : AV) : AV := match x, y with | .int k a, .int k' b => bif kq k k' then .int k (if b < a then b else a) else .any | _, _ => .any
def mxv (x y : AV) : AV := match x, y with | .int k a, .int k' b => bif kq k k' then .int k (if a < b then b else a) else .any | _, _ => .any
def lowOf (tm : List AV) : Option Operand → Option Int
 | none => some 0
 | some x => match opv tm x with | .int _ n => some n | _ => none
def highOf (tm : List AV) (len : Nat) : Option Operand → Option Int
 | none => some len
 | some x => match opv tm x with | .int _ n => some n | _ => none
def slc (len : Nat) (lo hi : Option Int) : Prop :=
 match lo, hi with
 | some l, some h => 0 ≤ l ∧ l ≤ h ∧ h ≤ len
 | _, _ => False
def slv (x : AV) (lo hi : Option Int) (full : Bool) : AV :=
 match lo, hi with
 | some l, some h => match x with
  | .str s => .str ((s.take h.toNat).drop l.toNat)
  | .sl _ s => .sl none ((s.take h.toNat).drop l.toNat)
  | _ => .any
 | _, _ => .any
def idxV : AV → AV → AV
 | .str s, .int _ i => .int .u8 ((s.getD i.toNat 0).toNat)
 | _, _ => .any
def aidxC (n : Nat) : AV → AV → Prop
 | .agg cs, .int _ m => 0 ≤ m ∧ m.toNat < n ∧ cs.length = n
 | _, _ => False
def aidxV : AV → AV → AV
 | .agg cs, .int _ m => fix (lget cs m.toNat)
 | _, _ => .any
def idxC : AV → AV → Prop
 | .str s, .int _ i => 0 ≤ i ∧ i < s.length
 | _, _ => False
def iadV : AV → AV → AV
 | .sl _ l, .int _ i => .ip ((l.getD i.toNat .any).cells)
 | .rs id off _ es _ _, .int _ i => .ptr id (off + i.toNat * es)
 | _, _ => .any
def iadC (e : El) : AV → AV → Prop
 | .sl _ l, .int _ i => 0 ≤ i ∧ i < l.length ∧ (l.getD i.toNat .any).cells.length = e.sz
 | .rs _ _ n es _ _, .int _ i => 0 ≤ i ∧ i < n ∧ es = e.sz
 | _, _ => False
def arrE (P : Program) (t : TypeId) : Option (Nat × Nat) := match P.underlying t with
 | some (.array n e) => (szOf P e).map fun s => (n, s)
 | _ => none
def aadC (n : Nat) : AV → AV → Prop
 | .ptr _ _, .int _ m => 0 ≤ m ∧ m < n
 | _, _ => False
def aadV (s : Nat) : AV → AV → AV
 | .ptr id off, .int _ m => .ptr id (off + m.toNat * s)
 | _, _ => .any
def extv : AV → Nat → AV
 | .tup l, i => lget l i
 | _, _ => .any
def extC : AV → Nat → Bool
 | .tup l, i => decide (i < l.length)
 | _, _ => false
def cvv (P : Program) (s d : TypeId) (x : AV) : AV :=
 match x with
 | .int _ n => match intOf? P d with | some k => .int k (k.wrap n) | none => .any
 | .str l => bif kindOf P d == 1 then .str l else bif kindOf P d == 2 then .sl none (l.map byteAV) else .any
 | .sl _ l => bif kindOf P d == 1 then .str (l.map toByte) else .any
 | _ => .any
def cvo (o : Bool) (v : AV) : AV := match v with
 | .sl none l => bif o then .sl (some none) l else .sl none l
 | v => v
def cco (o : Bool) (x : AV) (c : Option Prop) : Option Prop := bif o then (match x with | .str s => (match c with | none => some (s ≠ []) | c => c) | _ => c) else c
def u8El (P : Program) (t : TypeId) : Bool := match P.underlying t with
 | some (.slice e) => match P.underlying e with | some (.int .u8) => true | _ => false
 | _ => false
def cvc (P : Program) (s d : TypeId) (x : AV) : Option Prop :=
 match x with
 | .int _ n => bif kindOf P d == 4 && kindOf P s == 4 then none else some False
 | .str l => bif kindOf P d == 1 && kindOf P s == 1 then none else bif u8El P d && kindOf P s == 1 && kindOf P d == 2 then none else some False
 | .sl _ l => bif kindOf P d == 1 && u8El P s then some (IsBytes l) else some False
 | _ => some False
def unv (op : UnOp) (x : AV) : AV :=
 match op, x with
 | .not, .bool b => .bool (!b)
 | .neg, .int k n => .int k (k.wrap (0 - n))
 | .xor, .int k n => .int k (bitv .xor k (if k.signed then -1 else k.max) n)
 | _, _ => .any
def known : AV → Bool
 | .any => false
 | _ => true
def needB (b : Bool) : Option Prop := bif b then none else some False
def isC : Operand → Bool
 | .const _ => true
 | _ => false
def nilOk (x y : Operand) (a b : AV) : Bool :=
 match a, b with
 | .nilI, .nilI => isC x || isC y
 | _, _ => true
def mvH (all : List Oper) (d : Option Nat) (hp : Heap) (id off : Nat) : Heap :=
 match lget (hget hp id) off with
 | .sl (some oe) l => bif stolen all d then hset hp id (lset (hget hp id) off (.sl none l)) else hp
 | _ => hp
def keepE : AV → AV
 | .sl (some none) [] => .sl (some none) []
 | v => fix v
def keepS : AV → AV
 | .fl l => .sl (some none) l
 | v => keepE v
def isT (t : Nat) : Operand → Bool
 | .tmp t' => t' == t
 | _ => false
def laid (all : List Oper) (d : Option Nat) : Bool :=
 match d with
 | some t => all.any fun o => match o.op with
  | .store _ _ v => isT t v
  | .box _ v => isT t v
  | _ => false
 | none => false
def kept (all : List Oper) (d : Option Nat) : Bool :=
 match d with
 | some t => all.any fun o => match o.op with
  | .store _ _ v => isT t v
  | .box _ v => isT t v
  | .build _ parts => parts.toList.any (fun p => isT t p.2) && laid all o.dst
  | _ => false
 | none => false
def toB (all : List Oper) (d : Option Nat) : Bool :=
 match d with
 | some t => all.any fun o => match o.op with
  | .build _ parts => parts.toList.any (fun p => isT t p.2) && laid all o.dst
  | _ => false
 | none => false
def flO (b : Bool) (l : List AV) : AV := match b with
 | true => .fl l
 | false => .sl (some none) l
def storeW (y : Operand) (old : AV) (l : List AV) : List AV :=
 match y, old with
 | .const _, .sl none _ => l.map un
 | _, _ => l
def storeV (v : AV) : List AV := match v with
 | .agg cs => cs.map keepS
 | v => [v]
def killT (x : Operand) (tm : List AV) : List AV :=
 match x with
 | .tmp k => lset tm k .any
 | _ => tm
def allOp (tm : List AV) (xs : Array Operand) : List AV := xs.toList.map (opv tm)
def isBldT (P : Program) (t : TypeId) : Option TypeId := match P.underlying t with
 | some (.struct fs) => match fs[0]?, fs[1]? with
  | some f, some f1 => match P.underlying f.type, P.underlying f1.type with
   | some (.pointer u), some (.slice e) => bif u == t then some e else none
   | _, _ => none
  | _, _ => none
 | _ => none
def bldC : Option TypeId → TypeId → Nat → List AV → List AV
 | some e, t, id, [.nilp, .sl (some none) []] => [.bld id t, .sl (some (some (e, 0))) []]
 | _, _, _, cs => cs
def opM (P : Program) (all : List Oper) (o : Oper) (tm : List AV) (hp : Heap) : MR :=
 match o.op with
 | .move x => ⟨none, mvV all o.dst (opv tm x), mvT all o.dst tm x, hp⟩
 | .assign x => ⟨none, opv tm x, asT tm x, hp⟩
 | .pick c a b => ⟨needB (match opv tm c with | .bool _ => true | _ => false), pickv (opv tm c) (opv tm a) (opv tm b), tm, hp⟩
 | .alloc t => match zeroOf P t with
  | some cs => ⟨none, .ptr hp.length 0, tm, hp ++ [some (bldC (isBldT P t) t hp.length (cs.map opn))]⟩
  | none => ⟨some False, .any, tm, hp⟩
 | .box t x => ⟨needB ((storeV (fix (opv tm x))).all okCell), .ptr hp.length 0, tm, hp ++ [some (storeV (fix (opv tm x)))]⟩
 | .build t parts => match zeroOf P t, partsOf P t tm parts.toList with
  | some z, some l => ⟨needB (okParts z.length l && allFld P t), .agg (fillv (bif kept all o.dst then z.map opn else z) l), tm, hp⟩
  | _, _ => ⟨some False, .any, tm, hp⟩
 | .buildSlice t n parts => match elOf P t, elemsOf tm 0 parts.toList with
  | some e, some l => ⟨needB (okElems e.sz l && (l.length == n) && decide (n ≤ 65536) && decide (0 < e.sz) && decide (e.sz ≤ 128)), flO (toB all o.dst) l, tm, hp⟩
  | _, _ => ⟨some False, .any, tm, hp⟩
 | .load t x => match szOf P t, aggOf P t, opv tm x with
  | some sz, some true, .ptr id off => ⟨needB (decide (off + sz ≤ (hget hp id).length)), .agg ((ltake sz (ldrop off (hget hp id))).map fix), tm, hp⟩
  | some _, some false, .ptr id off => ⟨needB (decide (off < (hget hp id).length)), mvV all o.dst (lget (hget hp id) off), tm, mvH all o.dst hp id off⟩
  | some sz, some true, .ip cs => ⟨needB (decide (sz ≤ cs.length)), .agg ((ltake sz cs).map fix), tm, hp⟩
  | some _, some false, .ip cs => ⟨needB (decide (0 < cs.length)), fix (lget cs 0), tm, hp⟩
  | _, _, _ => ⟨some False, .any, tm, hp⟩
 | .store t x y => match szOf P t, opv tm x with
  | some sz, .ptr id off => ⟨needB ((storeV (opv tm y)).all okCell && ((storeV (opv tm y)).length == sz) && decide (off + sz ≤ (hget hp id).length) && decide (0 < sz)), .any, asT tm y, hset hp id (lput (hget hp id) off (storeW y (lget (hget hp id) off) (storeV (opv tm y))))⟩
  | _, _ => ⟨some False, .any, tm, hp⟩
 | .nilCheck x => match opv tm x with
  | .ptr id off => ⟨none, .ptr id off, tm, hp⟩
  | .ip cs => ⟨none, .ip cs, tm, hp⟩
  | .fn f l1 l2 => match f with
   | .func k => ⟨none, .fn (.func k) l1 l2, tm, hp⟩
   | _ => ⟨some False, .any, tm, hp⟩
  | _ => ⟨some False, .any, tm, hp⟩
 | .binOp op t x y _ => ⟨bif known (binv P op t (opv tm x) (opv tm y)) && nilOk x y (opv tm x) (opv tm y) then binc op (opv tm x) (opv tm y) else some False, binv P op t (opv tm x) (opv tm y), tm, hp⟩
 | .unOp op _ x => ⟨needB (known (unv op (opv tm x))), unv op (opv tm x), tm, hp⟩
 | .convert s d x => ⟨cco (stolen all o.dst) (opv tm x) (cvc P s d (opv tm x)), cvo (stolen all o.dst) (cvv P s d (opv tm x)), tm, hp⟩
 | .makeInterface t x => ⟨needB (kindOf P t != 3 && kindOf P t != 0), .iface t (fix (opv tm x)), tm, hp⟩
 | .makeFunc f l1 l2 => ⟨none, .fn f ((allOp tm l1).map fix) ((allOp tm l2).map fix), tm, hp⟩
 | .slice t x lo hi none => match opv tm x with
  | .str s => ⟨bif kindOf P t == 1 then some (slc s.length (lowOf tm lo) (highOf tm s.length hi)) else some False, slv (opv tm x) (lowOf tm lo) (highOf tm s.length hi) false, tm, hp⟩
  | .sl _ l => match elOf P t with
   | some e => ⟨some (slc l.length (lowOf tm lo) (highOf tm l.length hi) ∧ ∀ z, z ∈ l → z.cells.length = e.sz), slv (opv tm x) (lowOf tm lo) (highOf tm l.length hi) false, tm, hp⟩
   | none => ⟨some False, .any, tm, hp⟩
  | _ => ⟨some False, .any, tm, hp⟩
 | .slice t x lo (some h) (some m) => match opv tm x with
  | .sl _ l => match elOf P t with
   | some e => ⟨some (slc l.length (lowOf tm lo) (highOf tm l.length (some h)) ∧ highOf tm l.length (some h) = highOf tm l.length (some m) ∧ ∀ z, z ∈ l → z.cells.length = e.sz), slv (opv tm x) (lowOf tm lo) (highOf tm l.length (some h)) false, tm, hp⟩
   | none => ⟨some False, .any, tm, hp⟩
  | _ => ⟨some False, .any, tm, hp⟩
 | .fieldAddr t x f => match fldOf P t f, opv tm x with
  | some (off, sz, _), .ptr id o' => ⟨needB (decide (0 < sz)), .ptr id (o' + off), tm, hp⟩
  | some (off, sz, _), .ip cs => ⟨needB (decide (0 < sz)), .ip (ldrop off cs), tm, hp⟩
  | _, _ => ⟨some False, .any, tm, hp⟩
 | .field t x f => match fldOf P t f, opv tm x with
  | some (off, sz, true), .agg cs => ⟨needB (decide (off + sz ≤ cs.length)), .agg (ltake sz (ldrop off cs)), tm, hp⟩
  | some (off, sz, false), .agg cs => ⟨needB (decide (off < cs.length)), fix (lget cs off), tm, hp⟩
  | _, _ => ⟨some False, .any, tm, hp⟩
 | .indexAddr t x i => match elOf P t with
  | some e => ⟨some (iadC e (opv tm x) (opv tm i)), iadV (opv tm x) (opv tm i), tm, hp⟩
  | none => match arrE P t with
   | some ns => ⟨some (aadC ns.1 (opv tm x) (opv tm i)), aadV ns.2 (opv tm x) (opv tm i), tm, hp⟩
   | none => ⟨some False, .any, tm, hp⟩
 | .index t x i => match arrOf P t with
  | some n => ⟨some (aidxC n (opv tm x) (opv tm i)), aidxV (opv tm x) (opv tm i), tm, hp⟩
  | none => ⟨bif kindOf P t == 1 then some (idxC (opv tm x) (opv tm i)) else some False, idxV (opv tm x) (opv tm i), tm, hp⟩
 | .extract x i => ⟨needB (extC (opv tm x) i), fix (extv (opv tm x) i), tm, hp⟩
 | .call { callee := .builtin b, args, argTypes } => match b, args.toList, argTypes.toList with
  | .len, [x], [t] => ⟨needB (lenOk (opv tm x) && (kindOf P t == 1 || kindOf P t == 2) && ((kindOf P t == 1) == (match opv tm x with | .str _ => true | _ => false))), lenv (opv tm x), tm, hp⟩
  | .append, [x, y], t :: t2 :: _ => match elOf P t with
   | some e => ⟨bif kindOf P t2 == 1 || kindOf P t2 == 2 then some (appc e (opv tm x) (opv tm y)) else some False, appv (opv tm x) (opv tm y), killT x tm, hp⟩
   | none => ⟨some False, .any, tm, hp⟩
  | .min, [x, y], _ => ⟨needB (known (mnv (opv tm x) (opv tm y))), mnv (opv tm x) (opv tm y), tm, hp⟩
  | .max, [x, y], _ => ⟨needB (known (mxv (opv tm x) (opv tm y))), mxv (opv tm x) (opv tm y), tm, hp⟩
  | _, _, _ => ⟨some False, .any, tm, hp⟩
 | _ => ⟨some False, .any, tm, hp⟩
abbrev Cur := Option (Bool × List Oper × List Oper)
def xn : Bool → Bool → Bool   -- is it as wanted?
 | true, b => b
 | false, b => !b
def gslot : List Oper → Nat → Option Nat
 | [], _ => none
 | o :: _, 0 => o.dst
 | _ :: l, n+1 => gslot l n
def calleeOf (v : AV) (args : List AV) : Option (FuncId × List AV) :=
 match v with
 | .fn (.func f) l1 l2 => some (f, (l1 ++ args ++ l2).map fix)
 | _ => none
def calleeK (v : AV) (args : List AV) : Option (FuncId × List AV) :=
 match v with
 | .fn (.func f) l1 l2 => some (f, (l1 ++ args ++ l2).map keepE)
 | _ => none
theorem fix_keepE (x : AV) : fix (keepE x) = fix x := by
  unfold keepE; split
  · rfl
  · cases x <;> rfl
theorem calleeOf_K {v : AV} {args : List AV} {f : FuncId} {as : List AV} (h : calleeK v args = some (f, as)) : calleeOf v args = some (f, as.map fix) := by
 unfold calleeK at h
 split at h
 ·simp only [Option.some.injEq, Prod.mk.injEq] at h
  obtain ⟨rfl, rfl⟩ := h
  have e : fix ∘ keepE = fix := by funext x; exact fix_keepE x
  simp [calleeOf, e]
 ·cases h
def callOf : Op → Option (Operand × Array Operand)
 | .call c => match c.callee with
  | .value f => some (f, c.args)
  | .builtin _ => none
  | .invoke _ _ => none
 | _ => none
end Go.Av

namespace Go.Av
open Go
theorem lget_lset (l : List AV) (i j : Nat) (v : AV) : lget (lset l i v) j = if i = j ∧ i < l.length then v else lget l j := by
 rw [lget_eq, lset_eq, lget_eq]
 simp only [List.getD_eq_getElem?_getD, List.getElem?_set]
 by_cases h : i = j
 ·subst h
  by_cases h2 : i < l.length
  ·simp [h2]
  ·simp [h2]
 ·simp [h]
@[simp] theorem length_lset (l : List AV) (i : Nat) (v : AV) : (lset l i v).length = l.length := by rw [lset_eq]; simp
theorem lget_ge {l : List AV} {i : Nat} (h : l.length ≤ i) : lget l i = .any := by
 rw [lget_eq]; simp [List.getD_eq_getElem?_getD, List.getElem?_eq_none h]
theorem lget_some {l : List AV} {i : Nat} (h : i < l.length) : l[i]? = some (lget l i) := by
 rw [lget_eq]; simp [List.getD_eq_getElem?_getD, List.getElem?_eq_getElem h]
def Meek (av : AV) : Prop := ∀ oe l, av ≠ .sl (some oe) l
theorem Tail.meek {g : Gh} {k : Owner} {av : AV} {v : Value} (h : Meek av) : Tail g k av v := by
 unfold Tail; split
 ·exact absurd rfl (h _ _)
 ·trivial
theorem meek_fix (av : AV) : Meek (fix av) := by intro l; cases av <;> simp [fix]
theorem Tail.un {g : Gh} {k k' : Owner} {av : AV} {v : Value} (h : Tail g k av v) : Tail g k' (un av) v := by
 cases av with
 | sl own l => exact Tail.meek (by intro l; simp [Av.un])
 | _ => exact Tail.meek (by intro l; simp [Av.un])
theorem VR.own {g : Gh} {o o' : Option (Option ETy)} {l : List AV} {v : Value} (h : VR g (.sl o l) v) (hh : o' = some none → o = some none := by simp) : VR g (.sl o' l) v := by
 cases h with
 | sl hl hc hb b o es vs ha hes h0 hn hi hv hq => exact .sl hl hc hb b o es vs ha hes h0 hn hi hv (fun q1 q2 => hq (hh q1) q2)
theorem Tail.ofNil {g g' : Gh} {k : Owner} {oe : Option ETy} {v : Value} (h : VR g (.sl (some none) []) v) (hz : ∀ b e, g.fz b = some e → g'.fz b = some e := by exact fun _ _ h => h) : Tail g' k (.sl (some oe) []) v := by
 cases h with
 | sl hl hc hb b o es vs ha hes h0 hn hi hv hq => exact .inl ⟨rfl, (hq rfl rfl).1, (hq rfl rfl).2.imp id fun ⟨b, o, e1, e, e2⟩ => ⟨b, o, e1, e, hz _ _ e2⟩⟩
theorem VR.fix {g : Gh} {av : AV} {v : Value} (h : VR g av v) : VR g (fix av) v := by
 cases av with
 | sl o l => exact h.own
 | _ => exact h
theorem VR.un {g : Gh} {av : AV} {v : Value} (h : VR g av v) : VR g (un av) v := by
 cases av with
 | sl o l => exact h.own
 | _ => exact h
theorem okC_VR {g : Gh} {v : Value} (h : okValC v = true) : VR g (ofValC v) v := by
 unfold ofValC
 split
 ·exact .bool
 ·simp [okValC] at h; exact .int h.1 h.2
 ·simp [okValC] at h; exact .str rfl h
 ·exact .nilp
 ·exact .sl rfl (Nat.le_refl _) (Nat.zero_le _) 0 0 1 (fun _ => undef) (by simp) (by simp) (by omega) (by simp) (by simp) (by simp) (fun _ _ => ⟨rfl, .inl rfl⟩)
 ·exact .nilI
 ·exact .nilF
 ·exact .nilM
 ·exact .any _
theorem ofVal_VR {g : Gh} {v : Value} (h : okVal v = true) : VR g (ofVal v) v := by
 unfold ofVal
 split
 ·exact .bool
 ·simp [okVal, okValC] at h; exact .int h.1 h.2
 ·simp [okVal, okValC] at h; exact .str rfl h
 ·exact .nilp
 ·exact .sl rfl (Nat.le_refl _) (Nat.zero_le _) 0 0 1 (fun _ => undef) (by simp) (by simp) (by omega) (by simp) (by simp) (by simp) (fun _ _ => ⟨rfl, .inl rfl⟩)
 ·exact .nilI
 ·exact .nilF
 ·exact .nilM
 ·rename_i cs
  simp only [okVal, List.all_eq_true] at h
  refine .agg (by simp) (fun j av v h1 h2 => ?_)
  simp only [List.getElem?_map, Option.map_eq_some_iff] at h1
  obtain ⟨u, hu, rfl⟩ := h1
  have : u = v := by rw [Array.getElem?_toList] at hu; rw [hu] at h2; exact Option.some.inj h2
  subst this
  exact okC_VR (h u (List.mem_of_getElem? hu))
 ·exact .any _
theorem ofVal_tail {g : Gh} {v : Value} {k : Owner} : Tail g k (ofVal v) v := by
  unfold ofVal
  split <;> simp [Tail]
def okOpd : Operand → Bool
 | .const v => okVal v
 | _ => true
theorem opv_VR {g : Gh} {tm : List AV} {hp : Heap} {a : Array Value} {w : World} (h : Rel g tm hp a w) {x : Operand} (hx : okOpd x = true) :
  VR g (opv tm x) (Act.eval ⟨a, []⟩ x) := by
 cases x with
 | tmp t => exact (h.slots t).1
 | const v => exact ofVal_VR hx
 | global n => exact .any _
 | func f => exact .fn rfl rfl (by simp) (by simp)
theorem opv_tail {g : Gh} {tm : List AV} {hp : Heap} {a : Array Value} {w : World} (h : Rel g tm hp a w) {x : Operand} :
  ∃ k, Tail g k (opv tm x) (Act.eval ⟨a, []⟩ x) ∧ (∀ t, x = .tmp t → k = .slot t) := by
 cases x with
 | tmp t => exact ⟨_, (h.slots t).2, fun _ e => by injection e with e; subst e; rfl⟩
 | const v => exact ⟨.free, ofVal_tail, fun _ e => by cases e⟩
 | global n => exact ⟨.free, by simp [Tail, opv], fun _ e => by cases e⟩
 | func f => exact ⟨.free, by simp [Tail, opv], fun _ e => by cases e⟩
theorem getD_set (a : Array Value) (d t : Nat) (v : Value) : (a.setIfInBounds d v).getD t undef = if d = t ∧ d < a.size then v else a.getD t undef := by
 simp only [Array.getD_eq_getD_getElem?, Array.getElem?_setIfInBounds]
 by_cases h : d = t
 ·subst h
  by_cases h2 : d < a.size
  ·simp [h2]
  ·simp [h2]
 ·simp [h]
theorem Rel.set {g : Gh} {tm : List AV} {hp : Heap} {a : Array Value} {w : World} (h : Rel g tm hp a w) {av : AV} {v : Value} (d : Nat)
  (hv : VR g av v) (ht : Tail g (.slot d) av v) : Rel g (lset tm d av) hp (a.setIfInBounds d v) w := by
 refine ⟨by simpa using h.size, fun t => ?_, h.heap, h.locs, h.imms, h.owns, h.fzs⟩
 rw [lget_lset, getD_set]
 have hsz := h.size
 by_cases e : d = t
 ·subst e
  by_cases h1 : d < tm.length
  ·have h2 : d < a.size := by omega
   simp [h1, h2, hv, ht]
  ·simp only [h1, and_false, if_false]
   rw [lget_ge (by omega)]
   exact ⟨.any _, Tail.meek (by intro l; simp)⟩
 ·simp only [e, false_and, if_false]
  exact h.slots t
theorem Rel.put {g : Gh} {tm : List AV} {hp : Heap} {a : Array Value} {w : World} (h : Rel g tm hp a w) {av : AV} {v : Value} (d : Option Nat)
  (hv : VR g av v) (ht : ∀ d', d = some d' → Tail g (.slot d') av v) : Rel g (put tm d av) hp ((Act.put ⟨a, []⟩ d v).tmps) w := by
 cases d with
 | none => exact h
 | some d => exact h.set d hv (ht d rfl)
theorem Rel.less {g : Gh} {tm : List AV} {hp : Heap} {a : Array Value} {w : World} (h : Rel g tm hp a w) {av : AV} (d : Nat)
  (hv : VR g av (a.getD d undef)) (ht : Tail g (.slot d) av (a.getD d undef)) : Rel g (lset tm d av) hp a w := by
 refine ⟨by simpa using h.size, fun t => ?_, h.heap, h.locs, h.imms, h.owns, h.fzs⟩
 rw [lget_lset]
 by_cases e : d = t ∧ d < tm.length
 ·rw [if_pos e]; obtain ⟨rfl, _⟩ := e; exact ⟨hv, ht⟩
 ·rw [if_neg e]; exact h.slots t
open Classical in
noncomputable def Gh.give (g : Gh) (s d : Owner) : Gh := { g with ow := fun b o => if g.ow b o = s then d else g.ow b o }
theorem give_imm {g : Gh} {s d : Owner} (hs : ∀ v, s ≠ .imm v) {b o : Nat} {v : Value} (h : g.ow b o = .imm v) : (g.give s d).ow b o = .imm v := by
 simp only [Gh.give]; rw [if_neg (by rw [h]; exact fun e => hs v e.symm)]; exact h
theorem Tail.give {g : Gh} {s d k : Owner} {av : AV} {v : Value} (h : Tail g k av v) (hk : k ≠ s) : Tail (g.give s d) k av v := by
 unfold Tail at *
 split
 ·rename_i l a n cap
  simp only at h
  rcases h with h | ⟨h0, b, o, es, h1, h2, h3, h4, h5⟩
  ·exact .inl h
  ·refine .inr ⟨h0, b, o, es, h1, h2, h3, fun j hj hj' => ?_, h5⟩
   simp only [Gh.give]; rw [if_neg (by rw [h4 j hj hj']; exact hk)]; exact h4 j hj hj'
 ·trivial
theorem Tail.give_to {g : Gh} {s d : Owner} {av : AV} {v : Value} (h : Tail g s av v) : Tail (g.give s d) d av v := by
 unfold Tail at *
 split
 ·rename_i l a n cap
  simp only at h
  rcases h with h | ⟨h0, b, o, es, h1, h2, h3, h4, h5⟩
  ·exact .inl h
  ·refine .inr ⟨h0, b, o, es, h1, h2, h3, fun j hj hj' => ?_, h5⟩
   simp only [Gh.give]; rw [if_pos (h4 j hj hj')]
 ·trivial
theorem Rel.give {g : Gh} {tm : List AV} {hp : Heap} {a : Array Value} {w : World} (h : Rel g tm hp a w) (s d : Owner) (hs : (∃ t, s = .slot t) ∨ ∃ i o, s = .cell i o) (hd : ∀ v, d ≠ .imm v)
  (h1 : ∀ t l, s = .slot t → (∃ oe, lget tm t = .sl (some oe) l) → False) (h2 : ∀ (id off : Nat) (cs : List AV) l, s = .cell id off → hp[id]? = some (some cs) → (∃ oe, cs[off]? = some (.sl (some oe) l)) → False) :
  Rel (g.give s d) tm hp a w := by
 have hsi : ∀ v, s ≠ .imm v := by intro v e; subst e; simp at hs
 have hsb : ∀ i, s ≠ .blk i := by intro v e; subst e; simp at hs
 have hsf : s ≠ .free := by intro e; subst e; simp at hs
 have hm : ∀ {av v}, VR g av v → VR (g.give s d) av v := fun h => h.mono (fun b o v h => give_imm hsi h) (fun _ _ h => h) (fun _ _ h => h)
 have ht : ∀ {k : Owner} {av v}, Tail g k av v → (k = s → ∀ l, (∃ oe, av = .sl (some oe) l) → False) → Tail (g.give s d) k av v := by
  intro k av v ht hk
  by_cases e : k = s
  ·cases av with
   | sl own l =>
    cases own with
    | none => exact Tail.meek (by intro l; simp)
    | some oe => exact (hk e l ⟨oe, rfl⟩).elim
   | _ => exact Tail.meek (by intro l; simp)
  ·exact ht.give e
 refine ⟨h.size, fun t => ⟨hm (h.slots t).1, ht (h.slots t).2 (fun e l hl => h1 t l e.symm hl)⟩, fun id cs hc => ?_, h.locs, fun b o v hv => ?_, fun b o hv => ?_, fun b e he => ?_⟩
 ·obtain ⟨b, base, c, e1, e2, e3, e4⟩ := h.heap id cs hc
  refine ⟨b, base, c, e1, e2, fun j hj => ?_, fun j av hj => ?_⟩
  ·simp only [Gh.give]; rw [if_neg (by rw [e3 j hj]; exact fun e => hsb _ e.symm)]; exact e3 j hj
  ·obtain ⟨v, hv1, hv2, hv3⟩ := e4 j av hj
   exact ⟨v, hv1, hm hv2, ht hv3 (fun e l hl => h2 id j cs l e.symm hc (by obtain ⟨oe, hl⟩ := hl; exact ⟨oe, by rw [hj, hl]⟩))⟩
 ·simp only [Gh.give] at hv
  split at hv
  ·exact absurd hv (hd v)
  ·exact h.imms _ _ _ hv
 ·simp only [Gh.give] at hv ⊢
  by_cases e : g.ow b o = s
  ·rw [if_pos e]
   have := h.owns b o (by rw [e]; exact hsf)
   exact ⟨this.1, fun _ => this.2 (fun v => by rw [e]; exact hsi v)⟩
  ·rw [if_neg e] at hv ⊢
   exact h.owns b o hv
 ·obtain ⟨c, lo, hi, q1, q2, q3⟩ := h.fzs b e he
  exact ⟨c, lo, hi, q1, q2, fun o ho ho' => by obtain ⟨v, hv⟩ := q3 o ho ho'; exact ⟨v, give_imm hsi hv⟩⟩
theorem Stp.give {n : Nat} {g : Gh} {w : World} (s d : Owner) (hs : (∃ t, s = .slot t) ∨ ∃ i o, s = .cell i o) : Stp n g w (g.give s d) w := by
 have hsi : ∀ v, s ≠ .imm v := by intro v e; subst e; simp at hs
 have hsf : s ≠ .free := by intro e; subst e; simp at hs
 refine .of (fun b o v h => give_imm hsi h) (fun b o _ h => ?_) (fun _ _ _ h => h) (.refl _ _) rfl
 simp only [Gh.give]; rw [if_neg (by rw [h]; exact fun e => hsf e.symm)]; exact h
end Go.Av

namespace Go.Av
open Go
theorem Rel.xfer {g : Gh} {tm : List AV} {hp : Heap} {a : Array Value} {w : World} (h : Rel g tm hp a w) {x : Operand} (hx : okOpd x = true) (n : Nat) (d : Owner) (hd : ∀ v, d ≠ .imm v) :
  ∃ g', Rel g' (asT tm x) hp a w ∧ Stp n g w g' w ∧ VR g' (opv tm x) (Act.eval ⟨a, []⟩ x) ∧ Tail g' d (opv tm x) (Act.eval ⟨a, []⟩ x) := by
 cases x with
 | tmp t =>
  have hv := (h.slots t).1
  have ht := (h.slots t).2
  simp only [asT, opv, Act.eval]
  cases hl : lget tm t with
  | sl own l =>
   cases own with
   | some oe =>
    rw [hl] at hv ht
    have hu : VR g (.sl none l) (a.getD t undef) := hv.own
    have htu : Tail g (.slot t) (.sl none l) (a.getD t undef) := by simpa [Av.un] using ht.un (k' := .slot t)
    have h1 := h.less t hu htu
    refine ⟨g.give (.slot t) d, h1.give (.slot t) d (.inl ⟨t, rfl⟩) hd (fun t' l' ht' hl' => ?_) (fun id off cs l e => by cases e), .give _ d (.inl ⟨t, rfl⟩), hv.mono (fun b o v h => give_imm (by simp) h) (fun _ _ h => h) (fun _ _ h => h), ht.give_to⟩
    injection ht' with ht'; subst ht'
    obtain ⟨oe', hl'⟩ := hl'
    rw [lget_lset] at hl'
    by_cases e : t < tm.length
    ·simp only [e, and_self, if_true, AV.sl.injEq] at hl'
     exact absurd hl'.1 (by simp)
    ·rw [lget_ge (Nat.not_lt.1 e)] at hl; cases hl
   | none => exact ⟨g, h, .refl _ _ _, by rw [hl] at hv; exact hv, Tail.meek (by intro l; simp)⟩
  | _ => exact ⟨g, h, .refl _ _ _, by rw [hl] at hv; exact hv, Tail.meek (by intro l; simp)⟩
 | const v => exact ⟨g, h, .refl _ _ _, ofVal_VR hx, ofVal_tail⟩
 | global k => exact ⟨g, h, .refl _ _ _, .any _, Tail.meek (by intro l; simp [opv])⟩
 | func f => exact ⟨g, h, .refl _ _ _, .fn rfl rfl (by simp) (by simp), Tail.meek (by intro l; simp [opv])⟩
def OpOk (P : Program) (o : Oper) (m : MR) (hp : Heap) (g : Gh) (a : Array Value) (w : World) : Prop :=
 ∃ n v w' g', (execOp (Act.eval ⟨a, []⟩) o).run P w = .ok n w' ∧ (n = .value v ∨ (n = .skip ∧ v = undef)) ∧
  Rel g' (put m.tm o.dst m.v) m.hp (Act.put ⟨a, []⟩ o.dst v).tmps w' ∧ Stp hp.length g w g' w' ∧ hp.length ≤ m.hp.length
theorem OpOk.pure {P : Program} {o : Oper} {m : MR} {tm : List AV} {hp : Heap} {g : Gh} {a : Array Value} {w : World} (h : Rel g tm hp a w) (v : Value)
  (h1 : m.tm = tm) (h2 : m.hp = hp) (hr : (execOp (Act.eval ⟨a, []⟩) o).run P w = .ok (.value v) w) (hv : VR g m.v v) (ht : ∀ k, Tail g k m.v v) : OpOk P o m hp g a w :=
 ⟨_, v, w, g, hr, .inl rfl, by rw [h1, h2]; exact h.put _ hv (fun d _ => ht _), .refl _ _ _, by rw [h2]; exact Nat.le_refl _⟩
section
variable {P : Program} {all : List Oper} {dst : Option Nat} {ty : TypeId} {pos : String} {after : Array Edge} {gd : Option (Nat × Bool)} {tm : List AV} {hp : Heap} {g : Gh} {a : Array Value} {w : World}
theorem op_assign {x : Operand} (h : Rel g tm hp a w) (hx : okOpd x = true) :
  OpOk P ⟨dst, .assign x, ty, pos, after, gd⟩ ⟨none, opv tm x, asT tm x, hp⟩ hp g a w := by
 cases dst with
 | none =>
  obtain ⟨g', h1, h2, h3, h4⟩ := h.xfer hx hp.length .free (by simp)
  exact ⟨_, _, w, g', rfl, .inl rfl, h1.put none h3 (by simp), h2, Nat.le_refl _⟩
 | some d =>
  obtain ⟨g', h1, h2, h3, h4⟩ := h.xfer hx hp.length (.slot d) (by simp)
  exact ⟨_, _, w, g', rfl, .inl rfl, h1.put (some d) h3 (fun d' e => by injection e with e; subst e; exact h4), h2, Nat.le_refl _⟩
theorem op_move {x : Operand} (h : Rel g tm hp a w) (hx : okOpd x = true) :
    OpOk P ⟨dst, .move x, ty, pos, after, gd⟩ ⟨none, mvV all dst (opv tm x), mvT all dst tm x, hp⟩ hp g a w := by
  by_cases hs : stolen all dst = true
  · have e1 : mvV all dst (opv tm x) = opv tm x := by unfold mvV; split <;> simp_all
    have e2 : mvT all dst tm x = asT tm x := by
      unfold mvT asT; split
      · rename_i t; split <;> simp_all
      · rfl
    rw [e1, e2]
    exact op_assign (ty := ty) (pos := pos) (after := after) (gd := gd) (P := P) h hx
  · have e1 : mvV all dst (opv tm x) = un (opv tm x) := by
      have hs' : stolen all dst = false := by simpa using hs
      unfold mvV
      generalize opv tm x = y
      cases y with
      | sl o l => cases o <;> simp [un, hs']
      | _ => rfl
    have e2 : mvT all dst tm x = tm := by
      unfold mvT; split
      · rename_i t; split <;> simp_all
      · rfl
    rw [e1, e2]
    obtain ⟨k, ht, _⟩ := opv_tail h (x := x)
    exact OpOk.pure h _ rfl rfl rfl (opv_VR h hx).un (fun k' => ht.un)
end
end Go.Av

namespace Go.Av
open Go
section types
variable {P : Program} {t : TypeId} (w : World)
theorem info_of_sz {s : Nat} (h : szOf P t = some s) : ∃ i, P.info? t = some i ∧ i.size = s := by
 unfold szOf at h; simpa [Option.map_eq_some_iff] using h
theorem run_sz {s : Nat} (h : szOf P t = some s) : (sizeOf t).run P w = .ok s w := by
 obtain ⟨i, hi, rfl⟩ := info_of_sz h
 simp [sizeOf, typeInfo, hi]
theorem run_ag {b : Bool} (h : aggOf P t = some b) : (isAgg t).run P w = .ok b w := by
 unfold aggOf at h
 split at h
 ·rename_i hu; cases h; simp [isAgg, run_underlying hu]
 ·rename_i hu; cases h; simp [isAgg, run_underlying hu]
 ·rename_i hu
  cases h
  simp [isAgg, run_underlying hu]
 ·cases h
theorem zero_of {cs : List AV} (h : zeroOf P t = some cs) : ∃ i z, P.info? t = some i ∧ i.zero = some z ∧ z.cells.toList.all okValC = true ∧ z.cells.size = i.size ∧ cs = z.cells.toList.map ofValC := by
 unfold zeroOf at h
 split at h
 ·rename_i i hi
  split at h
  ·rename_i z hz
   split at h
   ·rename_i hh
    simp only [Bool.and_eq_true, beq_iff_eq] at hh
    exact ⟨i, z, hi, hz, hh.1, hh.2, (Option.some.inj h).symm⟩
   ·cases h
  ·cases h
 ·cases h
end types
theorem Rel.lt {g : Gh} {tm : List AV} {hp : Heap} {a : Array Value} {w : World} (h : Rel g tm hp a w) {b o : Nat} (hb : g.ow b o ≠ .free) : b < w.heap.size := by
 obtain ⟨⟨v, hv⟩, _⟩ := h.owns b o hb
 exact World.block_lt_of_cell? w _ hv
theorem Rel.drew {g : Gh} {tm : List AV} {hp : Heap} {a : Array Value} {w : World} (h : Rel g tm hp a w) : Rel g tm hp a w.drew :=
 ⟨h.size, h.slots, h.heap, h.locs, h.imms, h.owns, h.fzs⟩
theorem Stp.drew (n : Nat) (g : Gh) (w : World) : Stp n g w g w.drew :=
 .of (fun _ _ _ h => h) (fun _ _ _ h => h) (fun _ _ _ h => h) (.of rfl rfl rfl (Nat.le_refl _) (fun _ c _ _ h => ⟨c, h, rfl, fun _ _ => rfl⟩) (fun _ _ h _ => h)) rfl
def Gh.fresh (g : Gh) (b : Nat) (f : Nat → Owner) : Gh := { g with ow := fun b' o => if b' = b then f o else g.ow b' o }
theorem fresh_old {g : Gh} {b : Nat} {f : Nat → Owner} {b' o : Nat} (h : b' ≠ b) : (g.fresh b f).ow b' o = g.ow b' o := by simp [Gh.fresh, h]
theorem fresh_new {g : Gh} {b : Nat} {f : Nat → Owner} {o : Nat} : (g.fresh b f).ow b o = f o := by simp [Gh.fresh]
theorem cell_alloc {w : World} {vs : Array Value} {t : TypeId} {fr : Nat × Nat} {b o : Nat} : (w.alloc (.cells vs t fr)).cell? ⟨b, o, none⟩ = if b = w.heap.size then vs[o]? else w.cell? ⟨b, o, none⟩ := by
 by_cases h : b = w.heap.size
 ·subst h; simp [World.cell?, World.alloc, -World.alloc_eq]
 ·rw [if_neg h]; exact World.cell?_alloc_old w _ ⟨b, o, none⟩ h
theorem frozen_alloc {w : World} {vs : Array Value} {t : TypeId} {fr : Nat × Nat} {b o : Nat} : (w.alloc (.cells vs t fr)).frozen? ⟨b, o, none⟩ = if b = w.heap.size then (fr.1 ≤ o && o < fr.2) else w.frozen? ⟨b, o, none⟩ := by
 by_cases h : b = w.heap.size
 ·subst h; simp [World.frozen?, World.alloc, -World.alloc_eq]
 ·rw [if_neg h]; exact World.frozen?_alloc_old w _ ⟨b, o, none⟩ h
section fresh
variable {g : Gh} {tm : List AV} {hp : Heap} {a : Array Value} {w : World}
theorem fresh_imm (h : Rel g tm hp a w) {f : Nat → Owner} {b o : Nat} {v : Value} (hv : g.ow b o = .imm v) : (g.fresh w.heap.size f).ow b o = .imm v := by
 rw [fresh_old]; exact hv
 have := h.lt (b := b) (o := o) (by simp [hv]); omega
theorem Tail.fresh (h : Rel g tm hp a w) {f : Nat → Owner} {k : Owner} (hk : k ≠ .free) {av : AV} {v : Value} (ht : Tail g k av v) : Tail (g.fresh w.heap.size f) k av v := by
 unfold Tail at *
 split
 ·rename_i l a' n cap
  simp only at ht
  rcases ht with ht | ⟨h0, b, o, es, h1, h2, h3, h4, h5⟩
  ·exact .inl ht
  ·refine .inr ⟨h0, b, o, es, h1, h2, h3, fun j hj hj' => ?_, h5⟩
   have e := h4 j hj hj'
   rw [fresh_old]; exact e
   have := h.lt (b := b) (o := j) (by rw [e]; exact hk); omega
 ·trivial
theorem Rel.fresh (h : Rel g tm hp a w) (vs : Array Value) (t : TypeId) (fr : Nat × Nat) (f : Nat → Owner) (h1 : ∀ o, f o ≠ .free → o < vs.size) (h2 : ∀ o v, f o = .imm v → vs[o]? = some v)
  (h3 : ∀ o, o < vs.size → (decide (fr.1 ≤ o) && decide (o < fr.2)) = false) : Rel (g.fresh w.heap.size f) tm hp a (w.alloc (.cells vs t fr)) := by
 have hm : ∀ {av v}, VR g av v → VR (g.fresh w.heap.size f) av v := fun hv => hv.mono (fun b o v hv => fresh_imm h hv) (fun _ _ h => h) (fun _ _ h => h)
 refine ⟨h.size, fun t => ⟨hm (h.slots t).1, (h.slots t).2.fresh h (by simp)⟩, fun id cs hc => ?_, h.locs, fun b o v hv => ?_, fun b o hv => ?_, fun b e he => ?_⟩
 ·obtain ⟨b, base, c, e1, e2, e3, e4⟩ := h.heap id cs hc
  have hlt : ∀ j, j < c → b < w.heap.size := fun j hj => h.lt (b := b) (o := base + j) (by simp [e3 j hj])
  refine ⟨b, base, c, e1, e2, fun j hj => ?_, fun j av hj => ?_⟩
  ·rw [fresh_old (by have := hlt j hj; omega)]; exact e3 j hj
  ·obtain ⟨v, hv1, hv2, hv3⟩ := e4 j av hj
   refine ⟨v, ?_, hm hv2, hv3.fresh h (by simp)⟩
   rw [cell_alloc, if_neg]; exact hv1
   have := World.block_lt_of_cell? w _ hv1; dsimp only at this; omega
 ·by_cases e : b = w.heap.size
  ·subst e; rw [fresh_new] at hv; rw [cell_alloc, if_pos rfl]; exact h2 _ _ hv
  ·rw [fresh_old e] at hv; rw [cell_alloc, if_neg e]; exact h.imms _ _ _ hv
 ·by_cases e : b = w.heap.size
  ·subst e; rw [fresh_new] at hv; rw [cell_alloc, frozen_alloc, if_pos rfl, if_pos rfl]
   exact ⟨⟨_, Array.getElem?_eq_getElem (h1 _ hv)⟩, fun _ => h3 _ (h1 _ hv)⟩
  ·rw [fresh_old e] at hv ⊢; rw [cell_alloc, frozen_alloc, if_neg e, if_neg e]; exact h.owns _ _ hv
 ·obtain ⟨c, lo, hi, q1, q2, q3⟩ := h.fzs b e he
  refine ⟨c, lo, hi, ?_, q2, fun o ho ho' => by obtain ⟨v, hv⟩ := q3 o ho ho'; exact ⟨v, fresh_imm h hv⟩⟩
  rw [RowKit.Below.heap_alloc _ _ _ (Array.getElem?_eq_some_iff.1 q1).1]; exact q1
theorem Stp.fresh (h : Rel g tm hp a w) (n : Nat) (vs : Array Value) (t : TypeId) (fr : Nat × Nat) (f : Nat → Owner) : Stp n g w (g.fresh w.heap.size f) (w.alloc (.cells vs t fr)) := by
 refine .of (fun b o v hv => fresh_imm h hv) (fun b o hb hv => by rw [fresh_old (by omega)]; exact hv) (fun _ _ _ h => h) (.of rfl rfl rfl (by simp) (fun b c e f' hb => ⟨c, ?_, rfl, fun _ _ => rfl⟩) (fun b o hb _ => ?_)) rfl
 ·rw [RowKit.Below.heap_alloc _ _ _ (Array.getElem?_eq_some_iff.1 hb).1]; exact hb
 ·rw [RowKit.Below.heap_alloc _ _ _ (Array.getElem?_eq_some_iff.1 hb).1]; exact hb
def Gh.mark (g : Gh) (b : Nat) (e : TypeId × Nat) : Gh := { g with fz := fun b' => if b' = b then some e else g.fz b' }
theorem Rel.mark (h : Rel g tm hp a w) {b : Nat} {e : TypeId × Nat} {c : Array Value} {lo hi : Nat} (hb : w.heap[b]? = some (Obj.cells c e.1 (lo, hi))) (hcs : c.size = e.2) (hf : hi ≤ lo) (hl : lo = hi ∨ lo = 0) (hn : g.fz b = none) : Rel (g.mark b e) tm hp a w := by
 have hz : ∀ b' e', g.fz b' = some e' → (g.mark b e).fz b' = some e' := fun b' e' h6 => by
  simp only [Gh.mark]; split
  ·rename_i hbb; subst hbb; rw [hn] at h6; cases h6
  ·exact h6
 have hm : ∀ {av v}, VR g av v → VR (g.mark b e) av v := fun hv => VR.mono (g := g) (g' := g.mark b e) (fun b o v hv => hv) (fun _ _ h => h) hz hv
 have ht : ∀ {k : Owner} {av v}, Tail g k av v → Tail (g.mark b e) k av v := by
  intro k av v ht
  unfold Tail at *
  split
  ·rename_i l a' n cap
   simp only at ht
   rcases ht with ⟨f1, f2, f3⟩ | ⟨h0, b', o, es, h1, h2, h3, h4, h5, h6⟩
   ·refine .inl ⟨f1, f2, ?_⟩
    rcases f3 with f3 | ⟨b', o, e1, e', e2⟩
    ·exact .inl f3
    ·exact .inr ⟨b', o, e1, e', hz _ _ e2⟩
   ·exact .inr ⟨h0, b', o, es, h1, h2, h3, h4, h5, fun e' he => by obtain ⟨e, q1, q2⟩ := h6 e' he; exact ⟨e, hz _ _ q1, q2⟩⟩
  ·trivial
 refine ⟨h.size, fun t => ⟨hm (h.slots t).1, ht (h.slots t).2⟩, fun id cs hc => ?_, h.locs, h.imms, h.owns, fun b' e' he => ?_⟩
 ·obtain ⟨b, base, c, e1, e2, e3, e4⟩ := h.heap id cs hc
  refine ⟨b, base, c, e1, e2, e3, fun j av hj => ?_⟩
  obtain ⟨v, hv1, hv2, hv3⟩ := e4 j av hj
  exact ⟨v, hv1, hm hv2, ht hv3⟩
 ·simp only [Gh.mark] at he
  split at he
  ·rename_i hbb; subst hbb; cases he
   exact ⟨c, lo, hi, hb, ⟨hl, hcs⟩, fun o h1 h2 => by omega⟩
  ·exact h.fzs b' e' he
theorem Stp.mark {n : Nat} {w0 : World} {g0 : Gh} (h : Stp n g0 w0 g w) {b : Nat} {e : TypeId × Nat} (hb : w0.heap.size ≤ b) (hn : g.fz b = none) : Stp n g0 w0 (g.mark b e) w :=
 ⟨h.imm, h.perm, h.loc, h.upd, fun b' e' he => by
  have := h.fzm b' e' he
  simp only [Gh.mark]; split
  ·rename_i hbb; subst hbb; rw [hn] at this; cases this
  ·exact this, fun b' hb' hn' => by simp only [Gh.mark]; rw [if_neg (by omega)]; exact h.fzn b' hb' hn'⟩
theorem Rel.fzNew (h : Rel g tm hp a w) {b : Nat} (hb : w.heap.size ≤ b) : g.fz b = none := by
 cases e : g.fz b with
 | none => rfl
 | some e' =>
  obtain ⟨c, lo, hi, q1, _⟩ := h.fzs b e' e
  have := (Array.getElem?_eq_some_iff.1 q1).1
  omega
end fresh
end Go.Av

namespace Go.Av
open Go
theorem hget_some {hp : Heap} {id : Nat} {off : Nat} (h : off < (hget hp id).length) : hp[id]? = some (some (hget hp id)) := by
 induction hp generalizing id with
 | nil => simp [hget] at h
 | cons x hp ih => cases id with
  | zero => cases x with
   | none => simp [hget] at h
   | some cs => simp [hget]
  | succ n => simpa [hget] using ih (by simpa [hget] using h)
theorem hset_eq (hp : Heap) (id : Nat) (cs : List AV) : hset hp id cs = hp.set id (some cs) := by
 induction hp generalizing id with
 | nil => rfl
 | cons x hp ih => cases id with
  | zero => rfl
  | succ n => simp [hset, ih]
@[simp] theorem length_hset (hp : Heap) (id : Nat) (cs : List AV) : (hset hp id cs).length = hp.length := by rw [hset_eq]; simp
theorem lput_get (vs : List AV) : ∀ (l : List AV) (i j : Nat), (lput l i vs)[j]? = if i ≤ j ∧ j < i + vs.length ∧ j < l.length then vs[j - i]? else l[j]? := by
  induction vs with
  | nil => intro l i j; rw [if_neg (by simp; omega)]; cases l <;> rfl
  | cons v vs ih =>
    intro l i j
    have e : lput l i (v :: vs) = lput (lset l i v) (i+1) vs := by cases l <;> rfl
    rw [e, ih, lset_eq]
    simp only [List.length_set, List.length_cons, List.getElem?_set]
    by_cases h : i = j
    · subst h
      rw [if_neg (by omega), if_pos rfl]
      by_cases h2 : i < l.length
      · rw [if_pos h2, if_pos (by omega)]; simp
      · rw [if_neg h2, if_neg (by omega)]; rw [List.getElem?_eq_none (by omega)]
    · rw [if_neg h]
      by_cases h2 : i + 1 ≤ j ∧ j < i + 1 + vs.length ∧ j < l.length
      · rw [if_pos h2, if_pos (by omega)]
        rw [show j - i = (j - (i+1)) + 1 by omega]; simp
      · rw [if_neg h2, if_neg (by omega)]
@[simp] theorem lput_length (vs : List AV) : ∀ (l : List AV) (i : Nat), (lput l i vs).length = l.length := by
  induction vs with
  | nil => intro l i; cases l <;> rfl
  | cons v vs ih => intro l i; have e : lput l i (v :: vs) = lput (lset l i v) (i+1) vs := by cases l <;> rfl
                    rw [e, ih]; simp
theorem ltake_eq (n : Nat) (l : List AV) : ltake n l = l.take n := by
  induction l generalizing n with
  | nil => cases n <;> rfl
  | cons a l ih => cases n with
    | zero => rfl
    | succ n => simp [ltake, ih]
theorem ldrop_eq (n : Nat) (l : List AV) : ldrop n l = l.drop n := by
  induction l generalizing n with
  | nil => cases n <;> rfl
  | cons a l ih => cases n with
    | zero => rfl
    | succ n => simp [ldrop, ih]
theorem addr_add (b o n : Nat) : (⟨b, o, none⟩ : Addr).add n = ⟨b, o + n, none⟩ := by unfold Addr.add; split <;> simp_all
theorem okCell_one {g : Gh} {av : AV} {v : Value} (h : VR g av v) (hk : okCell av = true) : v.oneCell' = true := by
  cases h with
  | bld _ _ hv => rcases hv with rfl | rfl <;> rfl
  | _ => simp_all [okCell, Value.oneCell']
theorem okCell_cells {g : Gh} {av : AV} {v : Value} (h : VR g av v) (hk : okCell av = true) : v.cells = #[v] := by
  cases h with
  | bld _ _ hv => rcases hv with rfl | rfl <;> rfl
  | _ => simp_all [okCell, Value.cells]
theorem keepE_or (x : AV) : keepE x = fix x ∨ (x = .sl (some none) [] ∧ keepE x = .sl (some none) []) := by
 unfold keepE; split
 ·exact .inr ⟨rfl, rfl⟩
 ·exact .inl rfl
theorem VR.keepE {g : Gh} {x : AV} {v : Value} (h : VR g x v) : VR g (Av.keepE x) v := by
 rcases keepE_or x with e | ⟨e1, e⟩
 ·rw [e]; exact h.fix
 ·rw [e, ← e1]; exact h
theorem aggCells {g : Gh} {cs : List AV} {v : Value} (h : VR g (.agg cs) v) {j : Nat} {y : AV} {u : Value} (h1 : cs[j]? = some y) (h2 : v.cells[j]? = some u) : VR g y u := by
 cases h with
 | agg hs h => exact h j y u h1 (by simpa [Value.cells] using h2)
theorem keepS_spec {g : Gh} {k : Owner} {x : AV} {v : Value} (h : VR g x v) : VR g (Av.keepS x) v ∧ ∀ g' : Gh, (∀ b e, g.fz b = some e → g'.fz b = some e) → Tail g' k (Av.keepS x) v := by
 have hother : Av.keepS x = Av.keepE x → VR g (Av.keepS x) v ∧ ∀ g' : Gh, (∀ b e, g.fz b = some e → g'.fz b = some e) → Tail g' k (Av.keepS x) v := fun e => by
  rw [e]
  refine ⟨h.keepE, fun g' hz => ?_⟩
  have h2 := h.keepE
  rcases keepE_or x with e | ⟨e1, e⟩
  ·rw [e]; exact Tail.meek (meek_fix x)
  ·rw [e] at h2 ⊢; exact Tail.ofNil h2 hz
 cases h with
 | fl h hf =>
  rename_i l a n
  refine ⟨?_, fun g' hz => ?_⟩
  ·cases h with
   | sl hl hc hb b o es vs ha hes h0 hn hi hv hq =>
    refine .sl hl hc hb b o es vs ha hes h0 hn hi hv fun _ he => ⟨rfl, ?_⟩
    rcases hf with hf | ⟨b', e, hh⟩
    ·exact .inl hf
    ·exact .inr ⟨b', 0, e, hh he⟩
  ·cases h with
   | sl hl hc hb b o es vs ha hes h0 hn hi hv hq =>
    show (l = [] ∧ n = n ∧ _) ∨ _
    by_cases he : l = []
    ·refine .inl ⟨he, rfl, ?_⟩
     rcases hf with hf | ⟨b', e, hh⟩
     ·exact .inl hf
     ·exact .inr ⟨b', 0, e, (hh he).imp fun _ => hz _ _⟩
    ·refine .inr ⟨.inl he, ?_⟩
     rcases hf with hf | ⟨b', e, hh⟩
     ·rw [ha he] at hf; cases hf
     ·exact ⟨b', 0, es, e, h0, hes, fun j h1 h2 => by omega, rfl, fun e' h => by cases h⟩
 | sl hl hc hb b o es vs ha hes h0 hn hi hv hq => exact hother rfl
 | _ => exact hother rfl
theorem storeV_cells {g : Gh} {av : AV} {v : Value} (h : VR g av v) (hk : (storeV av).all okCell = true) :
  (storeV av).length = v.cells.size ∧ ∀ (j : Nat) (x : AV) (u : Value), (storeV av)[j]? = some x → v.cells[j]? = some u → VR g x u := by
 unfold storeV at *
 split at hk
 ·rename_i cs
  cases h with
  | agg hs h =>
   refine ⟨by simpa [Value.cells] using hs, fun j x u h1 h2 => ?_⟩
   simp only [List.getElem?_map, Option.map_eq_some_iff] at h1
   obtain ⟨y, hy, rfl⟩ := h1
   exact (keepS_spec (k := .free) (h j y u hy (by simpa [Value.cells] using h2))).1
 ·rename_i hne
  simp only [List.all_cons, List.all_nil, Bool.and_true] at hk
  rw [okCell_cells h hk]
  refine ⟨rfl, fun j x u h1 h2 => ?_⟩
  cases j with
  | zero => simp at h1 h2; subst h1 h2; exact h
  | succ j => simp at h1
theorem Stp.setCell {n : Nat} {g : Gh} {w : World} {b o : Nat} (v : Value) (h1 : g.ow b o ≠ .free) (h2 : ∀ u, g.ow b o ≠ .imm u) : Stp n g w g (w.setCell ⟨b, o, none⟩ v) := by
 refine .of (fun _ _ _ h => h) (fun _ _ _ h => h) (fun _ _ _ h => h) (.of rfl rfl rfl (by simp [World.setCell]) (fun b' c e f hb => ?_) (fun b' x hb hx => ?_)) rfl
 ·simp only [World.setCell, Array.getElem?_modify]
  by_cases e' : b = b'
  ·subst e'
   rw [if_pos rfl, hb]
   refine ⟨_, rfl, by simp, fun o' ho => ?_⟩
   simp only [Option.isSome_none, Bool.false_eq_true, if_false]
   rw [Array.getElem?_setIfInBounds]
   by_cases e2 : o = o'
   ·subst e2
    rcases ho with ho | ⟨u, ho⟩
    ·exact absurd ho h1
    ·exact absurd ho (h2 u)
   ·rw [if_neg e2]
  ·rw [if_neg e']; exact ⟨c, hb, rfl, fun _ _ => rfl⟩
 ·simp only [World.setCell, Array.getElem?_modify]
  by_cases e' : b = b'
  ·subst e'
   rw [if_pos rfl, hb]
   cases x with
   | cells c e f => exact absurd rfl (hx c e f)
   | _ => rfl
  ·rw [if_neg e']; exact hb
theorem heap_setCell {w : World} {b o : Nat} {v : Value} (b' : Nat) (c : Array Value) (e : TypeId) (f : Nat × Nat) (hb : w.heap[b']? = some (Obj.cells c e f)) : ∃ c', (w.setCell ⟨b, o, none⟩ v).heap[b']? = some (Obj.cells c' e f) ∧ c'.size = c.size := by
 simp only [World.setCell, Array.getElem?_modify]
 by_cases e' : b = b'
 ·subst e'; rw [if_pos rfl, hb]; exact ⟨_, rfl, by simp⟩
 ·rw [if_neg e']; exact ⟨c, hb, rfl⟩
theorem heap_setCells {b : Nat} : ∀ (vs : List Value) (o : Nat) (w : World) (b' : Nat) (c : Array Value) (e : TypeId) (f : Nat × Nat), w.heap[b']? = some (Obj.cells c e f) → ∃ c', (w.setCells b o vs).heap[b']? = some (Obj.cells c' e f) ∧ c'.size = c.size
 | [], _, w, b', c, e, f, hb => ⟨c, hb, rfl⟩
 | v :: r, o, w, b', c, e, f, hb => by
  obtain ⟨c1, h1, h2⟩ := heap_setCell (o := o) (b := b) (v := v) b' c e f hb
  obtain ⟨c2, h3, h4⟩ := heap_setCells r (o + 1) _ b' c1 e f h1
  exact ⟨c2, h3, h4.trans h2⟩
theorem fzs_of {g g' : Gh} {w w' : World} (h : ∀ b e, g.fz b = some e → ∃ c lo hi, w.heap[b]? = some (Obj.cells c e.1 (lo, hi)) ∧ ((lo = hi ∨ lo = 0) ∧ c.size = e.2) ∧ ∀ o, lo ≤ o → o < hi → ∃ v, g.ow b o = .imm v)
  (hw : ∀ (b : Nat) c e f, w.heap[b]? = some (Obj.cells c e f) → ∃ c', w'.heap[b]? = some (Obj.cells c' e f) ∧ c'.size = c.size) (hi : ∀ b o v, g.ow b o = .imm v → g'.ow b o = .imm v) (hf : g'.fz = g.fz) :
  ∀ b e, g'.fz b = some e → ∃ c lo hi, w'.heap[b]? = some (Obj.cells c e.1 (lo, hi)) ∧ ((lo = hi ∨ lo = 0) ∧ c.size = e.2) ∧ ∀ o, lo ≤ o → o < hi → ∃ v, g'.ow b o = .imm v := by
 intro b e he
 rw [hf] at he
 obtain ⟨c, lo, hh, q1, q2, q3⟩ := h b e he
 obtain ⟨c', q4, q5⟩ := hw b c e.1 (lo, hh) q1
 exact ⟨c', lo, hh, q4, ⟨q2.1, q5.trans q2.2⟩, fun o h1 h2 => by obtain ⟨v, hv⟩ := q3 o h1 h2; exact ⟨v, hi _ _ _ hv⟩⟩
theorem Stp.setCells {n : Nat} {g : Gh} {b : Nat} : ∀ (vs : List Value) (o : Nat) (w : World), (∀ j, j < vs.length → g.ow b (o + j) ≠ .free ∧ ∀ u, g.ow b (o + j) ≠ .imm u) → Stp n g w g (w.setCells b o vs)
 | [], _, w, _ => .refl _ _ _
 | v :: r, o, w, h => by
  have h0 := h 0 (by simp)
  exact (Stp.setCell v h0.1 h0.2).trans (Stp.setCells r (o + 1) _ (fun j hj => by have := h (j + 1) (by simp; omega); rwa [show o + (j + 1) = o + 1 + j by omega] at this))
section blk
variable {g : Gh} {tm : List AV} {hp : Heap} {a : Array Value} {w : World}
theorem VR.loc {g : Gh} {id : Nat} {l : Nat × Nat × Nat} (hn : g.loc id = none) {av : AV} {v : Value} (h : VR g av v) : VR { g with loc := fun i => if i = id then some l else g.loc i } av v :=
 VR.mono (g := g) (g' := { g with loc := fun i => if i = id then some l else g.loc i }) (fun _ _ _ h => h) (fun i l' h => by
  show (if i = id then some l else g.loc i) = some l'
  rw [if_neg (by rintro rfl; rw [hn] at h; cases h)]; exact h) (fun _ _ h => h) h
theorem Rel.newBlk (h : Rel g tm hp a w) (cs : List AV) (vs : Array Value) (t : TypeId) (hl : cs.length ≤ vs.size) (hv : ∀ (j : Nat) (x : AV) (u : Value), cs[j]? = some x → vs[j]? = some u → VR g x u) (hm : ∀ (j : Nat) (x : AV) (u : Value), cs[j]? = some x → vs[j]? = some u → ∀ k g', g'.fz = g.fz → Tail g' k x u) :
    ∃ g', Rel g' tm (hp ++ [some cs]) a (w.alloc (.cells vs t)) ∧ Stp hp.length g w g' (w.alloc (.cells vs t)) ∧ VR g' (.ptr hp.length 0) (.pointer (some ⟨w.heap.size, 0, none⟩)) ∧ g'.loc hp.length = some (w.heap.size, 0, vs.size) ∧ g'.fz = g.fz := by
  let f : Nat → Owner := fun o => if o < vs.size then .blk hp.length else .free
  have h1 := h.fresh vs t (0, 0) f (fun o ho => by simp only [f] at ho; split at ho <;> simp_all) (fun o v ho => by simp only [f] at ho; split at ho <;> cases ho) (fun o _ => by simp)
  have hs := Stp.fresh h hp.length vs t (0, 0) f
  have hm1 : ∀ {x u}, VR g x u → VR (g.fresh w.heap.size f) x u := fun hv => hv.mono (fun b o v hv => fresh_imm h hv) (fun _ _ h => h) (fun _ _ h => h)
  generalize hg1 : g.fresh w.heap.size f = g1 at *
  let g2 : Gh := { g1 with loc := fun i => if i = hp.length then some (w.heap.size, 0, vs.size) else g1.loc i }
  have hn : g1.loc hp.length = none := h1.locs _ (Nat.le_refl _)
  have hm2 : ∀ {x u}, VR g1 x u → VR g2 x u := fun hv => hv.loc hn
  have ht2 : ∀ {k x u}, Tail g1 k x u → Tail g2 k x u := fun h => h
  refine ⟨g2, ⟨h1.size, fun t => ⟨hm2 (h1.slots t).1, ht2 (h1.slots t).2⟩, fun id c hc => ?_, fun id hid => ?_, h1.imms, h1.owns, h1.fzs⟩, ⟨hs.imm, hs.perm, fun id l hid hl => ?_, hs.upd, hs.fzm, hs.fzn⟩, ?_, by simp [g2], by show g1.fz = g.fz; rw [← hg1]; rfl⟩
  · by_cases e : id = hp.length
    · subst e
      simp at hc; subst hc
      refine ⟨w.heap.size, 0, vs.size, by simp [g2], by omega, fun j hj => ?_, fun j x hx => ?_⟩
      · show g1.ow w.heap.size (0 + j) = _
        rw [← hg1, fresh_new]; simp [f, hj]
      · have hj : j < vs.size := Nat.lt_of_lt_of_le (List.getElem?_eq_some_iff.1 hx).1 hl
        refine ⟨vs[j], ?_, hm2 (hm1 (hv j x _ hx (Array.getElem?_eq_getElem hj))), hm j x _ hx (Array.getElem?_eq_getElem hj) _ _ (by show g1.fz = g.fz; rw [← hg1]; rfl)⟩
        rw [cell_alloc, if_pos rfl]; simp [hj]
    · have hc' : hp[id]? = some (some c) := by
        rcases Nat.lt_or_ge id hp.length with h' | h'
        · rwa [List.getElem?_append_left h'] at hc
        · rw [List.getElem?_append_right h'] at hc
          have : id - hp.length ≠ 0 := by omega
          simp [List.getElem?_cons, this] at hc
      obtain ⟨b, base, cp, e1, e2, e3, e4⟩ := h1.heap id c hc'
      refine ⟨b, base, cp, ?_, e2, e3, fun j x hx => ?_⟩
      · show (if id = hp.length then _ else g1.loc id) = _; rw [if_neg e]; exact e1
      · obtain ⟨v, a1, a2, a3⟩ := e4 j x hx
        exact ⟨v, a1, hm2 a2, ht2 a3⟩
  · show (if id = hp.length then _ else g1.loc id) = none
    simp at hid
    rw [if_neg (by omega)]; exact h1.locs _ (by omega)
  · show (if id = hp.length then _ else g1.loc id) = some l
    rw [if_neg (by omega)]; exact hs.loc id l hid hl
  · exact VR.ptr (b := w.heap.size) (base := 0) (c := vs.size) (by simp [g2])
theorem Rel.store (h : Rel g tm hp a w) {id off : Nat} (avs : List AV) (vs : List Value) (hl : avs.length = vs.length) (hb : off + avs.length ≤ (hget hp id).length) (hne : 0 < avs.length)
  {b base c : Nat} (hloc : g.loc id = some (b, base, c))
  (hv : ∀ (j : Nat) (x : AV) (u : Value), avs[j]? = some x → vs[j]? = some u → VR g x u ∧ Tail g (.cell id (off + j)) x u) :
  Rel g tm (hset hp id (lput (hget hp id) off avs)) a (w.setCells b (base + off) vs) ∧ (∀ n, Stp n g w g (w.setCells b (base + off) vs)) ∧
   (∀ j, j < vs.length → (w.cell? ⟨b, base + off + j, none⟩).isSome = true) ∧ (∀ j, j < vs.length → w.frozen? ⟨b, base + off + j, none⟩ = false) := by
 have hcs := hget_some (hp := hp) (id := id) (off := off) (by omega)
 obtain ⟨b', base', c', e1, e2, e3, e4⟩ := h.heap id _ hcs
 rw [hloc] at e1
 simp only [Option.some.injEq, Prod.mk.injEq] at e1
 obtain ⟨rfl, rfl, rfl⟩ := e1
 have hown : ∀ j, j < vs.length → g.ow b (base + off + j) = .blk id := fun j hj => by
  have := e3 (off + j) (by omega); rwa [Nat.add_assoc]
 have hc1 : ∀ j, j < vs.length → (w.cell? ⟨b, base + off + j, none⟩).isSome = true := fun j hj => by
  obtain ⟨⟨v, hv⟩, _⟩ := h.owns b (base + off + j) (by rw [hown j hj]; simp)
  simp [hv]
 have hc2 : ∀ j, j < vs.length → w.frozen? ⟨b, base + off + j, none⟩ = false := fun j hj =>
  (h.owns b (base + off + j) (by rw [hown j hj]; simp)).2 (by rw [hown j hj]; simp)
 have hout : ∀ b' o', (b' = b → o' < base + off ∨ base + off + vs.length ≤ o') → (w.setCells b (base + off) vs).cell? ⟨b', o', none⟩ = w.cell? ⟨b', o', none⟩ :=
  fun b' o' hh => World.cell?_setCells_out b vs (base + off) w ⟨b', o', none⟩ (fun hb _ => hh hb)
 have hfr : ∀ x, (w.setCells b (base + off) vs).frozen? x = w.frozen? x := fun x => World.frozen?_setCells b vs (base + off) w x
 have hnot : ∀ b' o', g.ow b' o' ≠ .blk id → (b' = b → o' < base + off ∨ base + off + vs.length ≤ o') := fun b' o' hh e => by
  subst e
  rcases Nat.lt_or_ge o' (base + off) with h' | h'
  ·exact .inl h'
  ·rcases Nat.lt_or_ge o' (base + off + vs.length) with h'' | h''
   ·exact absurd (by have := hown (o' - (base + off)) (by omega); rwa [show base + off + (o' - (base + off)) = o' by omega] at this) hh
   ·exact .inr h''
 refine ⟨⟨h.size, h.slots, fun id' cs hc => ?_, fun i hi => h.locs i (by simpa using hi), fun b' o' v hi => ?_, fun b' o' hi => ?_, fzs_of h.fzs (fun b' c e f hb => heap_setCells vs _ w b' c e f hb) (fun _ _ _ h => h) rfl⟩, fun n => Stp.setCells _ _ _ (fun j hj => by rw [hown j hj]; simp), hc1, hc2⟩
 ·rw [hset_eq] at hc
  by_cases e : id' = id
  ·subst e
   rw [List.getElem?_set] at hc
   have hlt : id' < hp.length := (List.getElem?_eq_some_iff.1 hcs).1
   simp [hlt] at hc; subst hc
   refine ⟨b, base, c, hloc, by simpa using e2, e3, fun j x hx => ?_⟩
   rw [lput_get] at hx
   by_cases hj : off ≤ j ∧ j < off + avs.length ∧ j < (hget hp id').length
   ·rw [if_pos hj] at hx
    have hjj : j - off < vs.length := by omega
    have := hv (j - off) x vs[j - off] hx (List.getElem?_eq_getElem hjj)
    refine ⟨vs[j - off], ?_, this.1, by have := this.2; rwa [show off + (j - off) = j by omega] at this⟩
    have := World.cell?_setCells_in b vs (base + off) w hc1 (j - off) hjj
    rwa [show base + off + (j - off) = base + j by omega] at this
   ·rw [if_neg hj] at hx
    have hjl : j < (hget hp id').length := (List.getElem?_eq_some_iff.1 hx).1
    obtain ⟨v, a1, a2, a3⟩ := e4 j x hx
    refine ⟨v, ?_, a2, a3⟩
    rw [hout _ _ (fun _ => by omega)]; exact a1
  ·rw [List.getElem?_set, if_neg (by omega)] at hc
   obtain ⟨b', base', c', d1, d2, d3, d4⟩ := h.heap id' cs hc
   refine ⟨b', base', c', d1, d2, d3, fun j x hx => ?_⟩
   obtain ⟨v, a1, a2, a3⟩ := d4 j x hx
   refine ⟨v, ?_, a2, a3⟩
   have hj : j < c' := Nat.lt_of_lt_of_le (List.getElem?_eq_some_iff.1 hx).1 d2
   rw [hout _ _ (hnot _ _ (by rw [d3 j hj]; simp; exact e))]; exact a1
 ·rw [hout _ _ (hnot _ _ (by rw [hi]; simp))]; exact h.imms _ _ _ hi
 ·rw [hfr]
  have := h.owns b' o' hi
  refine ⟨?_, this.2⟩
  by_cases e : b' = b ∧ base + off ≤ o' ∧ o' < base + off + vs.length
  ·obtain ⟨rfl, e1, e2⟩ := e
   have := World.cell?_setCells_in b' vs (base + off) w hc1 (o' - (base + off)) (by omega)
   rw [show base + off + (o' - (base + off)) = o' by omega] at this
   exact ⟨_, this⟩
  ·rw [hout _ _ (fun hb => by omega)]; exact this.1
end blk
end Go.Av

namespace Go.Av
open Go
theorem needB_of {b : Bool} (h : ∀ c, needB b = some c → c) : b = true := by
 cases b with
 | true => rfl
 | false => exact (h False rfl).elim
section
variable {P : Program} {all : List Oper} {dst : Option Nat} {ty : TypeId} {pos : String} {after : Array Edge} {gd : Option (Nat × Bool)} {tm : List AV} {hp : Heap} {g : Gh} {a : Array Value} {w : World}
theorem OpOk.bad {o : Oper} {m : MR} (h : ∀ c, m.c = some c → c) (hm : m.c = some False) : OpOk P o m hp g a w := (h False hm).elim
theorem Rel.cellAt (h : Rel g tm hp a w) {id off : Nat} (ho : off < (hget hp id).length) {b base c : Nat} (hloc : g.loc id = some (b, base, c)) :
  ∃ v, w.cell? ⟨b, base + off, none⟩ = some v ∧ VR g (lget (hget hp id) off) v ∧ Tail g (.cell id off) (lget (hget hp id) off) v := by
 obtain ⟨b', base', c', e1, e2, e3, e4⟩ := h.heap id _ (hget_some ho)
 rw [hloc] at e1
 simp only [Option.some.injEq, Prod.mk.injEq] at e1
 obtain ⟨rfl, rfl, rfl⟩ := e1
 exact e4 off _ (lget_some ho)
theorem Rel.lessCell (h : Rel g tm hp a w) {id off : Nat} (ho : off < (hget hp id).length) {b base c : Nat} {x : AV} {v : Value} (hv : VR g x v) (hloc : g.loc id = some (b, base, c)) (he : w.cell? ⟨b, base + off, none⟩ = some v)
  (ht : Tail g (.cell id off) x v) : Rel g tm (hset hp id (lset (hget hp id) off x)) a w := by
 have hcs := hget_some ho
 have hlt := (List.getElem?_eq_some_iff.1 hcs).1
 obtain ⟨b', base', c', e1, e2, e3, e4⟩ := h.heap id _ hcs
 rw [hloc] at e1
 simp only [Option.some.injEq, Prod.mk.injEq] at e1
 obtain ⟨rfl, rfl, rfl⟩ := e1
 refine ⟨h.size, h.slots, fun id' cs hc => ?_, fun i hi => h.locs i (by simpa using hi), h.imms, h.owns, h.fzs⟩
 rw [hset_eq, List.getElem?_set] at hc
 by_cases e : id = id'
 ·subst e
  simp [hlt] at hc; subst hc
  refine ⟨b, base, c, hloc, by simpa using e2, e3, fun j y hy => ?_⟩
  rw [lset_eq, List.getElem?_set] at hy
  by_cases e5 : off = j
  ·subst e5; simp [ho] at hy; subst hy; exact ⟨v, he, hv, ht⟩
  ·rw [if_neg e5] at hy; exact e4 j y hy
 ·rw [if_neg e] at hc; exact h.heap id' cs hc
theorem hget_last (hp : List (Option (List AV))) (cs : List AV) : hget (hp ++ [some cs]) hp.length = cs := by
  induction hp with
  | nil => rfl
  | cons x hp ih => cases x <;> exact ih
theorem op_alloc {t : TypeId} (h : Rel g tm hp a w) (hc : ∀ c, (opM P all ⟨dst, .alloc t, ty, pos, after, gd⟩ tm hp).c = some c → c) :
    OpOk P ⟨dst, .alloc t, ty, pos, after, gd⟩ (opM P all ⟨dst, .alloc t, ty, pos, after, gd⟩ tm hp) hp g a w := by
  simp only [opM] at *
  split at hc
  · rename_i cs hz
    obtain ⟨i, z, hi, hzz, hok, hsz, rfl⟩ := zero_of hz
    have hopn : ∀ y, opn (ofValC y) = ofValC y ∨ (y = .slice none 0 0 ∧ opn (ofValC y) = .sl (some none) []) := fun y => by
      unfold ofValC
      split <;> first | exact .inl rfl | exact .inr ⟨rfl, rfl⟩
    obtain ⟨g', h1, h2, h3, h4, h5⟩ := h.newBlk ((z.cells.toList.map ofValC).map opn) z.cells t (by simp) (fun j x u hx hu => by
      simp only [List.map_map, List.getElem?_map, Option.map_eq_some_iff, Array.getElem?_toList] at hx
      obtain ⟨y, hy, rfl⟩ := hx
      obtain rfl : y = u := by rw [hy] at hu; exact Option.some.inj hu
      have hy' := okC_VR (g := g) (List.all_eq_true.1 hok _ (by simpa using Array.mem_of_getElem? hy))
      rcases hopn y with e | ⟨rfl, e⟩
      · simp only [Function.comp]; rw [e]; exact hy'
      · simp only [Function.comp]; rw [e]; exact .sl rfl (Nat.le_refl _) (Nat.zero_le _) 0 0 1 (fun _ => undef) (by simp) (by simp) (by omega) (by simp) (by simp) (by simp) (fun _ _ => ⟨rfl, .inl rfl⟩))
      (fun j x u hx hu k g' _ => by
        simp only [List.map_map, List.getElem?_map, Option.map_eq_some_iff, Array.getElem?_toList] at hx
        obtain ⟨y, hy, rfl⟩ := hx
        obtain rfl : y = u := by rw [hy] at hu; exact Option.some.inj hu
        simp only [Function.comp]
        rcases hopn y with e | ⟨rfl, e⟩
        · rw [e]; unfold ofValC; split <;> simp [Tail]
        · rw [e]; exact .inl ⟨rfl, rfl, .inl rfl⟩)
    have hrun : (execOp (Act.eval ⟨a, []⟩) ⟨dst, .alloc t, ty, pos, after, gd⟩).run P w = .ok (.value (.pointer (some ⟨w.heap.size, 0, none⟩))) (w.alloc (.cells z.cells t)) := by
      simp [execOp, Instr.alloc, zeroValue, typeInfo, hi, hzz, newVar, newRow]
    by_cases hb : ∃ e0, isBldT P t = some e0 ∧ (z.cells.toList.map ofValC).map opn = [.nilp, .sl (some none) []]
    · obtain ⟨e0, hb1, hb2⟩ := hb
      have e1 : bldC (isBldT P t) t hp.length ((z.cells.toList.map ofValC).map opn) = [.bld hp.length t, .sl (some (some (e0, 0))) []] := by rw [hb1, hb2]; rfl
      rw [e1]
      have hz2 : z.cells.size = 2 := by have := congrArg List.length hb2; simpa using this
      have hbk : (w.alloc (.cells z.cells t)).heap[w.heap.size]? = some (Obj.cells z.cells t (0, 0)) := by
        show (w.heap.push (Obj.cells z.cells t (0, 0)))[w.heap.size]? = _
        rw [Array.getElem?_push, if_pos rfl]
      have hn0 : g'.fz w.heap.size = none := by rw [h5]; exact h.fzNew (Nat.le_refl _)
      have h1' := h1.mark (e := (t, 2)) hbk hz2 (Nat.le_refl _) (.inl rfl) hn0
      have h2' := h2.mark (e := (t, 2)) (Nat.le_refl w.heap.size) hn0
      rw [hb2] at h1'
      have hg : ∀ cs : List AV, hget (hp ++ [some cs]) hp.length = cs := fun cs => hget_last hp cs
      obtain ⟨b, base, c, q1, q2, q3, q4⟩ := h1'.heap hp.length [.nilp, .sl (some none) []] (by simp only [List.getElem?_concat_length])
      have hloc' : (g'.mark w.heap.size (t, 2)).loc hp.length = some (w.heap.size, 0, 2) := by rw [← hz2]; exact h4
      rw [hloc'] at q1
      simp only [Option.some.injEq, Prod.mk.injEq] at q1
      obtain ⟨rfl, rfl, rfl⟩ := q1
      obtain ⟨v, v1, v2, v3⟩ := q4 0 .nilp rfl
      obtain ⟨u, u1, u2, u3⟩ := q4 1 (.sl (some none) []) rfl
      have hv0 : v = .pointer none := by cases v2; rfl
      subst hv0
      have hfz : (g'.mark w.heap.size (t, 2)).fz w.heap.size = some (t, 2) := by simp [Gh.mark]
      have hup := h1'.lessCell (id := hp.length) (off := 0) (x := .bld hp.length t) (by rw [hg]; simp) (.bld hloc' hfz (.inl rfl)) hloc' v1 (Tail.meek (by intro l; simp))
      have e2 : hset (hp ++ [some [AV.nilp, .sl (some none) []]]) hp.length (lset (Av.hget (hp ++ [some [AV.nilp, .sl (some none) []]]) hp.length) 0 (.bld hp.length t)) = hp ++ [some [.bld hp.length t, .sl (some none) []]] := by
        rw [hg, hset_eq]; simp [lset]
      rw [e2] at hup
      have hup2 := hup.lessCell (id := hp.length) (off := 1) (x := .sl (some (some (e0, 0))) []) (by rw [hg]; simp) u2.own hloc' u1 (Tail.ofNil u2)
      have e3 : hset (hp ++ [some [.bld hp.length t, .sl (some none) []]]) hp.length (lset (Av.hget (hp ++ [some [.bld hp.length t, .sl (some none) []]]) hp.length) 1 (.sl (some (some (e0, 0))) [])) = hp ++ [some [.bld hp.length t, .sl (some (some (e0, 0))) []]] := by
        rw [hg, hset_eq]; simp [lset]
      rw [e3] at hup2
      have h3' : VR (g'.mark w.heap.size (t, 2)) (.ptr hp.length 0) (.pointer (some ⟨w.heap.size, 0, none⟩)) := .ptr (off := 0) (base := 0) hloc'
      exact ⟨_, _, _, g'.mark w.heap.size (t, 2), hrun, .inl rfl, hup2.put _ h3' (fun d _ => Tail.meek (by intro l; simp)), h2', by simp⟩
    · have e1 : bldC (isBldT P t) t hp.length ((z.cells.toList.map ofValC).map opn) = (z.cells.toList.map ofValC).map opn := by
        generalize (z.cells.toList.map ofValC).map opn = L at hb
        unfold bldC
        split
        · rename_i e0 hb2; exact absurd ⟨e0, hb2, rfl⟩ hb
        · rfl
      rw [e1]
      exact ⟨_, _, _, g', hrun, .inl rfl, h1.put _ h3 (fun d _ => Tail.meek (by intro l; simp)), h2, by simp⟩
  · exact OpOk.bad hc (by simp)
theorem op_box {t : TypeId} {x : Operand} (h : Rel g tm hp a w) (hx : okOpd x = true) (hc : ∀ c, (opM P all ⟨dst, .box t x, ty, pos, after, gd⟩ tm hp).c = some c → c) :
  OpOk P ⟨dst, .box t x, ty, pos, after, gd⟩ (opM P all ⟨dst, .box t x, ty, pos, after, gd⟩ tm hp) hp g a w := by
 simp only [opM] at *
 have hk := needB_of hc
 have hv := (opv_VR h hx).fix
 obtain ⟨hl, hcs⟩ := storeV_cells hv hk
 obtain ⟨g', h1, h2, h3, _, _⟩ := h.newBlk _ _ t (Nat.le_of_eq hl) hcs (fun j x' u hx' hu k g' hfz => by
  have hx0 := hx'
  unfold storeV at hx'
  split at hx'
  ·rename_i cs heq
   simp only [List.getElem?_map, Option.map_eq_some_iff] at hx'
   obtain ⟨y, hy, rfl⟩ := hx'
   have hv' := hv
   rw [heq] at hv'
   exact (keepS_spec (k := k) (aggCells hv' hy hu)).2 g' (fun b e h => by rw [hfz]; exact h)
  ·refine Tail.meek ?_
   cases j with
   | zero => simp at hx'; subst hx'; exact meek_fix _
   | succ j => simp at hx')
 refine ⟨_, _, _, g', ?_, .inl rfl, h1.put _ h3 (fun d _ => Tail.meek (by intro l; simp)), h2, by simp⟩
 simp [execOp, Instr.box, newVar, newRow]
theorem run_loadAgg {t : TypeId} {b o sz : Nat} (hs : szOf P t = some sz) (ha : aggOf P t = some true) (f : Nat → Value) (hc : ∀ j, j < sz → w.cell? ⟨b, o + j, none⟩ = some (f j)) :
  (loadVar t ⟨b, o, none⟩).run P w = .ok (.agg ((List.range sz).map f).toArray) w := by
 have := run_loadCells (P := P) w ⟨b, o, none⟩ sz f (fun j hj => by rw [addr_add]; exact hc j hj)
 simp [loadVar, run_ag w ha, run_sz w hs, this]
theorem run_loadOne {t : TypeId} {b o : Nat} (ha : aggOf P t = some false) {v : Value} (hc : w.cell? ⟨b, o, none⟩ = some v) :
  (loadVar t ⟨b, o, none⟩).run P w = .ok v w := by
 simp [loadVar, run_ag w ha, hc]
theorem vr_agg_take {g : Gh} {cs : List AV} {off sz : Nat} {f : Nat → Value} (hl : off + sz ≤ cs.length) (h : ∀ j x, cs[j]? = some x → off ≤ j → j < off + sz → VR g x (f (j - off))) :
  VR g (.agg ((ltake sz (ldrop off cs)).map fix)) (.agg ((List.range sz).map f).toArray) := by
 rw [ltake_eq, ldrop_eq]
 refine .agg (by simp; omega) (fun j x u hx hu => ?_)
 simp only [List.getElem?_map, Option.map_eq_some_iff] at hx
 obtain ⟨y, hy, rfl⟩ := hx
 have hj : j < sz := by
  have := (List.getElem?_eq_some_iff.1 hy).1
  simp at this; omega
 rw [List.getElem?_take_of_lt hj, List.getElem?_drop] at hy
 simp [hj] at hu
 subst hu
 have := h (off + j) y hy (by omega) (by omega)
 rw [show off + j - off = j by omega] at this
 exact this.fix
theorem ptr_inv {id off : Nat} {v : Value} (h : VR g (.ptr id off) v) : ∃ b base c, g.loc id = some (b, base, c) ∧ v = .pointer (some ⟨b, base + off, none⟩) := by
 cases h with
 | ptr hloc => exact ⟨_, _, _, hloc, rfl⟩
theorem ip_inv {cs : List AV} {v : Value} (h : VR g (.ip cs) v) : ∃ b o, ∃ vs : Nat → Value, v = .pointer (some ⟨b, o, none⟩) ∧ (∀ x, x ∈ cs → noRef x = true) ∧ (∀ j x, cs[j]? = some x → g.ow b (o + j) = .imm (vs j)) ∧ (∀ j x, cs[j]? = some x → VR g x (vs j)) := by
 cases h with
 | ip vs hn hi hv => exact ⟨_, _, vs, rfl, hn, hi, hv⟩
theorem op_load {t : TypeId} {x : Operand} (h : Rel g tm hp a w) (hx : okOpd x = true) (hc : ∀ c, (opM P all ⟨dst, .load t x, ty, pos, after, gd⟩ tm hp).c = some c → c) :
    OpOk P ⟨dst, .load t x, ty, pos, after, gd⟩ (opM P all ⟨dst, .load t x, ty, pos, after, gd⟩ tm hp) hp g a w := by
  have hv := opv_VR h hx
  simp only [opM] at *
  split at hc
  · rename_i sz id off h1 h2 h3
    have hk := needB_of hc
    simp only [decide_eq_true_eq] at hk
    rw [h3] at hv
    obtain ⟨b, base, c, hloc, hve⟩ := ptr_inv hv
    have hcell : ∀ j, j < sz → w.cell? ⟨b, base + off + j, none⟩ = some ((w.cell? ⟨b, base + off + j, none⟩).getD undef) := fun j hj => by
      obtain ⟨v, e, _, _⟩ := h.cellAt (off := off + j) (by omega) hloc
      rw [← Nat.add_assoc] at e; simp [e]
    have hrun := run_loadAgg (P := P) (b := b) (o := base + off) h1 h2 (fun j => (w.cell? ⟨b, base + off + j, none⟩).getD undef) hcell
    have hv2 : VR g (.agg ((ltake sz (ldrop off (hget hp id))).map fix)) (.agg ((List.range sz).map fun j => (w.cell? ⟨b, base + off + j, none⟩).getD undef).toArray) :=
      vr_agg_take (off := off) hk (fun j x hx h1 h2 => by
        obtain ⟨v, e1, e2, _⟩ := h.cellAt (off := j) (by omega) hloc
        rw [lget_eq] at e2
        simp [List.getD_eq_getElem?_getD, hx] at e2
        rw [show base + off + (j - off) = base + j by omega]; simp [e1]; exact e2)
    refine OpOk.pure h _ rfl rfl ?_ hv2 (fun k => Tail.meek (by intro l; simp))
    simp [execOp, Instr.loadAt, Instr.sureAddr, hve, hrun]
  · rename_i sz id off h1 h2 h3
    have hk := needB_of hc
    simp only [decide_eq_true_eq] at hk
    rw [h3] at hv
    obtain ⟨b, base, c, hloc, hve⟩ := ptr_inv hv
    obtain ⟨v, e1, e2, e3⟩ := h.cellAt hk hloc
    have hrun : (execOp (Act.eval ⟨a, []⟩) ⟨dst, .load t x, ty, pos, after, gd⟩).run P w = .ok (.value v) w := by
      simp [execOp, Instr.loadAt, Instr.sureAddr, hve, run_loadOne (P := P) h2 e1]
    by_cases hs : stolen all dst = true
    · cases hl : lget (hget hp id) off with
      | sl own l =>
        cases own with
        | none => exact OpOk.pure h v rfl (by simp [mvH, hl]) hrun (by rw [hl] at e2; simpa [mvV] using e2) (fun k => Tail.meek (by intro l; simp [mvV]))
        | some oe =>
          rw [hl] at e2 e3
          obtain ⟨d, hd⟩ : ∃ d, dst = some d := by cases dst with | none => simp [stolen] at hs | some d => exact ⟨d, rfl⟩
          subst hd
          have h0 := h.lessCell hk (e2.own (o' := none)) hloc e1 (by have := e3.un (k' := .cell id off); simpa [Av.un] using this)
          have hr := h0.give (.cell id off) (.slot d) (.inr ⟨_, _, rfl⟩) (by simp) (fun t l e => by cases e) (fun id' off' cs l' e hc hl' => by
            injection e with e5 e6; subst e5 e6
            rw [hset_eq, List.getElem?_set_self ((List.getElem?_eq_some_iff.1 (hget_some hk)).1)] at hc
            injection hc with hc; injection hc with hc; subst hc
            obtain ⟨oe', hl'⟩ := hl'
            rw [lset_eq, List.getElem?_set_self hk] at hl'
            simp only [Option.some.injEq, AV.sl.injEq] at hl'
            exact absurd hl'.1 (by simp))
          have hv2 : VR (g.give (.cell id off) (.slot d)) (.sl (some oe) l) v := e2.mono (fun b o v h => give_imm (by simp) h) (fun _ _ h => h) (fun _ _ h => h)
          refine ⟨_, v, w, g.give (.cell id off) (.slot d), hrun, .inl rfl, ?_, .give (.cell id off) (.slot d) (.inr ⟨_, _, rfl⟩), by simp [mvH, hl, hs]⟩
          have e8 : mvH all (some d) hp id off = hset hp id (lset (hget hp id) off (.sl none l)) := by simp [mvH, hl, hs]
          rw [e8]
          have e9 : mvV all (some d) (.sl (some oe) l) = .sl (some oe) l := by simp [mvV, hs]
          rw [e9]
          exact hr.put (some d) hv2 (fun d' e => by injection e with e; subst e; exact e3.give_to)
      | _ => exact OpOk.pure h v rfl (by simp [mvH, hl]) hrun (by rw [hl] at e2; simpa [mvV] using e2) (fun k => Tail.meek (by intro l; simp [mvV]))
    · have hs' : stolen all dst = false := by simpa using hs
      have e4 : mvV all dst (lget (hget hp id) off) = un (lget (hget hp id) off) := by
        unfold mvV; generalize lget (hget hp id) off = y
        cases y with
        | sl o l => cases o <;> simp [un, hs']
        | _ => rfl
      refine OpOk.pure h v rfl ?_ hrun ?_ ?_
      · unfold mvH; split <;> simp [hs']
      · rw [e4]; exact e2.un
      · intro k; rw [e4]; exact e3.un
  · rename_i sz cs h1 h2 h3
    have hk := needB_of hc
    simp only [decide_eq_true_eq] at hk
    rw [h3] at hv
    obtain ⟨b, o, vs, hve, hn, hi, hvv⟩ := ip_inv hv
    have hrun := run_loadAgg (P := P) (b := b) (o := o) h1 h2 vs (fun j hj => h.imms _ _ _ (hi j _ (lget_some (by omega))))
    have := vr_agg_take (g := g) (cs := cs) (off := 0) (sz := sz) (f := vs) (by omega) (fun j x hx _ _ => by simpa using hvv j x hx)
    have e0 : ldrop 0 cs = cs := by cases cs <;> rfl
    rw [e0] at this
    refine OpOk.pure h _ rfl rfl ?_ this (fun k => Tail.meek (by intro l; simp))
    simp [execOp, Instr.loadAt, Instr.sureAddr, hve, hrun]
  · rename_i sz cs h1 h2 h3
    have hk := needB_of hc
    simp only [decide_eq_true_eq] at hk
    rw [h3] at hv
    obtain ⟨b, o, vs, hve, hn, hi, hvv⟩ := ip_inv hv
    have e1 := h.imms _ _ _ (hi 0 _ (lget_some hk))
    rw [Nat.add_zero] at e1
    refine OpOk.pure h (vs 0) rfl rfl ?_ (hvv 0 _ (lget_some hk)).fix (fun k => Tail.meek (meek_fix _))
    simp [execOp, Instr.loadAt, Instr.sureAddr, hve, run_loadOne (P := P) h2 e1]
  · exact OpOk.bad hc (by simp)
end
end Go.Av

namespace Go.Av
open Go
section
variable {P : Program} {all : List Oper} {dst : Option Nat} {ty : TypeId} {pos : String} {after : Array Edge} {gd : Option (Nat × Bool)} {tm : List AV} {hp : Heap} {g : Gh} {a : Array Value} {w : World}
theorem storeW_cell {y : Operand} {old : AV} {l : List AV} {j : Nat} {x : AV} (h : (storeW y old l)[j]? = some x) : ∃ z, l[j]? = some z ∧ (x = z ∨ x = un z) := by
 unfold storeW at h
 split at h
 ·rw [List.getElem?_map, Option.map_eq_some_iff] at h
  obtain ⟨z, h1, rfl⟩ := h
  exact ⟨z, h1, .inr rfl⟩
 ·exact ⟨x, h, .inl rfl⟩
theorem storeW_length {y : Operand} {old : AV} {l : List AV} : (storeW y old l).length = l.length := by
  unfold storeW; split <;> simp
theorem tailUn {g : Gh} {k : Owner} {z : AV} {u : Value} (h : Tail g k z u) : Tail g k (un z) u := by
 cases z with
 | sl o l => exact Tail.meek (by intro oe l'; simp [un])
 | _ => exact h
theorem op_store {t : TypeId} {x y : Operand} (h : Rel g tm hp a w) (hx : okOpd x = true) (hy : okOpd y = true) (hc : ∀ c, (opM P all ⟨dst, .store t x y, ty, pos, after, gd⟩ tm hp).c = some c → c) :
  OpOk P ⟨dst, .store t x y, ty, pos, after, gd⟩ (opM P all ⟨dst, .store t x y, ty, pos, after, gd⟩ tm hp) hp g a w := by
 have hv := opv_VR h hx
 simp only [opM] at *
 split at hc
 ·rename_i sz id off h1 h2
  have hk := needB_of hc
  simp only [Bool.and_eq_true, beq_iff_eq, decide_eq_true_eq] at hk
  obtain ⟨⟨⟨hk1, hk2⟩, hk3⟩, hk4⟩ := hk
  rw [h2] at hv
  obtain ⟨b, base, c, hloc, hve⟩ := ptr_inv hv
  obtain ⟨g', r1, r2, r3, r4⟩ := h.xfer hy hp.length (.cell id off) (by simp)
  obtain ⟨hl, hcs⟩ := storeV_cells r3 hk1
  have hne : 0 < (storeV (opv tm y)).length := by omega
  have hid : id < hp.length := (List.getElem?_eq_some_iff.1 (hget_some (hp := hp) (id := id) (off := off) (by omega))).1
  have hloc' := r2.loc id _ hid hloc
  obtain ⟨q1, q2, q3, q4⟩ := r1.store (id := id) (off := off) (storeW y (lget (hget hp id) off) (storeV (opv tm y))) (Act.eval ⟨a, []⟩ y).cells.toList (by rw [storeW_length]; simpa using hl) (by rw [storeW_length]; omega) (by rw [storeW_length]; exact hne) hloc' (fun j z0 u hz0 hu => by
   obtain ⟨z, hz, hzz⟩ := storeW_cell hz0
   have hvz := hcs j z u hz (by simpa using hu)
   suffices hkey : VR _ z u ∧ Tail _ (.cell id (off + j)) z u by
    rcases hzz with rfl | rfl
    ·exact hkey
    ·exact ⟨hkey.1.un, tailUn hkey.2⟩
   refine ⟨hvz, ?_⟩
   unfold storeV at hz
   split at hz
   ·rename_i cs heq
    simp only [List.getElem?_map, Option.map_eq_some_iff] at hz
    obtain ⟨q, hq, rfl⟩ := hz
    have hv' := r3
    rw [heq] at hv'
    exact (keepS_spec (k := .cell id (off + j)) (aggCells hv' hq (by simpa using hu))).2 _ (fun _ _ h => h)
   ·rename_i hna
    cases j with
    | zero =>
     simp at hz; subst hz
     rw [okCell_cells r3 (by simpa [storeV] using hk1)] at hu
     simp at hu; subst hu
     simpa using r4
    | succ j => simp at hz)
  have hrun := run_storeCells_cells (P := P) b (base + off) (Act.eval ⟨a, []⟩ y).cells.toList 0 w (fun j hj => by simpa using q3 j hj) (fun j hj => by simpa using q4 j hj) (fun v hv => by
   obtain ⟨j, hj⟩ := List.getElem?_of_mem hv
   have hjl : j < (storeV (opv tm y)).length := by rw [hl]; simpa using (List.getElem?_eq_some_iff.1 hj).1
   have := hcs j _ v (List.getElem?_eq_getElem hjl) (by simpa using hj)
   exact okCell_one this (List.all_eq_true.1 hk1 _ (List.getElem_mem _)))
  refine ⟨.skip, undef, _, g', ?_, .inr ⟨rfl, rfl⟩, q1.put _ (.any _) (fun d _ => Tail.meek (by intro l; simp)), r2.trans (q2 _), by simp⟩
  have hsz : (Act.eval ⟨a, []⟩ y).cells.size = sz := by omega
  simp only [execOp, Instr.storeAt, Instr.sureAddr, hve, storeVar]
  simp [run_sz w h1, hsz, hrun]
 ·exact OpOk.bad hc (by simp)
end
end Go.Av

