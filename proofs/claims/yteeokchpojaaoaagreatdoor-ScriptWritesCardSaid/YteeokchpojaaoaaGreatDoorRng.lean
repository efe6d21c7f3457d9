import Derived.Test.YteeokchpojaaoaaGreatDoorEx5
import Derived.Test.YteeokchpojaaoaaGreatDoorHa5
import Derived.Lib.OthersKept
set_option linter.unusedSectionVars false
set_option linter.unusedVariables false
set_option linter.unusedSimpArgs false
set_option linter.unusedVariables false
set_option linter.unusedSimpArgs false
namespace Go.Av
open Go Go.RowKit

/-! ### A range over a string -/
/-- More is told of the memory. -/
structure Lay.Le (L L' : Lay) : Prop where
  l : ∀ b o v, L.L b o v → L'.L b o v
  s : ∀ b n, L.S b n → L'.S b n
  o : ∀ b x, L.O b x → L'.O b x
@[reducible] def Lay.put (L : Lay) (b : Nat) (x : Obj) : Lay := ⟨L.L, L.S, fun b' x' => (b' ≠ b ∧ L.O b' x') ∨ (b' = b ∧ x' = x)⟩
theorem LayOk.le {L L' : Lay} (h : L.Le L') {g : Gh} {w : World} (hk : @LayOk L' g w) : @LayOk L g w :=
  ⟨fun b o v hv => hk.1 b o v (h.l _ _ _ hv), fun b n hn => hk.2.1 b n (h.s _ _ hn), fun b x hx => hk.2.2 b x (h.o _ _ hx)⟩
theorem ACall.ext {L L' : Lay} (h : L.Le L') {P : Program} {f : FuncId} {args : List AV} {hp hp' : Heap} {r : AV} (hA : @ACall L P f args hp r hp') : @ACall L' P f args hp r hp' :=
  ⟨hA.1, hA.2.1, hA.2.2.1, fun g w vs hL hr hs => hA.2.2.2 g w vs (hL.le h) hr hs⟩
def Rt.plus (R : Rt) (b : Nat) : Rt := ⟨R.R, fun x => R.X x ∨ x = b⟩
theorem W0.ext {L L' : Lay} (h : L.Le L') {P : Program} {nb : Nat} {R : Rt} {k : List Item} {tm : List AV} {hp : Heap} (b : Nat) (hw : @W0 L P nb R k tm hp) : @W0 L' P nb (R.plus b) k tm hp := by
  intro g a w fr cs hL hr hn
  obtain ⟨a', w', g', tm', hp', todo, q1, q2, q3, q4⟩ := hw g a w fr cs (hL.le h) hr hn
  exact ⟨a', w', g', tm', hp', todo, q1, q2, q3.weak fun x hx => .inl (.inl hx), q4⟩

section
variable {g : Gh} {tm : List AV} {hp : Heap} {a : Array Value} {w : World}
/-- The world is another one in what is no cells only. -/
theorem Rel.obj (h : Rel g tm hp a w) {w' : World} (hb : ∀ (b : Nat) c e f, w.heap[b]? = some (Obj.cells c e f) → w'.heap[b]? = some (Obj.cells c e f)) : Rel g tm hp a w' := by
  have hc : ∀ b o v, w.cell? ⟨b, o, none⟩ = some v → w'.cell? ⟨b, o, none⟩ = some v ∧ w'.frozen? ⟨b, o, none⟩ = w.frozen? ⟨b, o, none⟩ := fun b o v hv => by
    unfold World.cell? at hv
    unfold World.cell? World.frozen?
    dsimp only at hv ⊢
    split at hv
    · rename_i c e f hbk
      simp only [hb b c e f hbk, hbk]
      exact ⟨hv, True.intro⟩
    · simp at hv
  refine ⟨h.size, h.slots, fun id cs hcs => ?_, h.locs, fun b o v hv => (hc _ _ _ (h.imms _ _ _ hv)).1, fun b o hv => ?_, fzs_of h.fzs (fun b c e f hb' => ⟨c, hb _ _ _ _ hb', rfl⟩) (fun _ _ _ h => h) rfl⟩
  · obtain ⟨b, base, c, e1, e2, e3, e4⟩ := h.heap id cs hcs
    refine ⟨b, base, c, e1, e2, e3, fun j av hj => ?_⟩
    obtain ⟨v, q1, q2⟩ := e4 j av hj
    exact ⟨v, (hc _ _ _ q1).1, q2⟩
  · obtain ⟨⟨v, q1⟩, q2⟩ := h.owns b o hv
    obtain ⟨r1, r2⟩ := hc _ _ _ q1
    exact ⟨⟨v, r1⟩, fun hi => r2.trans (q2 hi)⟩
theorem Stp.iter (n : Nat) (g : Gh) (w : World) (s : ByteArray) : Stp n g w g (w.iter s 0) := by
  have hold : ∀ (b : Nat) o, w.heap[b]? = some o → (w.iter s 0).heap[b]? = some o := fun b o hb => by
    show (w.heap.push (Obj.stringIter s 0))[b]? = _
    have hlt := (Array.getElem?_eq_some_iff.1 hb).1
    rw [Array.getElem?_push, if_neg (by omega)]; exact hb
  exact .of (fun _ _ _ h => h) (fun _ _ _ h => h) (fun _ _ _ h => h) (.of rfl rfl rfl (by simp [World.iter, World.alloc, -World.alloc_eq]) (fun b c e f hb => ⟨c, hold _ _ hb, rfl, fun _ _ => rfl⟩) (fun b o hb _ => hold _ _ hb)) rfl
theorem StpX.iterAt {X : Nat → Prop} {n kk p p' : Nat} {s : ByteArray} (hk : w.heap[kk]? = some (.stringIter s p)) (hX : X kk) : StpX X n g w g (w.iterAt kk s p') := by
  have hne : ∀ b o, w.heap[b]? = some o → (o = .stringIter s p ∧ b = kk) ∨ (w.iterAt kk s p').heap[b]? = some o := fun b o hb => by
    by_cases e : b = kk
    · subst e; rw [hk] at hb; cases hb; exact .inl ⟨rfl, rfl⟩
    · exact .inr (by rw [Lib.iterAt_other _ _ _ _ _ e]; exact hb)
  refine ⟨fun _ _ _ h => h, fun _ _ _ h => h, fun _ _ _ h => h, ⟨rfl, rfl, rfl, by rw [Lib.iterAt_size]; exact Nat.le_refl _, fun b c e f hb => ?_, fun b o hx hb _ => ?_⟩, fun _ _ h => h, fun _ _ h => h⟩
  · rcases hne _ _ hb with ⟨h, _⟩ | h
    · cases h
    · exact ⟨c, f, h, rfl, fun _ _ => rfl, fun _ => rfl, fun _ _ => rfl⟩
  · rcases hne _ _ hb with ⟨_, rfl⟩ | h
    · exact absurd hX hx
    · exact h
theorem LayOk.iterAt {L : Lay} {kk p p' : Nat} {s : ByteArray} (h : @LayOk (L.put kk (.stringIter s p)) g w) : @LayOk (L.put kk (.stringIter s p')) g (w.iterAt kk s p') := by
  have hk : w.heap[kk]? = some (.stringIter s p) := (h.2.2 kk _ (.inr ⟨rfl, rfl⟩)).1
  refine ⟨h.1, fun b n hn => ?_, fun b x hx => ?_⟩
  · obtain ⟨c, e, f, q1, q2⟩ := h.2.1 b n hn
    have hne : b ≠ kk := fun e => by subst e; rw [hk] at q1; cases q1
    exact ⟨c, e, f, by rw [Lib.iterAt_other _ _ _ _ _ hne]; exact q1, q2⟩
  · rcases hx with ⟨h1, h2⟩ | ⟨rfl, rfl⟩
    · have := h.2.2 b x (.inl ⟨h1, h2⟩)
      exact ⟨by rw [Lib.iterAt_other _ _ _ _ _ h1]; exact this.1, this.2⟩
    · exact ⟨Lib.iterAt_heap _ _ _ _ _ hk, by simp⟩
end

section
variable {P : Program} {nb : Nat} {R : Rt} {k : List Item} {tm : List AV} {hp : Heap}
theorem adr_inv {g : Gh} {b : Nat} {v : Value} (h : VR g (.adr b) v) : v = .pointer (some ⟨b, 0, none⟩) := by cases h; rfl

/-- The iterator is made. -/
theorem W0.mkIter {L : Lay} {id t0 t T ty1 ty2 : Nat} {x : Operand} {p1 p2 : String} {a1 a2 : Array Edge} {s : List UInt8} (hT : P.underlying T = some .string) (hx : opv tm x = .str s) (hok : okOpd x = true) (ht0 : t0 < tm.length)
    (h : ∀ kk sB, sB.data.toList = s → (∀ x, ¬ L.O kk x) → @W0 (L.put kk (.stringIter sB 0)) P nb (R.plus kk) k (lset (lset tm t0 (.str s)) t (.adr kk)) hp) :
    W0 P nb R (.code (.region id #[⟨some t0, .move x, ty1, p1, a1, none⟩, ⟨some t, .range T (.tmp t0), ty2, p2, a2, none⟩] false) :: k) tm hp := by
  refine W0.region (W0.sim (i := 0) (tm' := lset tm t0 (.str s)) (hp' := hp) ?_ ?_)
  · intro g a w hL hr b is k cs
    have hv := opv_VR hr hok
    rw [hx] at hv
    refine ⟨(Act.put ⟨a, []⟩ (some t0) (Act.eval ⟨a, []⟩ x)).tmps, w, g, hr.put (some t0) hv (fun d _ => Tail.meek (by intro oe l; simp)), .refl _ _ _, Nat.le_refl _, ?_⟩
    exact .one (step_value (o := ⟨some t0, .move x, ty1, p1, a1, none⟩) rfl (by simp [Region.wanted]) (by simp [execOp]))
  · intro g a w b cs hL hr hn
    have hv := (hr.slots t0).1
    rw [show lget (lset tm t0 (AV.str s)) t0 = .str s by rw [lget_eq, lset_eq]; simp [ht0]] at hv
    obtain ⟨sB, e1, e2, _⟩ := str_inv hv
    have hrun : (execOp (Act.eval ⟨a, []⟩) ⟨some t, .range T (.tmp t0), ty2, p2, a2, none⟩).run P w = .ok (.value (.pointer (some ⟨w.heap.size, 0, none⟩))) (w.iter sB 0) := by
      have := run_range_string (P := P) w T sB hT
      simp [execOp, Act.eval, e1, this]
    have hs := Stp.iter nb g w sB
    have hr1 : Rel g (lset tm t0 (.str s)) hp a (w.iter sB 0) := hr.obj fun b c e f hb => by
      have hlt := (Array.getElem?_eq_some_iff.1 hb).1
      show (w.heap.push (Obj.stringIter sB 0))[b]? = _
      rw [Array.getElem?_push, if_neg (by omega)]; exact hb
    have hr2 := hr1.put (v := .pointer (some ⟨w.heap.size, 0, none⟩)) (some t) (.adr) (fun d _ => Tail.meek (by intro oe l; simp))
    have hfree : ∀ x, ¬ L.O w.heap.size x := fun x hx => by
      have := (hL.2.2 _ _ hx).1
      have := (Array.getElem?_eq_some_iff.1 this).1
      omega
    have hL1 : @LayOk L g (w.iter sB 0) := hL.stp hs
    have hL2 : @LayOk (L.put w.heap.size (.stringIter sB 0)) g (w.iter sB 0) := by
      refine ⟨hL1.1, hL1.2.1, fun b x hx => ?_⟩
      rcases hx with ⟨_, hx⟩ | ⟨rfl, rfl⟩
      · exact hL1.2.2 b x hx
      · exact ⟨World.iter_heap _ _ _, by simp⟩
    obtain ⟨a', w', g', tm', hp', todo, q1, q2, q3, q4⟩ := h w.heap.size sB e2 hfree g _ _ b cs hL2 hr2 hn
    have st1 := step_value (P := P) (b := b) (k := k) (cs := cs) (ops := #[⟨some t0, .move x, ty1, p1, a1, none⟩, ⟨some t, .range T (.tmp t0), ty2, p2, a2, none⟩]) (i := 1) (rest := []) (a := ⟨a, []⟩) (o := ⟨some t, .range T (.tmp t0), ty2, p2, a2, none⟩) rfl (by simp [Region.wanted]) hrun
    refine ⟨a', w', g', tm', hp', todo, .head st1 (.head step_region_end q1), q2, ?_, q4⟩
    · exact (hs.x.trans q3).weak fun x hx => hx.elim .inl fun e => .inr (by omega)

/-- The head of the loop: another byte, or the end. -/
abbrev rngC (rid lid t t1 t2 ty1 ty2 : Nat) (p1 p2 : String) (a1 a2 : Array Edge) (body : Code) : Code :=
  .seq (.region rid #[⟨some t1, .next (.tmp t) true, ty1, p1, a1, none⟩, ⟨some t2, .extract (.tmp t1) 0, ty2, p2, a2, none⟩] false) (.seq (.cond (.tmp t2) .skip (.exit lid)) body)
theorem W0.next1 {L : Lay} {kk p rid lid t t1 t2 ty1 ty2 : Nat} {p1 p2 : String} {a1 a2 : Array Edge} {body : Code} {s : ByteArray} (htn : t1 ≠ t2) (hl1 : t1 < tm.length) (hl2 : t2 < tm.length) (ht : lget tm t = .adr kk) (hps : p < s.size) (h128 : (s[p]'hps).toNat < 128)
    (h : @W0 (L.put kk (.stringIter s (p + 1))) P nb (R.plus kk) (.code body :: k) (lset (lset tm t1 (.tup [.bool true, .any, .int .i32 (s[p]'hps).toNat])) t2 (.bool true)) hp) :
    @W0 (L.put kk (.stringIter s p)) P nb (R.plus kk) (.code (rngC rid lid t t1 t2 ty1 ty2 p1 p2 a1 a2 body) :: k) tm hp := by
  unfold rngC
  letI : Lay := L.put kk (.stringIter s p)
  refine W0.seq (W0.region ?_)
  intro g a w b cs hL hr hn
  have hk : w.heap[kk]? = some (.stringIter s p) := (hL.2.2 kk _ (.inr ⟨rfl, rfl⟩)).1
  have hv := (hr.slots t).1
  rw [ht] at hv
  have e1 := adr_inv hv
  have hrun : (execOp (Act.eval ⟨a, []⟩) ⟨some t1, .next (.tmp t) true, ty1, p1, a1, none⟩).run P w = .ok (.value (.tuple #[.bool true, .int .i64 p, .int .i32 (s[p]'hps).toNat])) (w.iterAt kk s (p + 1)) := by
    have := Lib.run_next_ascii_at (P := P) w kk s p ty1 hk hps h128
    simp [execOp, Act.eval, e1, this]
  have hs : StpX (R.plus kk).X nb g w g (w.iterAt kk s (p + 1)) := StpX.iterAt hk (.inr rfl)
  have hr1 : Rel g tm hp a (w.iterAt kk s (p + 1)) := hr.obj fun b c e f hb => by
    have hne : b ≠ kk := fun e => by subst e; rw [hk] at hb; cases hb
    rw [Lib.iterAt_other _ _ _ _ _ hne]; exact hb
  have htup : VR g (.tup [.bool true, .any, .int .i32 (s[p]'hps).toNat]) (.tuple #[.bool true, .int .i64 p, .int .i32 (s[p]'hps).toNat]) := by
    refine .tup rfl fun j av v h1 h2 => ?_
    match j, h1, h2 with
    | 0, h1, h2 => simp at h1 h2; subst h1; subst h2; exact .bool
    | 1, h1, h2 => simp at h1 h2; subst h1; exact .any _
    | 2, h1, h2 => simp at h1 h2; subst h1; subst h2; exact .int (by have : IntKind.min .i32 = -2147483648 := rfl; omega) (by have : IntKind.max .i32 = 2147483647 := rfl; omega)
    | j+3, h1, h2 => simp at h1
  have hr2 := hr1.put (v := .tuple #[.bool true, .int .i64 p, .int .i32 (s[p]'hps).toNat]) (some t1) htup (fun d _ => Tail.meek (by intro oe l; simp))
  have hv1 := hr2.slots t1
  have hL2 : @LayOk (L.put kk (.stringIter s (p + 1))) g (w.iterAt kk s (p + 1)) := LayOk.iterAt hL
  have hg1 : (Act.put ⟨a, []⟩ (some t1) (.tuple #[.bool true, .int .i64 p, .int .i32 (s[p]'hps).toNat])).tmps.getD t1 undef = .tuple #[.bool true, .int .i64 p, .int .i32 (s[p]'hps).toNat] := by
    have : t1 < a.size := Nat.lt_of_lt_of_le hl1 hr.size
    simp [Act.put, this]
  have hrun2 : ∀ W, (execOp (Act.eval ⟨(Act.put ⟨a, []⟩ (some t1) (.tuple #[.bool true, .int .i64 p, .int .i32 (s[p]'hps).toNat])).tmps, []⟩) ⟨some t2, .extract (.tmp t1) 0, ty2, p2, a2, none⟩).run P W = .ok (.value (.bool true)) W := fun W => by
    simp only [execOp, Act.eval, hg1]
    simp [Instr.extract]
  have hr3 := hr2.put (v := .bool true) (av := .bool true) (some t2) .bool (fun d _ => Tail.meek (by intro oe l; simp))
  have hc : opv (lset (lset tm t1 (.tup [.bool true, .any, .int .i32 (s[p]'hps).toNat])) t2 (.bool true)) (.tmp t2) = .bool true := by
    simp only [opv, lget_eq, lset_eq]
    simp [hl2]
  letI : Lay := L.put kk (.stringIter s (p + 1))
  obtain ⟨a', w', g', tm', hp', todo, q1, q2, q3, q4⟩ := (W0.seq (W0.cond hc rfl (fun _ => W0.skip h) (fun e => by cases e))) g _ _ b cs hL2 hr3 hn
  have st1 := step_value (P := P) (b := b) (k := .code (.seq (.cond (.tmp t2) .skip (.exit lid)) body) :: k) (cs := cs) (ops := #[⟨some t1, .next (.tmp t) true, ty1, p1, a1, none⟩, ⟨some t2, .extract (.tmp t1) 0, ty2, p2, a2, none⟩]) (i := 0) (rest := [1]) (a := ⟨a, []⟩) (o := ⟨some t1, .next (.tmp t) true, ty1, p1, a1, none⟩) rfl (by simp [Region.wanted]) hrun
  have st2 := step_value (P := P) (b := b) (k := .code (.seq (.cond (.tmp t2) .skip (.exit lid)) body) :: k) (cs := cs) (ops := #[⟨some t1, .next (.tmp t) true, ty1, p1, a1, none⟩, ⟨some t2, .extract (.tmp t1) 0, ty2, p2, a2, none⟩]) (i := 1) (rest := []) (o := ⟨some t2, .extract (.tmp t1) 0, ty2, p2, a2, none⟩) rfl (by simp [Region.wanted]) (hrun2 (w.iterAt kk s (p + 1)))
  exact ⟨a', w', g', tm', hp', todo, .head st1 (.head st2 (.head step_region_end q1)), q2, hs.trans q3, q4⟩
theorem W0.next0 {L : Lay} {kk p rid lid t t1 t2 ty1 ty2 : Nat} {p1 p2 : String} {a1 a2 : Array Edge} {body : Code} {s : ByteArray} {k' : List Item} (htn : t1 ≠ t2) (hl1 : t1 < tm.length) (hl2 : t2 < tm.length) (ht : lget tm t = .adr kk) (hps : ¬ p < s.size) (hex : exitTo lid k = some k')
    (h : @W0 (L.put kk (.stringIter s p)) P nb (R.plus kk) k' (lset (lset tm t1 (.tup [.bool false])) t2 (.bool false)) hp) :
    @W0 (L.put kk (.stringIter s p)) P nb (R.plus kk) (.code (rngC rid lid t t1 t2 ty1 ty2 p1 p2 a1 a2 body) :: k) tm hp := by
  unfold rngC
  letI : Lay := L.put kk (.stringIter s p)
  refine W0.seq (W0.region ?_)
  intro g a w b cs hL hr hn
  have hk : w.heap[kk]? = some (.stringIter s p) := (hL.2.2 kk _ (.inr ⟨rfl, rfl⟩)).1
  have hv := (hr.slots t).1
  rw [ht] at hv
  have e1 := adr_inv hv
  have hrun : (execOp (Act.eval ⟨a, []⟩) ⟨some t1, .next (.tmp t) true, ty1, p1, a1, none⟩).run P w = .ok (.value (.tuple #[.bool false])) w := by
    have := Lib.run_next_end_at (P := P) w kk s p ty1 hk hps
    simp [execOp, Act.eval, e1, this]
  have htup : VR g (.tup [.bool false]) (.tuple #[.bool false]) := by
    refine .tup rfl fun j av v h1 h2 => ?_
    match j, h1, h2 with
    | 0, h1, h2 => simp at h1 h2; subst h1; subst h2; exact .bool
    | j+1, h1, h2 => simp at h1
  have hr2 := hr.put (v := .tuple #[.bool false]) (some t1) htup (fun d _ => Tail.meek (by intro oe l; simp))
  have hg1 : (Act.put ⟨a, []⟩ (some t1) (.tuple #[.bool false])).tmps.getD t1 undef = .tuple #[.bool false] := by
    have : t1 < a.size := Nat.lt_of_lt_of_le hl1 hr.size
    simp [Act.put, this]
  have hrun2 : ∀ W, (execOp (Act.eval ⟨(Act.put ⟨a, []⟩ (some t1) (.tuple #[.bool false])).tmps, []⟩) ⟨some t2, .extract (.tmp t1) 0, ty2, p2, a2, none⟩).run P W = .ok (.value (.bool false)) W := fun W => by
    simp only [execOp, Act.eval, hg1]
    simp [Instr.extract]
  have hr3 := hr2.put (v := .bool false) (av := .bool false) (some t2) .bool (fun d _ => Tail.meek (by intro oe l; simp))
  have hc : opv (lset (lset tm t1 (.tup [.bool false])) t2 (.bool false)) (.tmp t2) = .bool false := by
    simp only [opv, lget_eq, lset_eq]
    simp [hl2]
  have hex2 : exitTo lid (.code body :: k) = some k' := by simpa [exitTo] using hex
  obtain ⟨a', w', g', tm', hp', todo, q1, q2, q3, q4⟩ := (W0.seq (W0.cond hc rfl (fun e => by cases e) (fun _ => W0.exit hex2 h))) g _ _ b cs hL hr3 hn
  have st1 := step_value (P := P) (b := b) (k := .code (.seq (.cond (.tmp t2) .skip (.exit lid)) body) :: k) (cs := cs) (ops := #[⟨some t1, .next (.tmp t) true, ty1, p1, a1, none⟩, ⟨some t2, .extract (.tmp t1) 0, ty2, p2, a2, none⟩]) (i := 0) (rest := [1]) (a := ⟨a, []⟩) (o := ⟨some t1, .next (.tmp t) true, ty1, p1, a1, none⟩) rfl (by simp [Region.wanted]) hrun
  have st2 := step_value (P := P) (b := b) (k := .code (.seq (.cond (.tmp t2) .skip (.exit lid)) body) :: k) (cs := cs) (ops := #[⟨some t1, .next (.tmp t) true, ty1, p1, a1, none⟩, ⟨some t2, .extract (.tmp t1) 0, ty2, p2, a2, none⟩]) (i := 1) (rest := []) (o := ⟨some t2, .extract (.tmp t1) 0, ty2, p2, a2, none⟩) rfl (by simp [Region.wanted]) (hrun2 w)
  exact ⟨a', w', g', tm', hp', todo, .head st1 (.head st2 (.head step_region_end q1)), q2, q3, q4⟩
theorem runB [Lay] {b c : Code} {k2 : List Item} (n : Nat) (h : hold P nb R (ex P n none [.code b, .inLoop c] k2 tm hp)) : W P nb R (.code b :: .inLoop c :: k2) tm hp := runX n h
theorem le_put {L : Lay} {b : Nat} {x : Obj} (h : ∀ x, ¬ L.O b x) : L.Le (L.put b x) :=
  ⟨fun _ _ _ h => h, fun _ _ h => h, fun b' x' hx => .inl ⟨fun e => by subst e; exact h _ hx, hx⟩⟩
theorem rngJ {L : Lay} {N id lid rid t0 t t1 t2 T ty1 ty2 ty3 ty4 : Nat} {x : Operand} {p1 p2 p3 p4 : String} {a1 a2 a3 a4 : Array Edge} {l0 : List (Nat × AV)} {s : List UInt8} {body : Code} {k1 k2 : List Item} (Q : Nat → List UInt8 → FP → Prop)
    (hT : P.underlying T = some .string) (hx : opv (fr N l0) x = .str s) (hok : okOpd x = true) (hN : t0 < N ∧ t1 < N ∧ t2 < N ∧ t1 ≠ t2 ∧ t < N)
    (hmono : ∀ kk q w w', (∀ l h, w l h → w' l h) → Q kk q w → Q kk q w') (hbig : ∀ kk (c : UInt8) q w, ¬ c.toNat < 128 → Q kk (c :: q) w)
    (hbody : ∀ (kk : Nat) (L' : Lay), L.Le L' → ∀ (c : UInt8) q, c.toNat < 128 →
      Q kk q (fun l h => (al l t = .adr kk ∧ al l t1 = .any ∧ al l t2 = .any) → @W L' P nb (R.plus kk) (.code (rngC rid lid t t1 t2 ty3 ty4 p3 p4 a3 a4 body) :: .inLoop (rngC rid lid t t1 t2 ty3 ty4 p3 p4 a3 a4 body) :: .inBlock lid :: (k1 ++ k2)) (fr N l) h) →
      Q kk (c :: q) (fun l h => @W L' P nb (R.plus kk) (.code body :: .inLoop (rngC rid lid t t1 t2 ty3 ty4 p3 p4 a3 a4 body) :: .inBlock lid :: (k1 ++ k2)) (fr N ((t2, .bool true) :: (t1, .tup [.bool true, .any, .int .i32 c.toNat]) :: l)) h))
    (hend : ∀ kk, Q kk [] (fun l h => W P nb R (k1 ++ k2) (fr N l) h))
    (use : ∀ kk w, Q kk s w → ∃ l, (w l hp) ∧ (al l t = .adr kk ∧ al l t1 = .any ∧ al l t2 = .any) ∧ toldA ((t, .adr kk) :: (t0, .str s) :: l0) l) :
    hold P nb R (.rg id (List.toArray [⟨some t0, .move x, ty1, p1, a1, none⟩, ⟨some t, .range T (.tmp t0), ty2, p2, a2, none⟩]) false (.code (.block lid (.loop (rngC rid lid t t1 t2 ty3 ty4 p3 p4 a3 a4 body))) :: k1) k2 (fr N l0) hp) := by
  intro hk
  generalize hC : rngC rid lid t t1 t2 ty3 ty4 p3 p4 a3 a4 body = C at *
  have hkk : okK P (k1 ++ k2) = true ∧ okCode P C = true := by
    simp only [List.cons_append, okK, okItem, okCode, Bool.and_eq_true] at hk
    exact ⟨hk.2.2, hk.2.1⟩
  obtain ⟨hkK, hkC⟩ := hkk
  have hkB : okCode P body = true := by
    rw [← hC] at hkC
    simp only [okCode, Bool.and_eq_true] at hkC
    exact hkC.2.2
  have hkL : okK P (.code C :: .inLoop C :: .inBlock lid :: (k1 ++ k2)) = true := by
    simp [okK, okItem, hkC, hkK]
  refine W0.mkIter hT hx hok (by rw [fr_len]; exact hN.1) fun kk sB hsB hfree => ?_
  rw [lset_fr, lset_fr]
  have key : ∀ (q : List UInt8) (p : Nat), sB.data.toList.drop p = q → Q kk q (fun l h => (al l t = .adr kk ∧ al l t1 = .any ∧ al l t2 = .any) → @W (L.put kk (.stringIter sB p)) P nb (R.plus kk) (.code C :: .inLoop C :: .inBlock lid :: (k1 ++ k2)) (fr N l) h) := by
    intro q
    induction q with
    | nil =>
      intro p hp'
      refine hmono _ _ _ _ (fun l h hw hadr => ?_) (hend kk)
      intro _
      have hge : ¬ p < sB.size := fun hlt => by
        have := congrArg List.length hp'
        simp at this
        have e : sB.data.size = sB.size := rfl
        omega
      have hlt : ∀ {j}, j < N → lget (fr N l) j = al l j := fun hj => lget_fr hj
      rw [← hC]
      refine W0.next0 (k' := k1 ++ k2) hN.2.2.2.1 (by rw [fr_len]; exact hN.2.1) (by rw [fr_len]; exact hN.2.2.1) (by rw [lget_fr hN.2.2.2.2]; exact hadr.1) hge (by simp [exitTo]) ?_
      rw [lset_fr, lset_fr]
      refine W0.ext (le_put hfree) kk (W0.same (wk_of (by simp [fr_len]) fun j hj => ?_) (hw hkK))
      rw [fr_len] at hj
      rw [lget_fr hj, lget_fr hj]
      by_cases e1 : j = t1
      · subst e1; exact .inl hadr.2.1
      · by_cases e2 : j = t2
        · subst e2; exact .inl hadr.2.2
        · exact .inr (by rw [al_cons_ne (Ne.symm e2), al_cons_ne (Ne.symm e1)])
    | cons c q ih =>
      intro p hp'
      by_cases h128 : c.toNat < 128
      · have hlt : p < sB.size := by
          rcases Nat.lt_or_ge p sB.size with h' | h'
          · exact h'
          · have e : sB.data.size = sB.size := rfl
            rw [List.drop_eq_nil_of_le (by simp; omega)] at hp'; cases hp'
        have hget : sB[p]'hlt = c := by
          have hl : p < sB.data.toList.length := by simpa using hlt
          rw [List.drop_eq_getElem_cons hl] at hp'
          injection hp' with h1 h2
        refine hmono _ _ _ _ (fun l h hw hadr => ?_) (hbody kk (L.put kk (.stringIter sB (p + 1))) (le_put hfree) c q h128 (ih (p + 1) (by rw [← List.drop_drop, hp']; rfl)))
        intro _
        rw [← hC]
        refine W0.next1 hN.2.2.2.1 (by rw [fr_len]; exact hN.2.1) (by rw [fr_len]; exact hN.2.2.1) (by rw [lget_fr hN.2.2.2.2]; exact hadr.1) hlt (by rw [hget]; exact h128) ?_
        rw [lset_fr, lset_fr, hget, hC]
        exact hw (by simp [okK, okItem, hkB, hkC, hkK])
      · exact hbig _ _ _ _ h128
  obtain ⟨l, h1, h2, h3⟩ := use kk _ (key s 0 (by simpa using hsB))
  letI : Lay := L.put kk (.stringIter sB 0)
  exact W0.same (wk_toldA h3) (W0.block (W0.loop (h1 h2 hkL)))
end
end Go.Av

