import Derived.Test.YtmedpledgchipaaGreatDoorAv1
import Derived.Laws.BytesArg
import Derived.Laws.IdiomStrings
set_option linter.unusedSectionVars false
set_option linter.unusedVariables false
set_option linter.unusedSimpArgs false
set_option linter.unnecessarySimpa false
namespace Go.Av
open Go
theorem kind_str {P : Program} {t : TypeId} (h : kindOf P t = 1) : P.underlying t = some .string := by
  unfold kindOf at h; split at h <;> simp_all
theorem kind_sl {P : Program} {t : TypeId} (h : kindOf P t = 2) : ∃ e, P.underlying t = some (.slice e) := by
  unfold kindOf at h; split at h <;> simp_all
theorem kind_int {P : Program} {t : TypeId} (h : kindOf P t = 4) : ∃ k, P.underlying t = some (.int k) := by
  unfold kindOf at h; split at h <;> simp_all
theorem el_of {P : Program} {t : TypeId} {e : El} (h : elOf P t = some e) : P.underlying t = some (.slice e.t) ∧ szOf P e.t = some e.sz ∧ aggOf P e.t = some e.ag ∧ bytesOf? P e.t = some e.by_ ∧ ∃ z, zeroOf P e.t = some z := by
 unfold elOf at h
 split at h
 ·rename_i e' hu
  split at h
  ·rename_i s a b h1 h2 h3
   split at h
   ·rename_i hz; cases h; exact ⟨hu, h1, h2, h3, Option.isSome_iff_exists.1 hz⟩
   ·cases h
  ·cases h
 ·cases h
theorem fld_of {P : Program} {t : TypeId} {f off sz : Nat} {ag : Bool} (h : fldOf P t f = some (off, sz, ag)) : ∃ fs x, P.underlying t = some (.struct fs) ∧ fs[f]? = some x ∧ x.offset = off ∧ szOf P x.type = some sz ∧ aggOf P x.type = some ag := by
 unfold fldOf at h
 split at h
 ·rename_i fs hu
  split at h
  ·rename_i x hx
   split at h
   ·rename_i s a h1 h2
    cases h; exact ⟨fs, x, hu, hx, rfl, h1, h2⟩
   ·cases h
  ·cases h
 ·cases h
section
variable {P : Program} {all : List Oper} {dst : Option Nat} {ty : TypeId} {pos : String} {after : Array Edge} {gd : Option (Nat × Bool)} {tm : List AV} {hp : Heap} {g : Gh} {a : Array Value} {w : World}
theorem bool_inv {b : Bool} {v : Value} (h : VR g (.bool b) v) : v = .bool b := by cases h; rfl
theorem int_inv {k : IntKind} {n : Int} {v : Value} (h : VR g (.int k n) v) : v = .int k n ∧ k.min ≤ n ∧ n ≤ k.max := by cases h; rename_i h1 h2; exact ⟨rfl, h1, h2⟩
theorem str_inv {s : List UInt8} {v : Value} (h : VR g (.str s) v) : ∃ b : ByteArray, v = .string b ∧ b.data.toList = s ∧ s.length ≤ maxB := by cases h; rename_i b h1 h2; exact ⟨b, rfl, h1, h2⟩
theorem fn_inv {f : Fn} {l1 l2 : List AV} {v : Value} (h : VR g (.fn f l1 l2) v) : ∃ a1 a2 : Array Value, v = .func f a1 a2 ∧ l1.length = a1.size ∧ l2.length = a2.size ∧ (∀ (j : Nat) (av : AV) (v : Value), l1[j]? = some av → a1[j]? = some v → VR g av v) ∧ (∀ (j : Nat) (av : AV) (v : Value), l2[j]? = some av → a2[j]? = some v → VR g av v) := by
 cases h; exact ⟨_, _, rfl, by assumption, by assumption, by assumption, by assumption⟩
theorem tup_inv {l : List AV} {v : Value} (h : VR g (.tup l) v) : ∃ vs : Array Value, v = .tuple vs ∧ l.length = vs.size ∧ ∀ (j : Nat) (av : AV) (v : Value), l[j]? = some av → vs[j]? = some v → VR g av v := by
 cases h; exact ⟨_, rfl, by assumption, by assumption⟩
theorem agg_inv {l : List AV} {v : Value} (h : VR g (.agg l) v) : ∃ vs : Array Value, v = .agg vs ∧ l.length = vs.size ∧ ∀ (j : Nat) (av : AV) (v : Value), l[j]? = some av → vs[j]? = some v → VR g av v := by
 cases h; exact ⟨_, rfl, by assumption, by assumption⟩
theorem op_pick {c x y : Operand} (h : Rel g tm hp a w) (h0 : okOpd c = true) (hx : okOpd x = true) (hy : okOpd y = true) (hc : ∀ c', (opM P all ⟨dst, .pick c x y, ty, pos, after, gd⟩ tm hp).c = some c' → c') :
  OpOk P ⟨dst, .pick c x y, ty, pos, after, gd⟩ (opM P all ⟨dst, .pick c x y, ty, pos, after, gd⟩ tm hp) hp g a w := by
 have hv := opv_VR h h0
 simp only [opM] at *
 have hk := needB_of hc
 cases hb : opv tm c with
 | bool b =>
  rw [hb] at hv
  have e := bool_inv hv
  obtain ⟨kx, tx, _⟩ := opv_tail h (x := x)
  obtain ⟨ky, ty', _⟩ := opv_tail h (x := y)
  cases b with
  | true => exact OpOk.pure h (Act.eval ⟨a, []⟩ x) rfl rfl (by simp [execOp, e, asBool]) (opv_VR h hx).un (fun k => tx.un)
  | false => exact OpOk.pure h (Act.eval ⟨a, []⟩ y) rfl rfl (by simp [execOp, e, asBool]) (opv_VR h hy).un (fun k => ty'.un)
 | _ => simp [hb] at hk
theorem op_nilCheck {x : Operand} (h : Rel g tm hp a w) (hx : okOpd x = true) (hc : ∀ c', (opM P all ⟨dst, .nilCheck x, ty, pos, after, gd⟩ tm hp).c = some c' → c') :
  OpOk P ⟨dst, .nilCheck x, ty, pos, after, gd⟩ (opM P all ⟨dst, .nilCheck x, ty, pos, after, gd⟩ tm hp) hp g a w := by
 have hv := opv_VR h hx
 simp only [opM] at *
 split at hc
 ·rename_i id off e
  rw [e] at hv
  obtain ⟨b, base, c, hloc, hve⟩ := ptr_inv hv
  exact OpOk.pure h _ rfl rfl (by simp [execOp, hve]) (hve ▸ hv) (fun k => Tail.meek (by intro l; simp))
 ·rename_i cs e
  rw [e] at hv
  obtain ⟨b, o, vs, hve, _⟩ := ip_inv hv
  exact OpOk.pure h _ rfl rfl (by simp [execOp, hve]) (hve ▸ hv) (fun k => Tail.meek (by intro l; simp))
 ·rename_i f l1 l2 e
  split at hc
  ·rename_i k
   rw [e] at hv
   obtain ⟨a1, a2, hve, _⟩ := fn_inv hv
   exact OpOk.pure h _ rfl rfl (by simp [execOp, hve]) (hve ▸ hv) (fun k => Tail.meek (by intro l; simp))
  ·exact OpOk.bad hc rfl
 ·exact OpOk.bad hc rfl
theorem wrap_range (k : IntKind) (n : Int) : k.min ≤ k.wrap n ∧ k.wrap n ≤ k.max := by
  cases k <;> simp only [IntKind.min, IntKind.max, IntKind.wrap, IntKind.signed, IntKind.bits] <;> constructor <;> (try split) <;> simp_all <;> omega
theorem op_unOp {op : UnOp} {t : TypeId} {x : Operand} (h : Rel g tm hp a w) (hx : okOpd x = true) (hc : ∀ c', (opM P all ⟨dst, .unOp op t x, ty, pos, after, gd⟩ tm hp).c = some c' → c') :
    OpOk P ⟨dst, .unOp op t x, ty, pos, after, gd⟩ (opM P all ⟨dst, .unOp op t x, ty, pos, after, gd⟩ tm hp) hp g a w := by
  have hv := opv_VR h hx
  simp only [opM] at *
  have hk := needB_of hc
  clear hc
  cases hb : opv tm x with
  | bool b =>
    rw [hb] at hv hk
    have e := bool_inv hv
    cases op with
    | not => exact OpOk.pure h (.bool (!b)) rfl rfl (by simp [execOp, e, Op.unary]) .bool (fun k => Tail.meek (by intro l; simp [unv]))
    | _ => simp [unv, known] at hk
  | int k n =>
    rw [hb] at hv hk
    obtain ⟨e, h1, h2⟩ := int_inv hv
    cases op with
    | neg => exact OpOk.pure h (.int k (k.wrap (0 - n))) rfl rfl (by simp [execOp, e, Op.unary, Op.intArith]) (.int (wrap_range _ _).1 (wrap_range _ _).2) (fun k => Tail.meek (by intro l; simp [unv]))
    | xor => exact OpOk.pure h (.int k (bitv .xor k (if k.signed then -1 else k.max) n)) rfl rfl (by simp [execOp, e, Op.unary, Op.intBits, bitv]) (.int (wrap_range _ _).1 (wrap_range _ _).2) (fun k => Tail.meek (by intro l; simp [unv]))
    | _ => simp [unv, known] at hk
  | _ => rw [hb] at hk; cases op <;> simp [unv, known] at hk
theorem op_makeInterface {t : TypeId} {x : Operand} (h : Rel g tm hp a w) (hx : okOpd x = true) (hc : ∀ c', (opM P all ⟨dst, .makeInterface t x, ty, pos, after, gd⟩ tm hp).c = some c' → c') :
    OpOk P ⟨dst, .makeInterface t x, ty, pos, after, gd⟩ (opM P all ⟨dst, .makeInterface t x, ty, pos, after, gd⟩ tm hp) hp g a w := by
  have hv := (opv_VR h hx).fix
  simp only [opM] at *
  have hk := needB_of hc
  refine OpOk.pure h (.iface t (Act.eval ⟨a, []⟩ x)) rfl rfl ?_ (.iface hv) (fun k => Tail.meek (by intro l; simp))
  unfold kindOf at hk
  cases hu : P.underlying t with
  | none => simp [hu] at hk
  | some d =>
    cases d <;> simp [hu] at hk <;> simp [execOp, Instr.makeInterface, run_underlying hu]
theorem op_fieldAddr {t : TypeId} {x : Operand} {f : Nat} (h : Rel g tm hp a w) (hx : okOpd x = true) (hc : ∀ c', (opM P all ⟨dst, .fieldAddr t x f, ty, pos, after, gd⟩ tm hp).c = some c' → c') :
  OpOk P ⟨dst, .fieldAddr t x f, ty, pos, after, gd⟩ (opM P all ⟨dst, .fieldAddr t x f, ty, pos, after, gd⟩ tm hp) hp g a w := by
 have hv := opv_VR h hx
 simp only [opM] at *
 split at hc
 ·rename_i off sz ag id o' h1 h2
  have hk := needB_of hc
  simp only [decide_eq_true_eq] at hk
  obtain ⟨fs, fx, hu, hf, rfl, hs, _⟩ := fld_of h1
  rw [h2] at hv
  obtain ⟨b, base, c, hloc, hve⟩ := ptr_inv hv
  refine OpOk.pure h (.pointer (some ⟨b, base + (o' + fx.offset), none⟩)) rfl rfl ?_ (.ptr hloc) (fun k => Tail.meek (by intro l; simp))
  have h0 : ¬ sz = 0 := by omega
  simp [execOp, Instr.fieldAt, run_underlying hu, hf, hve, Instr.sureAddr, fieldPlace, run_sz w hs, h0, addr_add, Nat.add_assoc]
 ·rename_i off sz ag cs h1 h2
  have hk := needB_of hc
  simp only [decide_eq_true_eq] at hk
  obtain ⟨fs, fx, hu, hf, rfl, hs, _⟩ := fld_of h1
  rw [h2] at hv
  obtain ⟨b, o, vs, hve, hn, hi, hvv⟩ := ip_inv hv
  refine OpOk.pure h (.pointer (some ⟨b, o + fx.offset, none⟩)) rfl rfl ?_ ?_ (fun k => Tail.meek (by intro l; simp))
  ·have h0 : ¬ sz = 0 := by omega
   simp [execOp, Instr.fieldAt, run_underlying hu, hf, hve, Instr.sureAddr, fieldPlace, run_sz w hs, h0, addr_add]
  ·show VR g (.ip (ldrop fx.offset cs)) _
   rw [ldrop_eq]
   refine .ip (fun j => vs (fx.offset + j)) (fun x hx => hn x (List.mem_of_mem_drop hx)) (fun j x hj => ?_) (fun j x hj => ?_)
   ·rw [List.getElem?_drop] at hj; rw [Nat.add_assoc]; exact hi _ x hj
   ·rw [List.getElem?_drop] at hj; exact hvv _ x hj
 ·exact OpOk.bad hc rfl
theorem op_extract {x : Operand} {i : Nat} (h : Rel g tm hp a w) (hx : okOpd x = true) (hc : ∀ c', (opM P all ⟨dst, .extract x i, ty, pos, after, gd⟩ tm hp).c = some c' → c') :
  OpOk P ⟨dst, .extract x i, ty, pos, after, gd⟩ (opM P all ⟨dst, .extract x i, ty, pos, after, gd⟩ tm hp) hp g a w := by
 have hv := opv_VR h hx
 simp only [opM] at *
 have hk := needB_of hc
 cases hb : opv tm x with
 | tup l =>
  rw [hb] at hv hk
  simp only [extC, decide_eq_true_eq] at hk
  obtain ⟨vs, e, hl, hvs⟩ := tup_inv hv
  have hi : i < vs.size := by omega
  refine OpOk.pure h vs[i] rfl rfl ?_ (hvs i _ _ (lget_some hk) (Array.getElem?_eq_getElem hi)).fix (fun k => Tail.meek (meek_fix _))
  simp [execOp, Instr.extract, e, hi]
 | _ => rw [hb] at hk; simp [extC] at hk
theorem op_field {t : TypeId} {x : Operand} {f : Nat} (h : Rel g tm hp a w) (hx : okOpd x = true) (hc : ∀ c', (opM P all ⟨dst, .field t x f, ty, pos, after, gd⟩ tm hp).c = some c' → c') :
  OpOk P ⟨dst, .field t x f, ty, pos, after, gd⟩ (opM P all ⟨dst, .field t x f, ty, pos, after, gd⟩ tm hp) hp g a w := by
 have hv := opv_VR h hx
 simp only [opM] at *
 split at hc
 ·rename_i off sz cs h1 h2
  have hk := needB_of hc
  simp only [decide_eq_true_eq] at hk
  obtain ⟨fs, fx, hu, hf, rfl, hs, hag⟩ := fld_of h1
  rw [h2] at hv
  obtain ⟨vs, e, hl, hvs⟩ := agg_inv hv
  refine OpOk.pure h (.agg (vs.extract fx.offset (fx.offset + sz))) rfl rfl ?_ ?_ (fun k => Tail.meek (by intro l; simp))
  ·simp [execOp, Instr.field, run_underlying hu, hf, e, asAgg, part, run_ag w hag, run_sz w hs]
  ·show VR g (.agg (ltake sz (ldrop fx.offset cs))) _
   rw [ltake_eq, ldrop_eq]
   refine .agg (by simp; omega) (fun j av v h1 h2 => ?_)
   have hj : j < sz := by have := (List.getElem?_eq_some_iff.1 h1).1; simp at this; omega
   rw [List.getElem?_take_of_lt hj, List.getElem?_drop] at h1
   rw [Array.getElem?_extract] at h2
   split at h2
   ·exact hvs _ _ _ h1 h2
   ·cases h2
 ·rename_i off sz cs h1 h2
  have hk := needB_of hc
  simp only [decide_eq_true_eq] at hk
  obtain ⟨fs, fx, hu, hf, rfl, hs, hag⟩ := fld_of h1
  rw [h2] at hv
  obtain ⟨vs, e, hl, hvs⟩ := agg_inv hv
  have hi : fx.offset < vs.size := by omega
  refine OpOk.pure h vs[fx.offset] rfl rfl ?_ (hvs _ _ _ (lget_some hk) (Array.getElem?_eq_getElem hi)).fix (fun k => Tail.meek (meek_fix _))
  simp [execOp, Instr.field, run_underlying hu, hf, e, asAgg, part, run_ag w hag, hi]
 ·exact OpOk.bad hc rfl
end
end Go.Av

namespace Go.Av
open Go
theorem flat_len {l : List AV} {es : Nat} (h : ∀ x, x ∈ l → x.cells.length = es) : (l.flatMap AV.cells).length = l.length * es := by
 induction l with
 | nil => simp
 | cons x l ih => simp [List.flatMap_cons, h x (by simp), ih (fun y hy => h y (by simp [hy])), Nat.add_mul, Nat.add_comm]
theorem flat_get {l : List AV} {es : Nat} (h : ∀ x, x ∈ l → x.cells.length = es) : ∀ (i j : Nat) x, l[i]? = some x → j < es → (l.flatMap AV.cells)[i * es + j]? = x.cells[j]? := by
 induction l with
 | nil => intro i j x hx; simp at hx
 | cons y l ih =>
  intro i j x hx hj
  have hy := h y (by simp)
  rw [List.flatMap_cons]
  cases i with
  | zero => simp at hx; subst hx; rw [List.getElem?_append_left (by omega)]; simp
  | succ i =>
   rw [List.getElem?_append_right (by rw [hy, Nat.add_mul]; omega)]
   have : (i + 1) * es + j - y.cells.length = i * es + j := by rw [hy, Nat.add_mul]; omega
   rw [this]
   exact ih (fun z hz => h z (by simp [hz])) i j x (by simpa using hx) hj
theorem flat_take (l : List AV) (es : Nat) (h : ∀ x, x ∈ l → x.cells.length = es) (n : Nat) : (l.take n).flatMap AV.cells = (l.flatMap AV.cells).take (n * es) := by
 induction l generalizing n with
 | nil => simp
 | cons x l ih =>
  cases n with
  | zero => simp
  | succ n =>
   have hx := h x (by simp)
   rw [List.take_succ_cons, List.flatMap_cons, List.flatMap_cons, ih (fun y hy => h y (by simp [hy])), List.take_append, hx]
   have : (n + 1) * es - es = n * es := by rw [Nat.add_mul]; omega
   rw [this, List.take_of_length_le (l := x.cells) (by rw [hx, Nat.add_mul]; omega)]
theorem flat_drop (l : List AV) (es : Nat) (h : ∀ x, x ∈ l → x.cells.length = es) (n : Nat) : (l.drop n).flatMap AV.cells = (l.flatMap AV.cells).drop (n * es) := by
 induction l generalizing n with
 | nil => simp
 | cons x l ih =>
  cases n with
  | zero => simp
  | succ n =>
   have hx := h x (by simp)
   rw [List.drop_succ_cons, List.flatMap_cons, ih (fun y hy => h y (by simp [hy])), List.drop_append, hx]
   have : (n + 1) * es - es = n * es := by rw [Nat.add_mul]; omega
   rw [this, List.drop_of_length_le (l := x.cells) (by rw [hx, Nat.add_mul]; omega)]; simp
theorem u8_range (c : UInt8) : IntKind.u8.min ≤ (c.toNat : Int) ∧ (c.toNat : Int) ≤ IntKind.u8.max := by
  have := c.toNat_lt
  simp only [IntKind.min, IntKind.max, IntKind.signed, IntKind.bits]
  constructor <;> simp <;> omega
theorem sl_inv {g : Gh} {own : Option (Option ETy)} {l : List AV} {v : Value} (h : VR g (.sl own l) v) : ∃ (ad : Option Addr) (cap b o es : Nat) (vs : Nat → Value), v = .slice ad l.length cap ∧ l.length ≤ cap ∧ l.length ≤ maxB ∧ (l ≠ [] → ad = some ⟨b, o, none⟩) ∧
  (∀ x, x ∈ l → x.cells.length = es) ∧ 0 < es ∧ (∀ x, x ∈ l → ∀ c, c ∈ x.cells → noRef c = true) ∧ (∀ (j : Nat) (av : AV), (l.flatMap AV.cells)[j]? = some av → g.ow b (o + j) = .imm (vs j)) ∧ (∀ (j : Nat) (av : AV), (l.flatMap AV.cells)[j]? = some av → VR g av (vs j)) := by
 cases h with
 | sl hl hc hb b o es vs ha hes h0 hn hi hv hq => subst hl; exact ⟨_, _, b, o, es, vs, rfl, hc, hb, ha, hes, h0, hn, hi, hv⟩
section
variable {P : Program} {all : List Oper} {dst : Option Nat} {ty : TypeId} {pos : String} {after : Array Edge} {gd : Option (Nat × Bool)} {tm : List AV} {hp : Heap} {g : Gh} {a : Array Value} {w : World}
theorem rs_inv {id off len es : Nat} {ag full : Bool} {v : Value} (h : VR g (.rs id off len es ag full) v) : ∃ ad b base c cp, g.loc id = some (b, base, c) ∧ v = .slice ad len cp ∧ (0 < cp → ad = some ⟨b, base + off, none⟩) ∧ 0 < es ∧ len ≤ cp ∧ (full = true → cp = len) ∧ off + cp * es ≤ c ∧ len ≤ maxB := by
 cases h with
 | rs hloc ha h0 h1 hf h2 hb => exact ⟨_, _, _, _, _, hloc, rfl, ha, h0, h1, hf, h2, hb⟩
theorem op_indexAddr {t : TypeId} {x i : Operand} (h : Rel g tm hp a w) (hx : okOpd x = true) (hi : okOpd i = true) (hc : ∀ c', (opM P all ⟨dst, .indexAddr t x i, ty, pos, after, gd⟩ tm hp).c = some c' → c') :
    OpOk P ⟨dst, .indexAddr t x i, ty, pos, after, gd⟩ (opM P all ⟨dst, .indexAddr t x i, ty, pos, after, gd⟩ tm hp) hp g a w := by
  have hv := opv_VR h hx
  have hvi := opv_VR h hi
  simp only [opM] at *
  split at hc
  · rename_i e he
    obtain ⟨hu, hs, hag, _⟩ := el_of he
    have hk := hc _ rfl
    clear hc
    cases hb : opv tm i with
    | int k n =>
      rw [hb] at hvi hk
      obtain ⟨ei, _, _⟩ := int_inv hvi
      cases hb2 : opv tm x with
      | sl own l =>
        rw [hb2] at hv hk
        simp only [iadC] at hk
        obtain ⟨hk1, hk2, hk3⟩ := hk
        obtain ⟨ad, cap, b, o, es, vs, hve, hcap, hlm, had, hes, h0, hn, him, hvv⟩ := sl_inv hv
        have hlt : n.toNat < l.length := by omega
        have hx' : l[n.toNat]? = some (l.getD n.toNat .any) := by simp [List.getD_eq_getElem?_getD, List.getElem?_eq_getElem hlt]
        have hmem := List.mem_of_getElem? hx'
        have hes' := hes _ hmem
        have ha := had (by intro e; subst e; simp at hlt)
        have hz : es = e.sz := by omega
        refine OpOk.pure h (.pointer (some ⟨b, o + n.toNat * es, none⟩)) rfl rfl ?_ ?_ (fun k => Tail.meek (by intro l; simp [iadV]))
        · simp [execOp, Instr.indexAt, ei, asIntOf, hve, ha, run_underlying hu, hk1, hk2, run_sz w hs, addr_add, hz]
        · show VR g (.ip ((l.getD n.toNat .any).cells)) _
          refine .ip (fun j => vs (n.toNat * es + j)) (fun c hc => hn _ hmem c hc) (fun j c hj => ?_) (fun j c hj => ?_)
          · have hj' : j < es := by rw [← hes']; exact (List.getElem?_eq_some_iff.1 hj).1
            rw [Nat.add_assoc]; exact him _ c (by rw [flat_get hes _ _ _ hx' hj']; exact hj)
          · have hj' : j < es := by rw [← hes']; exact (List.getElem?_eq_some_iff.1 hj).1
            exact hvv _ c (by rw [flat_get hes _ _ _ hx' hj']; exact hj)
      | rs id off len es ag full =>
        rw [hb2] at hv hk
        simp only [iadC] at hk
        obtain ⟨hk1, hk2, hk3⟩ := hk
        obtain ⟨ad, b, base, c, cp, hloc, hve, hade, h0, h1, hf, h2, hlm⟩ := rs_inv hv
        obtain rfl := hade (by omega)
        refine OpOk.pure h (.pointer (some ⟨b, base + (off + n.toNat * es), none⟩)) rfl rfl ?_ (.ptr hloc) (fun k => Tail.meek (by intro l; simp [iadV]))
        simp [execOp, Instr.indexAt, ei, asIntOf, hve, run_underlying hu, hk1, hk2, run_sz w hs, addr_add, hk3, Nat.add_assoc]
      | _ => rw [hb2] at hk; exact hk.elim
    | _ => rw [hb] at hk; cases hb2 : opv tm x <;> rw [hb2] at hk <;> exact hk.elim
  · split at hc
    · rename_i ns hns
      have hk := hc _ rfl
      clear hc
      unfold arrE at hns
      split at hns
      · rename_i n1 e hu
        rw [Option.map_eq_some_iff] at hns
        obtain ⟨s, hs, rfl⟩ := hns
        cases hb : opv tm i with
        | int k n =>
          rw [hb] at hvi hk
          obtain ⟨ei, _, _⟩ := int_inv hvi
          cases hb2 : opv tm x with
          | ptr id off =>
            rw [hb2] at hv hk
            simp only [aadC] at hk
            obtain ⟨hk1, hk2⟩ := hk
            obtain ⟨b, base, c, hloc, hve⟩ : ∃ b base c, g.loc id = some (b, base, c) ∧ Act.eval ⟨a, []⟩ x = .pointer (some ⟨b, base + off, none⟩) := by
              generalize Act.eval ⟨a, []⟩ x = u at hv
              cases hv with
              | ptr hloc => exact ⟨_, _, _, hloc, rfl⟩
            refine OpOk.pure h (.pointer (some ⟨b, base + (off + n.toNat * s), none⟩)) rfl rfl ?_ (.ptr hloc) (fun k => Tail.meek (by intro oe l; simp [aadV]))
            simp [execOp, Instr.indexAt, Instr.sureAddr, ei, asIntOf, hve, run_underlying hu, hk1, hk2, run_sz w hs, addr_add, Nat.add_assoc]
          | _ => rw [hb2] at hk; exact hk.elim
        | _ => rw [hb] at hk; cases hb2 : opv tm x <;> rw [hb2] at hk <;> exact hk.elim
      · cases hns
    · exact OpOk.bad hc rfl
theorem op_index {t : TypeId} {x i : Operand} (h : Rel g tm hp a w) (hx : okOpd x = true) (hi : okOpd i = true) (hc : ∀ c', (opM P all ⟨dst, .index t x i, ty, pos, after, gd⟩ tm hp).c = some c' → c') :
    OpOk P ⟨dst, .index t x i, ty, pos, after, gd⟩ (opM P all ⟨dst, .index t x i, ty, pos, after, gd⟩ tm hp) hp g a w := by
  have hv := opv_VR h hx
  have hvi := opv_VR h hi
  simp only [opM] at *
  split at hc
  · rename_i n hn
    have hk := hc _ rfl
    clear hc
    unfold arrOf at hn
    split at hn
    · rename_i n' e hu
      split at hn
      · rename_i hs hag
        cases hn
        cases hb : opv tm i with
        | int k m =>
          rw [hb] at hvi hk
          obtain ⟨ei, _, _⟩ := int_inv hvi
          cases hb2 : opv tm x with
          | agg cs =>
            rw [hb2] at hv hk
            obtain ⟨k1, k2, k3⟩ := hk
            obtain ⟨vs, e', hl, hvs⟩ := agg_inv hv
            have hi : m.toNat < vs.size := by omega
            refine OpOk.pure h vs[m.toNat] rfl rfl ?_ (hvs _ _ _ (lget_some (by omega)) (Array.getElem?_eq_getElem hi)).fix (fun k => Tail.meek (meek_fix _))
            have hlt : m < n := by omega
            simp [execOp, Instr.index, ei, asIntOf, e', run_underlying hu, k1, hlt, part, run_ag w hag, run_sz w hs, hi]
          | _ => rw [hb2] at hk; exact hk.elim
        | _ => rw [hb] at hk; cases hb2 : opv tm x <;> rw [hb2] at hk <;> exact hk.elim
      · cases hn
    · cases hn
  · rename_i hn
    by_cases hkd : kindOf P t = 1
    · have hu := kind_str hkd
      simp only [hkd, BEq.rfl, cond_true] at hc ⊢
      have hk := hc _ rfl
      clear hc
      cases hb : opv tm i with
      | int k n =>
        rw [hb] at hvi hk
        obtain ⟨ei, _, _⟩ := int_inv hvi
        cases hb2 : opv tm x with
        | str s =>
          rw [hb2] at hv hk
          simp only [idxC] at hk
          obtain ⟨b, e, hbs, hlm⟩ := str_inv hv
          subst hbs
          have hlt : n.toNat < b.size := by have h2 := hk.2; have h1 := hk.1; rw [Array.length_toList] at h2; show n.toNat < b.data.size; omega
          refine OpOk.pure h (.int .u8 (b[n.toNat].toNat)) rfl rfl ?_ ?_ (fun k => Tail.meek (by intro l; simp [idxV]))
          · simp [execOp, Instr.index, ei, asIntOf, e, run_underlying hu, hk.1, hlt]
          · simp only [idxV]
            have : b.data.toList.getD n.toNat 0 = b[n.toNat] := by
              have h' : n.toNat < b.data.toList.length := by simpa using hlt
              rw [List.getD_eq_getElem?_getD, List.getElem?_eq_getElem h']; rfl
            rw [this]
            exact .int (u8_range _).1 (u8_range _).2
        | _ => rw [hb2] at hk; exact hk.elim
      | _ => rw [hb] at hk; cases hb2 : opv tm x <;> rw [hb2] at hk <;> exact hk.elim
    · have : (kindOf P t == 1) = false := by simpa using hkd
      simp only [this, cond_false] at hc ⊢
      exact (hc False rfl).elim
theorem op_len {t : TypeId} {x : Operand} (h : Rel g tm hp a w) (hx : okOpd x = true) {m : MR} (hm : m = ⟨needB (lenOk (opv tm x) && (kindOf P t == 1 || kindOf P t == 2) && ((kindOf P t == 1) == (match opv tm x with | .str _ => true | _ => false))), lenv (opv tm x), tm, hp⟩) (hc : ∀ c', m.c = some c' → c') {args : Array Operand} {tys : Array TypeId} (ha : args.toList = [x]) (ht : tys.toList = [t]) :
  OpOk P ⟨dst, .call { callee := .builtin .len, args, argTypes := tys }, ty, pos, after, gd⟩ m hp g a w := by
 subst hm
 have hv := opv_VR h hx
 have hk := needB_of hc
 clear hc
 have ha' : args = #[x] := by rw [← Array.toList_inj]; simpa using ha
 have ht' : tys = #[t] := by rw [← Array.toList_inj]; simpa using ht
 subst ha' ht'
 simp only [Bool.and_eq_true, Bool.or_eq_true, beq_iff_eq] at hk
 obtain ⟨⟨hk1, hk2⟩, hk3⟩ := hk
 have hmx : (maxB : Int) ≤ IntKind.i64.max := by simp [maxB, IntKind.max, IntKind.signed, IntKind.bits]
 have hmn : IntKind.i64.min ≤ 0 := by simp [IntKind.min, IntKind.signed, IntKind.bits]
 have fin : ∀ (n : Nat), n ≤ maxB → lenv (opv tm x) = .int .i64 n → (Builtin.len_ #[t] ty #[Act.eval ⟨a, []⟩ x]).run P w = .ok (.int .i64 n) w →
   OpOk P ⟨dst, .call { callee := .builtin .len, args := #[x], argTypes := #[t] }, ty, pos, after, gd⟩ ⟨needB (lenOk (opv tm x) && (kindOf P t == 1 || kindOf P t == 2) && ((kindOf P t == 1) == (match opv tm x with | .str _ => true | _ => false))), lenv (opv tm x), tm, hp⟩ hp g a w := by
  intro n hn e hr
  have r1 : IntKind.i64.min ≤ (n : Int) := by omega
  have r2 : (n : Int) ≤ IntKind.i64.max := by omega
  refine OpOk.pure h (.int .i64 n) rfl rfl ?_ (by show VR g (lenv (opv tm x)) _; rw [e]; exact .int r1 r2) (fun k => Tail.meek (by intro oe l; show lenv (opv tm x) ≠ _; rw [e]; simp))
  simp [execOp, resolve, invoke, builtin, hr]
 cases hb : opv tm x with
 | str s =>
  rw [← hb]
  rw [hb] at hv hk3
  obtain ⟨b, e, hbs, hlm⟩ := str_inv hv
  have hu := kind_str (by simpa using hk3 : kindOf P t = 1)
  refine fin s.length hlm (by rw [hb]; rfl) ?_
  subst hbs
  simp [Builtin.len_, run_underlying hu, e, goInt]
 | sl own l =>
  rw [← hb]
  rw [hb] at hv hk3
  obtain ⟨ad, cap, b, o, es, vs, hve, hcap, hlm, had, hes, h0, hn, him, hvv⟩ := sl_inv hv
  obtain ⟨e, hu⟩ := kind_sl (by simp at hk3; rcases hk2 with hk2 | hk2; exact absurd hk2 hk3; exact hk2 : kindOf P t = 2)
  refine fin l.length hlm (by rw [hb]; rfl) ?_
  simp [Builtin.len_, run_underlying hu, hve, goInt]
 | rs id off len es ag full =>
  rw [← hb]
  rw [hb] at hv hk3
  obtain ⟨ad, b, base, c, cp, hloc, hve, hade, h0, h1, hf, h2, hlm⟩ := rs_inv hv
  obtain ⟨e, hu⟩ := kind_sl (by simp at hk3; rcases hk2 with hk2 | hk2; exact absurd hk2 hk3; exact hk2 : kindOf P t = 2)
  refine fin len hlm (by rw [hb]; rfl) ?_
  simp [Builtin.len_, run_underlying hu, hve, goInt]
 | _ => rw [hb] at hk1; simp [lenOk] at hk1
end
end Go.Av

namespace Go.Av
open Go
theorem extract_toList (s : ByteArray) (l h : Nat) : (s.extract l h).data.toList = (s.data.toList.take h).drop l := by
 have : (s.extract l h).data = s.data.extract l h := by simp
 rw [this, Array.toList_extract]
 simp [List.extract_eq_take_drop, List.drop_take]
theorem VR.part {g : Gh} {own : Option (Option ETy)} {l : List AV} {ad : Option Addr} {cap : Nat} (h : VR g (.sl own l) (.slice ad l.length cap)) (lo hi m es : Nat) (h1 : lo ≤ hi) (h2 : hi ≤ l.length) (h3 : hi ≤ m) (hes : ∀ z, z ∈ l → z.cells.length = es) :
  VR g (.sl none ((l.take hi).drop lo)) (.slice (if m = lo then ad else ad.map (·.add (lo * es))) (hi - lo) (m - lo)) := by
 obtain ⟨ad', cap', b, o, es', vs, hve, hcap, hlm, had, hes', h0, hn, him, hvv⟩ := sl_inv h
 injection hve with e1 e2 e3
 subst e1 e3
 have hfl : ((l.take hi).drop lo).flatMap AV.cells = ((l.flatMap AV.cells).take (hi * es')).drop (lo * es') := by
  rw [flat_drop _ es' (fun x hx => hes' x (List.mem_of_mem_take hx)), flat_take _ es' hes']
 have hsub : ∀ x, x ∈ (l.take hi).drop lo → x ∈ l := fun x hx => List.mem_of_mem_take (List.mem_of_mem_drop hx)
 have hget : ∀ (j : Nat) (av : AV), (((l.take hi).drop lo).flatMap AV.cells)[j]? = some av → (l.flatMap AV.cells)[lo * es' + j]? = some av := fun j av hj => by
  rw [hfl, List.getElem?_drop, List.getElem?_take] at hj
  split at hj
  ·exact hj
  ·cases hj
 refine .sl (by simp; omega) (by omega) (by omega) b (o + lo * es') es' (fun j => vs (lo * es' + j)) (fun hne => ?_) (fun x hx => hes' x (hsub x hx)) h0 (fun x hx => hn x (hsub x hx)) (fun j av hj => ?_) (fun j av hj => hvv _ av (hget j av hj)) (by simp)
 ·have hl0 : lo < hi := by
   rcases Nat.lt_or_ge lo hi with h' | h'
   ·exact h'
   ·exact absurd (by simp; omega) hne
  have hlne : l ≠ [] := by rintro rfl; simp at hne
  have hm : ¬ m = lo := by omega
  rw [if_neg hm, had hlne]
  obtain ⟨z, hz⟩ := List.exists_mem_of_ne_nil l hlne
  have : es = es' := by rw [← hes z hz, hes' z hz]
  subst this
  simp [addr_add]
 ·rw [Nat.add_assoc]; exact him _ av (hget j av hj)
section
variable {P : Program} {all : List Oper} {dst : Option Nat} {ty : TypeId} {pos : String} {after : Array Edge} {gd : Option (Nat × Bool)} {tm : List AV} {hp : Heap} {g : Gh} {a : Array Value} {w : World}
theorem low_run (h : Rel g tm hp a w) {lo : Option Operand} (hlo : ∀ x, lo = some x → okOpd x = true) {l : Int} (hl : lowOf tm lo = some l) :
  (lo = none ∧ l = 0) ∨ ∃ x k, lo = some x ∧ Act.eval ⟨a, []⟩ x = .int k l := by
 cases lo with
 | none => simp [lowOf] at hl; exact .inl ⟨rfl, hl.symm⟩
 | some x =>
  simp only [lowOf] at hl
  cases hx : opv tm x with
  | int k n =>
   rw [hx] at hl; simp at hl; subst hl
   have := opv_VR h (hlo x rfl)
   rw [hx] at this
   exact .inr ⟨x, k, rfl, (int_inv this).1⟩
  | _ => rw [hx] at hl; cases hl
theorem high_run (h : Rel g tm hp a w) {hi : Option Operand} (hhi : ∀ x, hi = some x → okOpd x = true) {len : Nat} {l : Int} (hl : highOf tm len hi = some l) :
  (hi = none ∧ l = len) ∨ ∃ x k, hi = some x ∧ Act.eval ⟨a, []⟩ x = .int k l := by
 cases hi with
 | none => simp [highOf] at hl; exact .inl ⟨rfl, hl.symm⟩
 | some x =>
  simp only [highOf] at hl
  cases hx : opv tm x with
  | int k n =>
   rw [hx] at hl; simp at hl; subst hl
   have := opv_VR h (hhi x rfl)
   rw [hx] at this
   exact .inr ⟨x, k, rfl, (int_inv this).1⟩
  | _ => rw [hx] at hl; cases hl
theorem run_bounds {isS : Bool} {len cap : Nat} (h : Rel g tm hp a w) {lo hi : Option Operand} (hlo : ∀ x, lo = some x → okOpd x = true) (hhi : ∀ x, hi = some x → okOpd x = true) {l r : Int} (hl : lowOf tm lo = some l) (hr : highOf tm len hi = some r)
    (h1 : 0 ≤ l) (h2 : l ≤ r) (h3 : r ≤ len) (hc : len ≤ cap) :
    (Instr.sliceBounds isS len cap (lo.map (Act.eval ⟨a, []⟩)) (hi.map (Act.eval ⟨a, []⟩)) none).run P w = .ok (l.toNat, r.toNat, cap) w := by
  have hr' : r ≤ cap := by omega
  have hr0 : 0 ≤ r := by omega
  rcases low_run h hlo hl with ⟨rfl, rfl⟩ | ⟨x, k, rfl, hx⟩ <;> rcases high_run h hhi hr with ⟨rfl, rfl⟩ | ⟨y, k', rfl, hy⟩
  · simp [Instr.sliceBounds]
  · simp [Instr.sliceBounds, Instr.sliceBound, asIntOf, hy, hr0, hr']
  · have : l ≤ (len : Int) := h2
    simp [Instr.sliceBounds, Instr.sliceBound, asIntOf, hx, h1, this]
  · have e : max r 0 = r := by omega
    have hn : ¬ r < l := by omega
    simp [Instr.sliceBounds, Instr.sliceBound, asIntOf, hx, hy, h1, hr0, hr', h2, e, hn]
theorem op_slice {t : TypeId} {x : Operand} {lo hi : Option Operand} (h : Rel g tm hp a w) (hx : okOpd x = true) (hlo : ∀ x, lo = some x → okOpd x = true) (hhi : ∀ x, hi = some x → okOpd x = true) (hc : ∀ c', (opM P all ⟨dst, .slice t x lo hi none, ty, pos, after, gd⟩ tm hp).c = some c' → c') :
    OpOk P ⟨dst, .slice t x lo hi none, ty, pos, after, gd⟩ (opM P all ⟨dst, .slice t x lo hi none, ty, pos, after, gd⟩ tm hp) hp g a w := by
  have hv := opv_VR h hx
  cases hb : opv tm x with
  | str s =>
    simp only [opM, hb] at *
    by_cases hkd : kindOf P t = 1
    · have hu := kind_str hkd
      simp only [hkd, BEq.rfl, cond_true] at hc ⊢
      have hk := hc _ rfl
      clear hc
      obtain ⟨b, e, hbs, hlm⟩ := str_inv hv
      unfold slc at hk
      split at hk
      · rename_i l r hl hr
        obtain ⟨k1, k2, k3⟩ := hk
        have hbl : s.length = b.size := by rw [← hbs]; simp
        rw [hbl] at hr k3
        have hrun := run_bounds (P := P) (isS := false) (len := b.size) (cap := b.size) h hlo hhi hl hr k1 k2 k3 (Nat.le_refl _)
        refine OpOk.pure h (.string (b.extract l.toNat r.toNat)) rfl rfl ?_ ?_ (fun k => Tail.meek (by intro l'; simp [slv]; split <;> simp))
        · simp [execOp, Instr.sliceAt, Instr.slice, run_underlying hu, e, hrun]
        · simp only [slv, hl, hbl, hr]
          refine .str (by rw [extract_toList, hbs]) ?_
          simp; omega
      · exact hk.elim
    · have : (kindOf P t == 1) = false := by simpa using hkd
      simp only [this, cond_false] at hc ⊢
      exact (hc False rfl).elim
  | sl own l =>
    simp only [opM, hb] at *
    split at hc
    · rename_i e he
      obtain ⟨hu, hs, hag, _⟩ := el_of he
      obtain ⟨hk, hz⟩ := hc _ rfl
      clear hc
      obtain ⟨ad, cap, b, o, es, vs, hve, hcap, hlm, had, hes, h0, hn, him, hvv⟩ := sl_inv hv
      unfold slc at hk
      split at hk
      · rename_i lo' r hl hr
        obtain ⟨k1, k2, k3⟩ := hk
        have hrun := run_bounds (P := P) (isS := true) (len := l.length) (cap := cap) h hlo hhi hl hr k1 k2 k3 hcap
        have hp' := VR.part (hve ▸ hv) lo'.toNat r.toNat cap e.sz (by omega) (by omega) (by omega) hz
        refine OpOk.pure h _ rfl rfl ?_ (by simp only [slv, hl, hr]; exact hp') (fun k => Tail.meek (by intro oe l'; simp only [slv, hl, hr]; simp))
        simp [execOp, Instr.sliceAt, Instr.slice, run_underlying hu, hve, hrun, run_sz w hs]
      · exact hk.elim
    · exact OpOk.bad hc rfl
  | _ => simp only [opM, hb] at hc; exact (hc False rfl).elim
theorem op_slice3 {t : TypeId} {x : Operand} {lo : Option Operand} {hi mx : Operand} (h : Rel g tm hp a w) (hx : okOpd x = true) (hlo : ∀ x, lo = some x → okOpd x = true) (hhi : okOpd hi = true) (hmx : okOpd mx = true) (hc : ∀ c', (opM P all ⟨dst, .slice t x lo (some hi) (some mx), ty, pos, after, gd⟩ tm hp).c = some c' → c') :
  OpOk P ⟨dst, .slice t x lo (some hi) (some mx), ty, pos, after, gd⟩ (opM P all ⟨dst, .slice t x lo (some hi) (some mx), ty, pos, after, gd⟩ tm hp) hp g a w := by
 have hv := opv_VR h hx
 cases hb : opv tm x with
 | sl own l =>
  simp only [opM, hb] at *
  split at hc
  ·rename_i e he
   obtain ⟨hu, hs, hag, _⟩ := el_of he
   obtain ⟨hk, hm, hz⟩ := hc _ rfl
   clear hc
   obtain ⟨ad, cap, b, o, es, vs, hve, hcap, hlm, had, hes, h0, hn, him, hvv⟩ := sl_inv hv
   unfold slc at hk
   split at hk
   ·rename_i lo' r hl hr
    obtain ⟨k1, k2, k3⟩ := hk
    rw [hr] at hm
    have hm' := hm.symm
    rcases high_run h (hi := some hi) (fun x e => by injection e with e; subst e; exact hhi) hr with ⟨e, _⟩ | ⟨y, ky, e, hy⟩
    ·cases e
    injection e with e; subst e
    rcases high_run h (hi := some mx) (fun x e => by injection e with e; subst e; exact hmx) hm' with ⟨e, _⟩ | ⟨z, kz, e, hzz⟩
    ·cases e
    injection e with e; subst e
    have r0 : 0 ≤ r := by omega
    have rc : r ≤ (cap : Int) := by omega
    have er : max r 0 = r := by omega
    have hnr : ¬ r < lo' := by omega
    have hrun : (Instr.sliceBounds true l.length cap (lo.map (Act.eval ⟨a, []⟩)) (some (Act.eval ⟨a, []⟩ hi)) (some (Act.eval ⟨a, []⟩ mx))).run P w = .ok (lo'.toNat, r.toNat, r.toNat) w := by
     rcases low_run h hlo hl with ⟨rfl, rfl⟩ | ⟨q, k, rfl, hq⟩
     ·simp [Instr.sliceBounds, Instr.sliceBound, asIntOf, hy, hzz, r0, rc, er, hnr]
     ·simp [Instr.sliceBounds, Instr.sliceBound, asIntOf, hq, hy, hzz, r0, rc, k1, k2, er, hnr]
    have hp' := VR.part (hve ▸ hv) lo'.toNat r.toNat r.toNat e.sz (by omega) (by omega) (by omega) hz
    refine OpOk.pure h _ rfl rfl ?_ (by simp only [slv, hl, hr]; exact hp') (fun k => by simp only [slv, hl, hr]; exact Tail.meek (by intro l; simp))
    simp [execOp, Instr.sliceAt, Instr.slice, run_underlying hu, hve, hrun, run_sz w hs]
   ·exact hk.elim
  ·exact OpOk.bad hc rfl
 | _ => simp only [opM, hb] at hc; exact (hc False rfl).elim
end
end Go.Av

namespace Go.Av
open Go
theorem run_mapM_list {α β : Type} {P : Program} (f : α → Sem β) (r : α → β) : ∀ (l : List α) (w : World), (∀ x, x ∈ l → ∀ w, (f x).run P w = .ok (r x) w) → (l.mapM f).run P w = .ok (l.map r) w
 | [], w, _ => by simp
 | x :: l, w, h => by
  have ih := run_mapM_list f r l w (fun y hy => h y (by simp [hy]))
  simp [List.mapM_cons, h x (by simp), ih]
theorem run_mapM_array {α β : Type} {P : Program} (f : α → Sem β) (r : α → β) (l : Array α) (w : World) (h : ∀ x, x ∈ l → ∀ w, (f x).run P w = .ok (r x) w) : (l.mapM f).run P w = .ok (l.map r) w := by
 have := run_mapM_list f r l.toList w (fun x hx => h x (by simpa using hx))
 rw [← Array.toArray_toList (xs := l)]
 rw [List.mapM_toArray]
 simp only [Sem.run_map, this, Result.andThen_ok, List.map_toArray]
def lay (cells : Array Value) (off : Nat) (vs : Array Value) : Array Value := vs.zipIdx.foldl (fun cs (c, j) => cs.setIfInBounds (off + j) c) cells
theorem lay_aux (off : Nat) : ∀ (vs : List Value) (k : Nat) (cells : Array Value), ((vs.zipIdx k).foldl (fun cs (x : Value × Nat) => cs.setIfInBounds (off + x.2) x.1) cells).size = cells.size ∧
  ∀ j : Nat, ((vs.zipIdx k).foldl (fun cs (x : Value × Nat) => cs.setIfInBounds (off + x.2) x.1) cells)[j]? = if off + k ≤ j ∧ j < off + k + vs.length ∧ j < cells.size then vs[j - (off + k)]? else cells[j]?
 | [], k, cells => ⟨by simp, fun j => by simp; intro h1 h2; omega⟩
 | v :: vs, k, cells => by
  obtain ⟨h1, h2⟩ := lay_aux off vs (k + 1) (cells.setIfInBounds (off + k) v)
  simp only [List.zipIdx_cons, List.foldl_cons]
  refine ⟨by rw [h1]; simp, fun j => ?_⟩
  rw [h2]
  simp only [Array.size_setIfInBounds, List.length_cons, Array.getElem?_setIfInBounds]
  by_cases e : off + k = j
  ·subst e
   rw [if_neg (by omega), if_pos rfl]
   by_cases e2 : off + k < cells.size
   ·rw [if_pos e2, if_pos (by omega)]; simp
   ·rw [if_neg e2, if_neg (by omega)]; rw [Array.getElem?_eq_none (by omega)]
  ·rw [if_neg e]
   by_cases e2 : off + (k + 1) ≤ j ∧ j < off + (k + 1) + vs.length ∧ j < cells.size
   ·rw [if_pos e2, if_pos (by omega), show j - (off + k) = (j - (off + (k+1))) + 1 by omega]; simp
   ·rw [if_neg e2, if_neg (by omega)]
theorem lay_spec (cells : Array Value) (off : Nat) (vs : Array Value) : (lay cells off vs).size = cells.size ∧ ∀ j : Nat, (lay cells off vs)[j]? = if off ≤ j ∧ j < off + vs.size ∧ j < cells.size then vs[j - off]? else cells[j]? := by
 have e : lay cells off vs = ((vs.toList.zipIdx 0).foldl (fun cs (x : Value × Nat) => cs.setIfInBounds (off + x.2) x.1) cells) := by
  unfold lay
  rw [← Array.foldl_toList]
  simp
 rw [e]
 have := lay_aux off vs.toList 0 cells
 simpa using this
theorem fill_cons (place : Nat → Option (Nat × Nat)) (cells : Array Value) (i off sz : Nat) (v : Value) (rest : List (Nat × Value)) (hp : place i = some (off, sz)) (h1 : v.cells.size = sz) (h2 : off + sz ≤ cells.size) :
  Instr.fill place cells ((i, v) :: rest) = Instr.fill place (lay cells off v.cells) rest := by
 have h3 : ¬ cells.size < off + sz := by omega
 simp [Instr.fill, hp, h1, h3, lay]
theorem zeroR {g : Gh} {z : Value} (hok : z.cells.toList.all okValC = true) : ∀ (j : Nat) (av : AV) (v : Value), (z.cells.toList.map ofValC)[j]? = some av → z.cells[j]? = some v → VR g av v := by
 intro j av v h1 h2
 simp only [List.getElem?_map, Option.map_eq_some_iff, Array.getElem?_toList] at h1
 obtain ⟨y, hy, rfl⟩ := h1
 rw [hy] at h2; cases h2
 exact okC_VR (List.all_eq_true.1 hok _ (by simpa using Array.mem_of_getElem? hy))
theorem fix_cells {g : Gh} {av : AV} {v : Value} (h : VR g av v) (hk : known av = true) (ht : ∀ l, av ≠ .tup l) : (fix av).cells.length = v.cells.size ∧ ∀ (j : Nat) (x : AV) (u : Value), (fix av).cells[j]? = some x → v.cells[j]? = some u → VR g x u := by
  cases h with
  | agg hs h => exact ⟨by simpa [fix, AV.cells, Value.cells] using hs, fun j x u h1 h2 => h j x u (by simpa [fix, AV.cells] using h1) (by simpa [Value.cells] using h2)⟩
  | any v => simp [known] at hk
  | tup _ _ => exact absurd rfl (ht _)
  | bld hloc hz hv =>
    refine ⟨by rcases hv with rfl | rfl <;> rfl, fun j x u h1 h2 => ?_⟩
    cases j with
    | succ j => simp [fix, AV.cells] at h1
    | zero =>
      rcases hv with rfl | rfl
      · simp [fix, AV.cells] at h1; simp [Value.cells] at h2; subst h1; subst h2; exact .bld hloc hz (.inl rfl)
      · simp [fix, AV.cells] at h1; simp [Value.cells] at h2; subst h1; subst h2; exact .bld hloc hz (.inr rfl)
  | _ =>
    refine ⟨rfl, fun j x u h1 h2 => ?_⟩
    cases j with
    | succ j => simp [fix, AV.cells] at h1
    | zero =>
      simp only [fix, AV.cells, Value.cells, List.getElem?_cons_zero, Option.some.injEq] at h1 h2
      simp at h2
      subst h1 h2
      constructor <;> first | assumption | simp
theorem okPart_known {v : AV} (h : okPart v = true) : known v = true ∧ ∀ l, v ≠ .tup l := by cases v <;> simp_all [okPart, known]
theorem okPart_fix {v : AV} (h : okPart (fix v) = true) : okPart v = true := by cases v <;> simp_all [okPart, fix]
section
variable {P : Program} {all : List Oper} {dst : Option Nat} {ty : TypeId} {pos : String} {after : Array Edge} {gd : Option (Nat × Bool)} {tm : List AV} {hp : Heap} {g : Gh} {a : Array Value} {w : World}
theorem partsOf_spec (h : Rel g tm hp a w) {t : TypeId} {place : Nat → Option (Nat × Nat)} (hpl0 : ∀ i off sz ag, partOf P t i = some (off, sz, ag) → place i = some (off, sz)) : ∀ (ps : List (Nat × Operand)) (l : List (Nat × Nat × AV)), (∀ p, p ∈ ps → okOpd p.2 = true) → partsOf P t tm ps = some l →
  ∀ (z : List AV) (cells : Array Value), z.length = cells.size → (∀ (j : Nat) (av : AV) (v : Value), z[j]? = some av → cells[j]? = some v → VR g av v) → okParts z.length l = true →
  ∃ cells', Instr.fill place cells (ps.map fun p => (p.1, Act.eval ⟨a, []⟩ p.2)) = some cells' ∧ (fillv z l).length = cells'.size ∧ ∀ (j : Nat) (av : AV) (v : Value), (fillv z l)[j]? = some av → cells'[j]? = some v → VR g av v
 | [], l, _, hl, z, cells, h1, h2, _ => by
  simp [partsOf] at hl; subst hl
  exact ⟨cells, by simp [Instr.fill], h1, h2⟩
 | (i, x) :: ps, l, hx, hl, z, cells, h1, h2, h3 => by
  simp only [partsOf] at hl
  split at hl
  ·rename_i off sz ag l' hf hl'
   cases hl
   simp only [okParts, Bool.and_eq_true, beq_iff_eq, decide_eq_true_eq] at h3
   obtain ⟨⟨⟨h3, h4⟩, h5⟩, h6⟩ := h3
   have hv : VR g (opv tm x) (Act.eval ⟨a, []⟩ x) := opv_VR h (x := x) (hx (i, x) (by simp))
   obtain ⟨hk1, hk2⟩ := okPart_known h3
   obtain ⟨c1, c2⟩ := fix_cells hv hk1 hk2
   have hpl : place i = some (off, sz) := hpl0 _ _ _ _ hf
   have hc := fill_cons place cells i off sz (Act.eval ⟨a, []⟩ x) (ps.map fun p => (p.1, Act.eval ⟨a, []⟩ p.2)) hpl (by omega) (by omega)
   obtain ⟨l1, l2⟩ := lay_spec cells off (Act.eval ⟨a, []⟩ x).cells
   obtain ⟨cells', r1, r2, r3⟩ := partsOf_spec h hpl0 ps l' (fun p hp => hx p (by simp [hp])) hl' (lput z off (fix (opv tm x)).cells) (lay cells off (Act.eval ⟨a, []⟩ x).cells) (by rw [lput_length, l1, h1]) (fun j av v hj hv' => by
    rw [lput_get] at hj
    rw [l2] at hv'
    by_cases e : off ≤ j ∧ j < off + (fix (opv tm x)).cells.length ∧ j < z.length
    ·rw [if_pos e] at hj
     rw [if_pos (by omega)] at hv'
     exact c2 _ _ _ hj hv'
    ·rw [if_neg e] at hj
     rw [if_neg (by omega)] at hv'
     exact h2 _ _ _ hj hv') (by rw [lput_length]; exact h6)
   exact ⟨cells', by simp only [List.map_cons]; rw [hc, r1], by simpa [fillv] using r2, by simpa [fillv] using r3⟩
  ·cases hl
theorem op_build {t : TypeId} {ps : Array (Nat × Operand)} (h : Rel g tm hp a w) (hx : ∀ p, p ∈ ps.toList → okOpd p.2 = true) (hc : ∀ c', (opM P all ⟨dst, .build t ps, ty, pos, after, gd⟩ tm hp).c = some c' → c') :
    OpOk P ⟨dst, .build t ps, ty, pos, after, gd⟩ (opM P all ⟨dst, .build t ps, ty, pos, after, gd⟩ tm hp) hp g a w := by
  simp only [opM] at *
  split at hc
  · rename_i z l hz hl
    have hk := needB_of hc
    simp only [Bool.and_eq_true] at hk
    obtain ⟨hk1, hk2⟩ := hk
    obtain ⟨i, zz, hi, hzz, hok, hsz, rfl⟩ := zero_of hz
    unfold allFld at hk2
    split at hk2
    · rename_i fs hu
      have hpl0 : ∀ i off sz ag, partOf P t i = some (off, sz, ag) → (fun i => (fs.map fun f => (f.offset, P.cellsOf f.type))[i]?) i = some (off, sz) := fun i off sz ag hf => by
        unfold partOf at hf
        rw [hu] at hf
        obtain ⟨fs', fx, hu', hfx, rfl, hs, hag⟩ := fld_of hf
        rw [hu] at hu'; injection hu' with hu'; injection hu' with hu'; subst hu'
        obtain ⟨ii, hii, e⟩ := info_of_sz hs
        simp [hfx, Program.cellsOf, hii, e]
      have hz2 : ∀ (Z : List AV), (Z = zz.cells.toList.map ofValC ∨ Z = (zz.cells.toList.map ofValC).map opn) → Z.length = zz.cells.size ∧ ∀ (j : Nat) (av : AV) (v : Value), Z[j]? = some av → zz.cells[j]? = some v → VR g av v := by
        rintro Z (rfl | rfl)
        · exact ⟨by simp, zeroR hok⟩
        · refine ⟨by simp, fun j av v h1 h2 => ?_⟩
          rw [List.getElem?_map, Option.map_eq_some_iff] at h1
          obtain ⟨y, hy, rfl⟩ := h1
          have hr := zeroR (g := g) hok j y v hy h2
          rw [List.getElem?_map, Option.map_eq_some_iff] at hy
          obtain ⟨u, hu1, rfl⟩ := hy
          have : u = v := by rw [Array.getElem?_toList, h2] at hu1; exact (Option.some.inj hu1).symm
          subst this
          have hopn : opn (ofValC u) = ofValC u ∨ (u = .slice none 0 0 ∧ opn (ofValC u) = .sl (some none) []) := by
            unfold ofValC
            split <;> first | exact .inl rfl | exact .inr ⟨rfl, rfl⟩
          rcases hopn with e | ⟨rfl, e⟩
          · rw [e]; exact hr
          · rw [e]; exact .sl rfl (Nat.le_refl _) (Nat.zero_le _) 0 0 1 (fun _ => undef) (by simp) (by simp) (by omega) (by simp) (by simp) (by simp) (fun _ _ => ⟨rfl, .inl rfl⟩)
      obtain ⟨hz3, hz4⟩ := hz2 (bif kept all dst then (zz.cells.toList.map ofValC).map opn else zz.cells.toList.map ofValC) (by cases kept all dst <;> simp)
      obtain ⟨cells', r1, r2, r3⟩ := partsOf_spec (P := P) h hpl0 ps.toList l hx hl _ zz.cells hz3 hz4 (by rw [hz3]; simpa using hk1)
      refine OpOk.pure h (.agg cells') rfl rfl ?_ (.agg r2 r3) (fun k => Tail.meek (by intro l; simp))
      have hm := run_mapM_array (P := P) (fun f : Field => (do pure (f.offset, ← sizeOf f.type) : Sem (Nat × Nat))) (fun f => (f.offset, P.cellsOf f.type)) fs w (fun x hx w => by
        have := List.all_eq_true.1 hk2 x (by simpa using hx)
        obtain ⟨s, hs⟩ := Option.isSome_iff_exists.1 this
        obtain ⟨ii, hii, e⟩ := info_of_sz hs
        simp [run_sz w hs, Program.cellsOf, hii, e])
      simp only [execOp, Instr.build, Sem.run_bind, zeroValue, typeInfo, run_program, hi, Result.andThen_ok, Sem.run_pure, hzz, run_underlying hu, hm]
      have e2 : ((ps.map fun (x : Nat × Operand) => (x.1, Act.eval ⟨a, []⟩ x.2)).toList) = ps.toList.map fun p => (p.1, Act.eval ⟨a, []⟩ p.2) := by simp
      rw [e2, r1]
      simp
    · rename_i n e hu
      obtain ⟨sz, hsz'⟩ := Option.isSome_iff_exists.1 hk2
      have hpl0 : ∀ i off sz' ag, partOf P t i = some (off, sz', ag) → (fun i => some (i * sz, sz)) i = some (off, sz') := fun i off sz' ag hf => by
        unfold partOf at hf
        rw [hu] at hf
        dsimp only at hf
        rw [hsz'] at hf
        split at hf
        · rename_i s a h1 h2; cases h1; cases hf; rfl
        · cases hf
      have hz2 : ∀ (Z : List AV), (Z = zz.cells.toList.map ofValC ∨ Z = (zz.cells.toList.map ofValC).map opn) → Z.length = zz.cells.size ∧ ∀ (j : Nat) (av : AV) (v : Value), Z[j]? = some av → zz.cells[j]? = some v → VR g av v := by
        rintro Z (rfl | rfl)
        · exact ⟨by simp, zeroR hok⟩
        · refine ⟨by simp, fun j av v h1 h2 => ?_⟩
          rw [List.getElem?_map, Option.map_eq_some_iff] at h1
          obtain ⟨y, hy, rfl⟩ := h1
          have hr := zeroR (g := g) hok j y v hy h2
          rw [List.getElem?_map, Option.map_eq_some_iff] at hy
          obtain ⟨u, hu1, rfl⟩ := hy
          have : u = v := by rw [Array.getElem?_toList, h2] at hu1; exact (Option.some.inj hu1).symm
          subst this
          have hopn : opn (ofValC u) = ofValC u ∨ (u = .slice none 0 0 ∧ opn (ofValC u) = .sl (some none) []) := by
            unfold ofValC
            split <;> first | exact .inl rfl | exact .inr ⟨rfl, rfl⟩
          rcases hopn with e | ⟨rfl, e⟩
          · rw [e]; exact hr
          · rw [e]; exact .sl rfl (Nat.le_refl _) (Nat.zero_le _) 0 0 1 (fun _ => undef) (by simp) (by simp) (by omega) (by simp) (by simp) (by simp) (fun _ _ => ⟨rfl, .inl rfl⟩)
      obtain ⟨hz3, hz4⟩ := hz2 (bif kept all dst then (zz.cells.toList.map ofValC).map opn else zz.cells.toList.map ofValC) (by cases kept all dst <;> simp)
      obtain ⟨cells', r1, r2, r3⟩ := partsOf_spec (P := P) h hpl0 ps.toList l hx hl _ zz.cells hz3 hz4 (by rw [hz3]; simpa using hk1)
      refine OpOk.pure h (.agg cells') rfl rfl ?_ (.agg r2 r3) (fun k => Tail.meek (by intro l; simp))
      simp only [execOp, Instr.build, Sem.run_bind, zeroValue, typeInfo, run_program, hi, Result.andThen_ok, Sem.run_pure, hzz, run_underlying hu, run_sz w hsz']
      have e2 : ((ps.map fun (x : Nat × Operand) => (x.1, Act.eval ⟨a, []⟩ x.2)).toList) = ps.toList.map fun p => (p.1, Act.eval ⟨a, []⟩ p.2) := by simp
      rw [e2, r1]
      simp
    · cases hk2
  · exact OpOk.bad hc rfl
end
end Go.Av

namespace Go.Av
open Go
theorem flat_div {l : List AV} {es : Nat} (h : ∀ x, x ∈ l → x.cells.length = es) (h0 : 0 < es) (m : Nat) (c : AV) (hm : (l.flatMap AV.cells)[m]? = some c) : ∃ x, l[m / es]? = some x ∧ x.cells[m % es]? = some c := by
 have hlt : m < l.length * es := by rw [← flat_len h]; exact (List.getElem?_eq_some_iff.1 hm).1
 have hd : m / es < l.length := Nat.div_lt_of_lt_mul (by rwa [Nat.mul_comm])
 refine ⟨_, List.getElem?_eq_getElem hd, ?_⟩
 have := flat_get h (m / es) (m % es) _ (List.getElem?_eq_getElem hd) (Nat.mod_lt _ h0)
 rw [Nat.mul_comm, Nat.div_add_mod] at this
 rw [← this]; exact hm
section
variable {P : Program} {all : List Oper} {dst : Option Nat} {ty : TypeId} {pos : String} {after : Array Edge} {gd : Option (Nat × Bool)} {tm : List AV} {hp : Heap} {g : Gh} {a : Array Value} {w : World}
theorem Rel.newSlice0 (h : Rel g tm hp a w) (n : Nat) (l : List AV) (es : Nat) (h0 : 0 < es) (hes : ∀ x, x ∈ l → x.cells.length = es) (hn : ∀ x, x ∈ l → ∀ c, c ∈ x.cells → noRef c = true) (cells : Array Value) (t : TypeId) (fr : Nat × Nat) (cap : Nat)
  (hc1 : l.length ≤ cap) (hc2 : cap * es ≤ cells.size) (hfr : ∀ o, o < cells.size → (decide (fr.1 ≤ o) && decide (o < fr.2)) = false) (hv : ∀ (j : Nat) (av : AV), (l.flatMap AV.cells)[j]? = some av → ∃ v, cells[j]? = some v ∧ VR g av v) (hb : l.length ≤ maxB) :
  ∃ g', Rel g' tm hp a (w.alloc (.cells cells t fr)) ∧ Stp n g w g' (w.alloc (.cells cells t fr)) ∧ VR g' (.sl none l) (.slice (some ⟨w.heap.size, 0, none⟩) l.length cap) := by
 let f : Nat → Owner := fun o => if o < l.length * es then .imm (cells.getD o undef) else .free
 have hle : l.length * es ≤ cap * es := Nat.mul_le_mul_right _ hc1
 have hr := h.fresh cells t fr f (fun o ho => by
  simp only [f] at ho; split at ho
  ·omega
  ·exact absurd rfl ho) (fun o v ho => by
  simp only [f] at ho; split at ho
  ·injection ho with ho; subst ho
   have : o < cells.size := by omega
   simp [Array.getD_eq_getD_getElem?, this]
  ·cases ho) hfr
 have hs := Stp.fresh h n cells t fr f
 have hfl := flat_len hes
 refine ⟨_, hr, hs, .sl rfl hc1 hb w.heap.size 0 es (fun j => cells.getD j undef) (fun _ => rfl) hes h0 hn (fun j av hj => ?_) (fun j av hj => ?_) (by simp)⟩
 ·show (g.fresh w.heap.size f).ow w.heap.size (0 + j) = _
  rw [fresh_new]
  have : 0 + j < l.length * es := by rw [← hfl]; simpa using (List.getElem?_eq_some_iff.1 hj).1
  simp only [f]; rw [if_pos this, Nat.zero_add]
 ·obtain ⟨v, e1, e2⟩ := hv j av hj
  have : cells.getD j undef = v := by simp [Array.getD_eq_getD_getElem?, e1]
  rw [this]
  exact e2.mono (fun b o v hv => fresh_imm h hv) (fun _ _ h => h) (fun _ _ h => h)
theorem Rel.newSlice {oe : Option ETy} (h : Rel g tm hp a w) (n : Nat) (l : List AV) (es : Nat) (h0 : 0 < es) (hes : ∀ x, x ∈ l → x.cells.length = es) (hn : ∀ x, x ∈ l → ∀ c, c ∈ x.cells → noRef c = true) (cells : Array Value) (t : TypeId) (fr : Nat × Nat) (cap : Nat)
  (hc1 : l.length ≤ cap) (hc2 : cap * es ≤ cells.size) (hfr : ∀ o, o < cells.size → (decide (fr.1 ≤ o) && decide (o < fr.2)) = false) (hv : ∀ (j : Nat) (av : AV), (l.flatMap AV.cells)[j]? = some av → ∃ v, cells[j]? = some v ∧ VR g av v) (hb : l.length ≤ maxB) (key : Owner) (hkey : ∀ v, key ≠ .imm v) (hf2 : fr = (0, 0) := by rfl) (hoe : ∀ e', oe = some e' → e'.1 = t ∧ (e'.2 = 0 ∨ e'.2 = es) := by intro _ h; cases h) :
  ∃ g', Rel g' tm hp a (w.alloc (.cells cells t fr)) ∧ Stp n g w g' (w.alloc (.cells cells t fr)) ∧ ((l ≠ [] ∨ cap = l.length ∨ ∃ e', oe = some e' ∧ 0 < e'.2) → VR g' (.sl (some oe) l) (.slice (some ⟨w.heap.size, 0, none⟩) l.length cap)) ∧
   ((l ≠ [] ∨ cap = l.length ∨ ∃ e', oe = some e' ∧ 0 < e'.2) → Tail g' key (.sl (some oe) l) (.slice (some ⟨w.heap.size, 0, none⟩) l.length cap)) := by
 let f : Nat → Owner := fun o => if o < l.length * es then .imm (cells.getD o undef) else if o < cap * es then key else .free
 have hle : l.length * es ≤ cap * es := Nat.mul_le_mul_right _ hc1
 have hr := h.fresh cells t fr f (fun o ho => by
  simp only [f] at ho; split at ho
  ·omega
  ·split at ho
   ·omega
   ·exact absurd rfl ho) (fun o v ho => by
  simp only [f] at ho; split at ho
  ·injection ho with ho; subst ho
   have : o < cells.size := by omega
   simp [Array.getD_eq_getD_getElem?, this]
  ·split at ho
   ·exact absurd ho (hkey v)
   ·cases ho) hfr
 have hs := Stp.fresh h n cells t fr f
 have hfl := flat_len hes
 have hfz : (g.fresh w.heap.size f).fz w.heap.size = none := h.fzNew (Nat.le_refl _)
 subst hf2
 refine ⟨_, hr.mark (b := w.heap.size) (e := (t, cells.size)) (c := cells) (lo := 0) (hi := 0) (by simp [World.alloc, -World.alloc_eq]) rfl (Nat.le_refl _) (.inl rfl) hfz, hs.mark (Nat.le_refl _) hfz, fun hh => .sl rfl hc1 hb w.heap.size 0 es (fun j => cells.getD j undef) (fun _ => rfl) hes h0 hn (fun j av hj => ?_) (fun j av hj => ?_) (fun hq0 hl0 => ⟨?_, .inr ⟨_, 0, rfl, (t, cells.size), by simp [Gh.mark]⟩⟩), fun hh => ?_⟩
 ·show (g.fresh w.heap.size f).ow w.heap.size (0 + j) = _
  rw [fresh_new]
  have : 0 + j < l.length * es := by rw [← hfl]; simpa using (List.getElem?_eq_some_iff.1 hj).1
  simp only [f]; rw [if_pos this, Nat.zero_add]
 ·obtain ⟨v, e1, e2⟩ := hv j av hj
  have : cells.getD j undef = v := by simp [Array.getD_eq_getD_getElem?, e1]
  rw [this]
  exact VR.mono (g := g) (g' := (g.fresh w.heap.size f).mark w.heap.size (t, cells.size)) (fun b o v hv => (fresh_imm h (f := f) hv : (g.fresh w.heap.size f).ow b o = .imm v)) (fun _ _ h => h) (hs.mark (Nat.le_refl _) hfz).fzm e2
 ·rcases hh with hh | hh | hh
  ·exact absurd hl0 hh
  ·exact hh.symm
  ·simp only [Option.some.injEq] at hq0; rw [hq0] at hh; obtain ⟨_, hh, _⟩ := hh; cases hh
 ·unfold Tail
  have hrest : (l ≠ [] ∨ ∃ e', oe = some e' ∧ 0 < e'.2) → Tail ((g.fresh w.heap.size f).mark w.heap.size (t, cells.size)) key (.sl (some oe) l) (.slice (some ⟨w.heap.size, 0, none⟩) l.length cap) := fun hh => by
   refine .inr ⟨hh, w.heap.size, 0, es, rfl, h0, hes, fun j h1 h2 => ?_, rfl, fun e' he => ⟨(t, cells.size), by simp [Gh.mark], (hoe e' he).1, fun h0' => by have := (hoe e' he).2; omega⟩⟩
   show (g.fresh w.heap.size f).ow w.heap.size j = _
   rw [fresh_new]; simp only [f]; rw [if_neg (by omega), if_pos (by omega)]
  by_cases hle : l = []
  ·rcases hh with hh | hh | hh
   ·exact absurd hle hh
   ·exact .inl ⟨hle, hh.symm, .inr ⟨_, 0, rfl, (t, cells.size), by simp [Gh.mark]⟩⟩
   ·exact hrest (.inr hh)
  ·exact hrest (.inl hle)
theorem Rel.newSliceS (h : Rel g tm hp a w) (n : Nat) (l : List AV) (es : Nat) (h0 : 0 < es) (hes : ∀ x, x ∈ l → x.cells.length = es) (hn : ∀ x, x ∈ l → ∀ c, c ∈ x.cells → noRef c = true) (cells : Array Value) (t : TypeId) (fr : Nat × Nat) (cap : Nat)
  (hc1 : l.length ≤ cap) (hc2 : cap * es ≤ cells.size) (hfr : ∀ o, o < cells.size → (decide (fr.1 ≤ o) && decide (o < fr.2)) = false) (hv : ∀ (j : Nat) (av : AV), (l.flatMap AV.cells)[j]? = some av → ∃ v, cells[j]? = some v ∧ VR g av v) (hb : l.length ≤ maxB) (key : Owner) (hkey : ∀ v, key ≠ .imm v) :
  ∃ g', Rel g' tm hp a (w.alloc (.cells cells t fr)) ∧ Stp n g w g' (w.alloc (.cells cells t fr)) ∧ (l ≠ [] → VR g' (.sl (some none) l) (.slice (some ⟨w.heap.size, 0, none⟩) l.length cap)) ∧
   (l ≠ [] → Tail g' key (.sl (some none) l) (.slice (some ⟨w.heap.size, 0, none⟩) l.length cap)) := by
 let f : Nat → Owner := fun o => if o < l.length * es then .imm (cells.getD o undef) else if o < cap * es then key else .free
 have hle : l.length * es ≤ cap * es := Nat.mul_le_mul_right _ hc1
 have hr := h.fresh cells t fr f (fun o ho => by
  simp only [f] at ho; split at ho
  ·omega
  ·split at ho
   ·omega
   ·exact absurd rfl ho) (fun o v ho => by
  simp only [f] at ho; split at ho
  ·injection ho with ho; subst ho
   have : o < cells.size := by omega
   simp [Array.getD_eq_getD_getElem?, this]
  ·split at ho
   ·exact absurd ho (hkey v)
   ·cases ho) hfr
 have hs := Stp.fresh h n cells t fr f
 have hfl := flat_len hes
 refine ⟨_, hr, hs, fun hle => .sl rfl hc1 hb w.heap.size 0 es (fun j => cells.getD j undef) (fun _ => rfl) hes h0 hn (fun j av hj => ?_) (fun j av hj => ?_) (fun _ hl0 => absurd hl0 hle), fun hle => ?_⟩
 ·rw [fresh_new]
  have : 0 + j < l.length * es := by rw [← hfl]; simpa using (List.getElem?_eq_some_iff.1 hj).1
  simp only [f]; rw [if_pos this, Nat.zero_add]
 ·obtain ⟨v, e1, e2⟩ := hv j av hj
  have : cells.getD j undef = v := by simp [Array.getD_eq_getD_getElem?, e1]
  rw [this]
  exact e2.mono (fun b o v hv => fresh_imm h hv) (fun _ _ h => h) (fun _ _ h => h)
 ·unfold Tail
  refine .inr ⟨.inl hle, w.heap.size, 0, es, rfl, h0, hes, fun j h1 h2 => ?_, rfl, fun e' he => by cases he⟩
  rw [fresh_new]; simp only [f]; rw [if_neg (by omega), if_pos (by omega)]
theorem elems_fill (h : Rel g tm hp a w) {sz : Nat} : ∀ (ps : List (Nat × Operand)) (l : List AV) (i : Nat) (cells : Array Value), (∀ p, p ∈ ps → okOpd p.2 = true) → elemsOf tm i ps = some l → okElems sz l = true → (i + l.length) * sz ≤ cells.size →
  ∃ cells', Instr.fill (fun i => some (i * sz, sz)) cells (ps.map fun p => (p.1, Act.eval ⟨a, []⟩ p.2)) = some cells' ∧ cells'.size = cells.size ∧ (∀ j : Nat, j < i * sz → cells'[j]? = cells[j]?) ∧
   ∀ (k : Nat) (x : AV), l[k]? = some x → ∀ (j : Nat) (c : AV), x.cells[j]? = some c → ∃ v, cells'[(i + k) * sz + j]? = some v ∧ VR g c v
 | [], l, i, cells, _, hl, _, _ => by
  simp [elemsOf] at hl; subst hl
  exact ⟨cells, by simp [Instr.fill], rfl, fun _ _ => rfl, fun k x hx => by simp at hx⟩
 | (i', x) :: ps, l, i, cells, hx, hl, hok, hsz => by
  simp only [elemsOf] at hl
  split at hl
  ·rename_i e; subst e
   split at hl
   ·rename_i l' hl'
    cases hl
    simp only [okElems, List.all_cons, Bool.and_eq_true, beq_iff_eq] at hok
    obtain ⟨⟨⟨⟨o1, o2⟩, o3⟩, o4⟩, o5⟩ := hok
    simp only [List.length_cons] at hsz
    have hv : VR g (opv tm x) (Act.eval ⟨a, []⟩ x) := opv_VR h (x := x) (hx (i, x) (by simp))
    obtain ⟨hk1, hk2⟩ := okPart_known (okPart_fix o1)
    obtain ⟨c1, c2⟩ := fix_cells hv hk1 hk2
    have hA : (i + 1) * sz = i * sz + sz := by simp only [Nat.add_mul, Nat.one_mul]
    have hB : (i + (l'.length + 1)) * sz = i * sz + sz + l'.length * sz := by simp only [Nat.add_mul, Nat.one_mul]; omega
    have hC : (i + 1 + l'.length) * sz = i * sz + sz + l'.length * sz := by simp only [Nat.add_mul, Nat.one_mul]
    have hc := fill_cons (fun i => some (i * sz, sz)) cells i (i * sz) sz (Act.eval ⟨a, []⟩ x) (ps.map fun p => (p.1, Act.eval ⟨a, []⟩ p.2)) rfl (by omega) (by omega)
    obtain ⟨l1, l2⟩ := lay_spec cells (i * sz) (Act.eval ⟨a, []⟩ x).cells
    obtain ⟨cells', r1, r2, r3, r4⟩ := elems_fill h ps l' (i + 1) (lay cells (i * sz) (Act.eval ⟨a, []⟩ x).cells) (fun p hp => hx p (by simp [hp])) hl' o5 (by rw [l1]; omega)
    refine ⟨cells', by simp only [List.map_cons]; rw [hc, r1], by rw [r2, l1], fun j hj => ?_, fun k y hy j c hjc => ?_⟩
    ·rw [r3 j (by omega), l2, if_neg (by omega)]
    ·cases k with
     | zero =>
      simp at hy; subst hy
      have hj : j < sz := by rw [← o2]; exact (List.getElem?_eq_some_iff.1 hjc).1
      have hu : j < (Act.eval ⟨a, []⟩ x).cells.size := by omega
      refine ⟨_, ?_, c2 j c _ hjc (Array.getElem?_eq_getElem hu)⟩
      rw [Nat.add_zero, r3 _ (by omega), l2, if_pos (by omega), show i * sz + j - i * sz = j by omega]
      exact Array.getElem?_eq_getElem hu
     | succ k =>
      obtain ⟨v, e1, e2⟩ := r4 k y (by simpa using hy) j c hjc
      exact ⟨v, by rw [show i + (k + 1) = i + 1 + k by omega]; exact e1, e2⟩
   ·cases hl
  ·cases hl
theorem okElems_spec {sz : Nat} {l : List AV} (h : okElems sz l = true) : (∀ x, x ∈ l → x.cells.length = sz) ∧ (∀ x, x ∈ l → ∀ c, c ∈ x.cells → noRef c = true) := by
 simp only [okElems, List.all_eq_true, Bool.and_eq_true, beq_iff_eq] at h
 exact ⟨fun x hx => (h x hx).1.1.2, fun x hx c hc => (h x hx).1.2 c hc⟩
theorem op_buildSlice {t : TypeId} {n : Nat} {ps : Array (Nat × Operand)} (h : Rel g tm hp a w) (hx : ∀ p, p ∈ ps.toList → okOpd p.2 = true) (hc : ∀ c', (opM P all ⟨dst, .buildSlice t n ps, ty, pos, after, gd⟩ tm hp).c = some c' → c') :
    OpOk P ⟨dst, .buildSlice t n ps, ty, pos, after, gd⟩ (opM P all ⟨dst, .buildSlice t n ps, ty, pos, after, gd⟩ tm hp) hp g a w := by
  simp only [opM] at *
  split at hc
  · rename_i e l he hl
    have hk := needB_of hc
    clear hc
    simp only [Bool.and_eq_true, decide_eq_true_eq, beq_iff_eq] at hk
    obtain ⟨⟨⟨⟨k1, k2⟩, k3⟩, k4⟩, k5⟩ := hk
    obtain ⟨hu, hs, hag, hby, z, hz⟩ := el_of he
    obtain ⟨i, zz, hi, hzz, hok, hsz, _⟩ := zero_of hz
    obtain ⟨ii, hii, es⟩ := info_of_sz hs
    rw [hi] at hii; cases hii
    obtain ⟨o1, o2⟩ := okElems_spec k1
    have hle : n * e.sz ≤ 65536 * 128 := Nat.mul_le_mul k3 k5
    subst k2
    let cells0 : Array Value := (Array.range (l.length * e.sz)).map (fun x => (if l.length * e.sz = 0 then #[] else zz.cells)[x % (if l.length * e.sz = 0 then #[] else zz.cells).size]!)
    have hs0 : cells0.size = l.length * e.sz := by simp [cells0]
    obtain ⟨cells', r1, r2, r3, r4⟩ := elems_fill h ps.toList l 0 cells0 hx hl k1 (by rw [hs0]; simp)
    have e2 : ((ps.map fun (x : Nat × Operand) => (x.1, Act.eval ⟨a, []⟩ x.2)).toList) = ps.toList.map fun p => (p.1, Act.eval ⟨a, []⟩ p.2) := by simp
    obtain ⟨g', s1, s2, s3, s4⟩ := h.newSlice (oe := none) hp.length l e.sz k4 o1 o2 cells' e.t (0, 0) l.length (Nat.le_refl _) (by rw [r2, hs0]; exact Nat.le_refl _) (fun o _ => by simp) (fun j av hj => by
      obtain ⟨x, hx1, hx2⟩ := flat_div o1 k4 j av hj
      obtain ⟨v, q1, q2⟩ := r4 _ x hx1 _ av hx2
      rw [Nat.zero_add, Nat.mul_comm, Nat.div_add_mod] at q1
      exact ⟨v, q1, q2⟩) (by simp only [maxB]; omega) (match dst with | some d => .slot d | none => .free) (by cases dst <;> simp)
    have s34 : VR g' (flO (toB all dst) l) (.slice (some ⟨w.heap.size, 0, none⟩) l.length l.length) ∧ ∀ d, dst = some d → Tail g' (.slot d) (flO (toB all dst) l) (.slice (some ⟨w.heap.size, 0, none⟩) l.length l.length) := by
      have hv := s3 (.inr (.inl rfl))
      cases toB all dst with
      | false => exact ⟨hv, fun d hd => by have hd' : dst = some d := hd; subst hd'; exact s4 (.inr (.inl rfl))⟩
      | true =>
        refine ⟨.fl hv.own (.inr ⟨_, rfl, fun hl0 => ?_⟩), fun d _ => Tail.meek (by intro oe l'; simp [flO])⟩
        cases hv with
        | sl hl hc hb b o es vs ha hes h0 hn hi hv hq =>
          rcases (hq rfl hl0).2 with h | ⟨b', o', h, e, he⟩
          · cases h
          · cases h; exact ⟨e, he⟩
    refine ⟨_, _, _, g', ?_, .inl rfl, s1.put _ s34.1 s34.2, s2, Nat.le_refl _⟩
    have h24 : ¬ 16777216 < l.length * e.sz := by omega
    simp only [execOp, Instr.buildSlice, Sem.run_bind, run_underlying hu, Result.andThen_ok, run_sz w hs]
    rw [e2]
    by_cases hz0 : l.length * e.sz = 0
    · simp only [cells0, if_pos hz0] at r1
      simp [hz0] at r1
      simp [hz0, r1, newRow]
    · simp only [cells0, if_neg hz0] at r1
      simp [h24, hz0, zeroValue, typeInfo, hi, hzz, r1, newRow]
  · exact OpOk.bad hc rfl
end
end Go.Av

namespace Go.Av
open Go
def Gh.shut (g : Gh) (b lo : Nat) (vs : List Value) : Gh := { g with ow := fun b' o => if b' = b ∧ lo ≤ o ∧ o < lo + vs.length then .imm (vs.getD (o - lo) undef) else g.ow b' o }
section
variable {P : Program} {all : List Oper} {dst : Option Nat} {ty : TypeId} {pos : String} {after : Array Edge} {gd : Option (Nat × Bool)} {tm : List AV} {hp : Heap} {g : Gh} {a : Array Value} {w : World}
theorem shut_imm {b lo : Nat} {vs : List Value} {s : Owner} (hs : (∃ t, s = .slot t) ∨ ∃ i o, s = .cell i o) (ho : ∀ j, j < vs.length → g.ow b (lo + j) = s) {b' o : Nat} {v : Value} (h : g.ow b' o = .imm v) : (g.shut b lo vs).ow b' o = .imm v := by
 simp only [Gh.shut]
 rw [if_neg]; exact h
 rintro ⟨rfl, h1, h2⟩
 have := ho (o - lo) (by omega)
 rw [show lo + (o - lo) = o by omega, h] at this
 subst this; simp at hs
theorem Rel.shut (h : Rel g tm hp a w) (n : Nat) (b lo : Nat) (vs : List Value) (s : Owner) (hs : (∃ t, s = .slot t) ∨ ∃ i o, s = .cell i o) (ho : ∀ j, j < vs.length → g.ow b (lo + j) = s)
  (h1 : ∀ t l, s = .slot t → (∃ oe, lget tm t = .sl (some oe) l) → False) (h2 : ∀ (id off : Nat) (cs : List AV) l, s = .cell id off → hp[id]? = some (some cs) → (∃ oe, cs[off]? = some (.sl (some oe) l)) → False) :
  Rel (g.shut b lo vs) tm hp a (w.setCells b lo vs) ∧ Stp n g w (g.shut b lo vs) (w.setCells b lo vs) ∧ (∀ j, j < vs.length → (w.cell? ⟨b, lo + j, none⟩).isSome = true) ∧ (∀ j, j < vs.length → w.frozen? ⟨b, lo + j, none⟩ = false) := by
 have hsi : ∀ v, s ≠ .imm v := by intro v e; subst e; simp at hs
 have hsb : ∀ i, s ≠ .blk i := by intro v e; subst e; simp at hs
 have hsf : s ≠ .free := by intro e; subst e; simp at hs
 have hc1 : ∀ j, j < vs.length → (w.cell? ⟨b, lo + j, none⟩).isSome = true := fun j hj => by
  obtain ⟨⟨v, hv⟩, _⟩ := h.owns b (lo + j) (by rw [ho j hj]; exact hsf)
  simp [hv]
 have hc2 : ∀ j, j < vs.length → w.frozen? ⟨b, lo + j, none⟩ = false := fun j hj =>
  (h.owns b (lo + j) (by rw [ho j hj]; exact hsf)).2 (fun v => by rw [ho j hj]; exact hsi v)
 have hin : ∀ b' o, g.ow b' o ≠ s → ¬ (b' = b ∧ lo ≤ o ∧ o < lo + vs.length) := by
  rintro b' o hne ⟨rfl, e1, e2⟩
  have := ho (o - lo) (by omega)
  rw [show lo + (o - lo) = o by omega] at this
  exact hne this
 have hout : ∀ b' o', ¬ (b' = b ∧ lo ≤ o' ∧ o' < lo + vs.length) → (w.setCells b lo vs).cell? ⟨b', o', none⟩ = w.cell? ⟨b', o', none⟩ :=
  fun b' o' hh => World.cell?_setCells_out b vs lo w ⟨b', o', none⟩ (fun hb _ => by dsimp only at hb ⊢; omega)
 have hfr : ∀ x, (w.setCells b lo vs).frozen? x = w.frozen? x := fun x => World.frozen?_setCells b vs lo w x
 have hm : ∀ {av v}, VR g av v → VR (g.shut b lo vs) av v := fun hv => hv.mono (fun b' o v hv => shut_imm hs ho hv) (fun _ _ h => h) (fun _ _ h => h)
 have ht : ∀ {k : Owner} {av v}, Tail g k av v → (k = s → ∀ l, (∃ oe, av = .sl (some oe) l) → False) → Tail (g.shut b lo vs) k av v := by
  intro k av v ht hk
  cases av with
  | sl own l =>
   cases own with
   | none => exact Tail.meek (by intro l; simp)
   | some oe =>
    by_cases e : k = s
    ·exact (hk e l ⟨oe, rfl⟩).elim
    ·cases v with
     | slice a' n' cap =>
      rcases ht with ht | ⟨h0, b0, o0, es, e1, e2, e3, e4, e5⟩
      ·exact .inl ht
      ·refine .inr ⟨h0, b0, o0, es, e1, e2, e3, fun j hj hj' => ?_, e5⟩
       have := e4 j hj hj'
       simp only [Gh.shut]
       rw [if_neg (hin _ _ (by rw [this]; exact e))]; exact this
     | _ => trivial
  | _ => exact Tail.meek (by intro l; simp)
 refine ⟨⟨h.size, fun t => ⟨hm (h.slots t).1, ht (h.slots t).2 (fun e l hl => h1 t l e.symm hl)⟩, fun id cs hc => ?_, h.locs, fun b' o v hv => ?_, fun b' o hv => ?_, fzs_of h.fzs (fun b' c e f hb => heap_setCells vs _ w b' c e f hb) (fun b' o v hv => shut_imm hs ho hv) rfl⟩, ?_, hc1, hc2⟩
 ·obtain ⟨b', base, c, e1, e2, e3, e4⟩ := h.heap id cs hc
  refine ⟨b', base, c, e1, e2, fun j hj => ?_, fun j av hj => ?_⟩
  ·simp only [Gh.shut]; rw [if_neg (hin _ _ (by rw [e3 j hj]; exact fun e => hsb _ e.symm))]; exact e3 j hj
  ·obtain ⟨v, hv1, hv2, hv3⟩ := e4 j av hj
   have hjc : j < c := Nat.lt_of_lt_of_le (List.getElem?_eq_some_iff.1 hj).1 e2
   refine ⟨v, ?_, hm hv2, ht hv3 (fun e l hl => h2 id j cs l e.symm hc (by obtain ⟨oe, hl⟩ := hl; exact ⟨oe, by rw [hj, hl]⟩))⟩
   rw [hout _ _ (hin _ _ (by rw [e3 j hjc]; exact fun e => hsb _ e.symm))]; exact hv1
 ·simp only [Gh.shut] at hv
  split at hv
  ·rename_i e
   obtain ⟨rfl, e1, e2⟩ := e
   injection hv with hv; subst hv
   have := World.cell?_setCells_in b' vs lo w hc1 (o - lo) (by omega)
   rw [show lo + (o - lo) = o by omega] at this
   rw [this]; simp [List.getD_eq_getElem?_getD, show o - lo < vs.length by omega]
  ·rename_i e
   rw [hout _ _ e]; exact h.imms _ _ _ hv
 ·simp only [Gh.shut] at hv ⊢
  rw [hfr]
  by_cases e : b' = b ∧ lo ≤ o ∧ o < lo + vs.length
  ·rw [if_pos e]
   obtain ⟨rfl, e1, e2⟩ := e
   have := World.cell?_setCells_in b' vs lo w hc1 (o - lo) (by omega)
   rw [show lo + (o - lo) = o by omega] at this
   exact ⟨⟨_, this⟩, fun hh => absurd rfl (hh _)⟩
  ·rw [if_neg e] at hv ⊢
   rw [hout _ _ e]; exact h.owns b' o hv
 ·have hst : Stp n g w g (w.setCells b lo vs) := Stp.setCells vs lo w (fun j hj => by rw [ho j hj]; exact ⟨hsf, hsi⟩)
  refine .of (fun b' o v hv => shut_imm hs ho hv) (fun b' o _ hv => ?_) (fun _ _ _ h => h) hst.upd rfl
  simp only [Gh.shut]; rw [if_neg (hin _ _ (by rw [hv]; exact fun e => hsf e.symm))]; exact hv
theorem okEl_spec {sz : Nat} {z : AV} (h : okEl sz z = true) : z.cells.length = sz ∧ ∀ c, c ∈ z.cells → okCell c = true := by
 simp only [okEl, Bool.and_eq_true, beq_iff_eq, List.all_eq_true] at h; exact h
theorem app_src (h : Rel g tm hp a w) {y : Operand} (hy : okOpd y = true) {e : El} {x : AV} (hc : appc e x (opv tm y)) :
    ∃ (m : Nat) (news : List Value), m = (elsOf (opv tm y)).length ∧ (Builtin.lenOf (Act.eval ⟨a, []⟩ y)).run P w = .ok m w ∧ (∀ w' : World, (∀ x, w'.cell? x = w.cell? x) → (Builtin.firstCells e.sz m (Act.eval ⟨a, []⟩ y)).run P w' = .ok news.toArray w') ∧ news.length = m * e.sz ∧
      (∀ z, z ∈ elsOf (opv tm y) → z.cells.length = e.sz) ∧ (∀ z, z ∈ elsOf (opv tm y) → ∀ c, c ∈ z.cells → noRef c = true) ∧ (∀ (j : Nat) (av : AV), ((elsOf (opv tm y)).flatMap AV.cells)[j]? = some av → ∃ v, news[j]? = some v ∧ VR g av v ∧ v.oneCell' = true) := by
  have hv := opv_VR h hy
  cases hb : opv tm y with
  | sl own l =>
    rw [hb] at hv hc
    obtain ⟨ad, cap, b, o, es, vs, hve, hcap, hlm, had, hes, h0, hn, him, hvv⟩ := sl_inv hv
    have hz' : ∀ z, z ∈ l → okEl e.sz z = true := by cases x with | sl o l' => (rcases o with _ | _ | _; exact hc.elim; exact hc.2.1; exact hc.2.2.2.1) | _ => exact hc.elim
    have hz : ∀ z, z ∈ l → z.cells.length = e.sz := fun z h => (okEl_spec (hz' z h)).1
    have hfl := flat_len hz
    refine ⟨l.length, (List.range (l.length * e.sz)).map vs, rfl, by simp [Builtin.lenOf, hve], fun w' hw' => ?_, by simp, hz, hn, fun j av hj => ?_⟩
    · rw [hve]
      by_cases hne : l = []
      · subst hne
        cases ad <;> simp [Builtin.firstCells, loadCells, loadCellsFrom]
      · rw [had hne]
        refine run_firstCells_some w' e.sz l.length ⟨b, o, none⟩ _ _ _ (by simp) (fun j v hj => ?_)
        simp only [List.getElem?_map, Option.map_eq_some_iff] at hj
        obtain ⟨k, hk, rfl⟩ := hj
        have hk2 := List.getElem?_eq_some_iff.1 hk
        obtain ⟨hk3, hk4⟩ := hk2
        simp at hk3 hk4
        subst hk4
        rw [addr_add, hw']
        exact h.imms _ _ _ (him j _ (List.getElem?_eq_getElem (by rw [hfl]; exact hk3)))
    · have hjl : j < l.length * e.sz := by rw [← hfl]; exact (List.getElem?_eq_some_iff.1 hj).1
      obtain ⟨z, hzl, hzc⟩ := List.mem_flatMap.1 (List.mem_of_getElem? hj)
      exact ⟨vs j, by simp [hjl], hvv j av hj, okCell_one (hvv j av hj) ((okEl_spec (hz' z hzl)).2 av hzc)⟩
  | str s =>
    rw [hb] at hv hc
    obtain ⟨bb, e0, hbs, hlm⟩ := str_inv hv
    subst hbs
    have hz : e.sz = 1 := by cases x with | sl o l' => (rcases o with _ | _ | _; exact hc.elim; exact hc.1; exact hc.2.2.1) | _ => exact hc.elim
    have hfl : (elsOf (.str bb.data.toList)).flatMap AV.cells = bb.data.toList.map byteAV := by
      simp only [elsOf]; generalize bb.data.toList = s; induction s with
      | nil => rfl
      | cons c s ih => simp [List.flatMap_cons, ih, AV.cells, byteAV]
    refine ⟨bb.size, bb.data.toList.map (fun b => .int .u8 b.toNat), by simp [elsOf], by simp [Builtin.lenOf, e0], fun w' _ => ?_, by simp [hz], ?_, ?_, fun j av hj => ?_⟩
    · rw [e0]
      have : (bb.extract 0 bb.size).data = bb.data := by simp
      simp only [Builtin.firstCells, this, Sem.run_pure]
      congr 1
      rw [← Array.toList_inj]; simp
    · intro z hz'; simp only [elsOf, List.mem_map] at hz'; obtain ⟨c, _, rfl⟩ := hz'; rw [hz]; rfl
    · intro z hz' c hc'; simp only [elsOf, List.mem_map] at hz'; obtain ⟨c, _, rfl⟩ := hz'; simp [AV.cells, byteAV] at hc'; subst hc'; rfl
    · rw [hfl] at hj
      simp only [List.getElem?_map, Option.map_eq_some_iff] at hj
      obtain ⟨c, hcc, rfl⟩ := hj
      exact ⟨.int .u8 c.toNat, by simp only [List.getElem?_map, hcc, Option.map_some], .int (u8_range c).1 (u8_range c).2, rfl⟩
  | _ => rw [hb] at hc; cases x with | sl o l' => (rcases o with _ | _ | _ <;> exact hc.elim) | _ => exact hc.elim
theorem appc_inv {e : El} {x y : AV} (hc : appc e x y) : ∃ oe l, x = .sl (some oe) l ∧ (∀ z, z ∈ l → okEl e.sz z = true) ∧ l.length + (elsOf y).length ≤ maxB ∧ (l.length + (elsOf y).length) * e.by_ ≤ maxB ∧ 0 < e.sz ∧ ∀ e', oe = some e' → e'.1 = e.t ∧ (e'.2 = 0 ∨ e'.2 = e.sz) := by
 cases x with
 | sl o l =>
  rcases o with _ | _ | e'
  ·exact hc.elim
  ·cases y with
   | sl o2 l2 => exact ⟨none, l, rfl, hc.2.2.1, hc.2.2.2.1, hc.2.2.2.2, hc.1, by simp⟩
   | str s => exact ⟨none, l, rfl, hc.2.1, by simpa [elsOf] using hc.2.2.1, by simpa [elsOf] using hc.2.2.2, by rw [hc.1]; exact Nat.one_pos, by simp⟩
   | _ => exact hc.elim
  ·cases y with
   | sl o2 l2 => exact ⟨some e', l, rfl, hc.2.2.2.2.1, hc.2.2.2.2.2.1, hc.2.2.2.2.2.2, hc.2.2.1, fun e2 he2 => by cases he2; exact ⟨hc.1, hc.2.1⟩⟩
   | str s => exact ⟨some e', l, rfl, hc.2.2.2.1, by simpa [elsOf] using hc.2.2.2.2.1, by simpa [elsOf] using hc.2.2.2.2.2, by rw [hc.2.2.1]; exact Nat.one_pos, fun e2 he2 => by cases he2; exact ⟨hc.1, hc.2.1⟩⟩
   | _ => exact hc.elim
 | _ => exact hc.elim
section runs
variable {t t2 e0 : TypeId} {d2 : TypeDesc} {sz : Nat} {tys : Array TypeId} {ey : Value} {ad : Option Addr} {n m cap : Nat} {news : List Value}
theorem app_run0 (ht0 : tys[0]? = some t) (ht1 : tys[1]? = some t2) (hu : P.underlying t = some (.slice e0)) (hs : (sizeOf e0).run P w = .ok sz w) (hd2 : P.underlying t2 = some d2) (hn : d2 = .string ∨ ∃ e2, d2 = .slice e2)
    (hlen : (Builtin.lenOf ey).run P w = .ok 0 w) (hf : (Builtin.firstCells sz 0 ey).run P w = .ok #[] w) (hc : n ≤ cap) : (Builtin.append_ tys ty #[.slice ad n cap, ey]).run P w = .ok (.slice ad n cap) w := by
  rcases hn with rfl | ⟨e2, rfl⟩ <;> cases ad <;> simp [Builtin.append_, ht0, ht1, run_underlying hu, run_underlying hd2, hs, hlen, hf, hc, storeCells]
theorem app_run_room {b o : Nat} (ht0 : tys[0]? = some t) (ht1 : tys[1]? = some t2) (hu : P.underlying t = some (.slice e0)) (hs : (sizeOf e0).run P w = .ok sz w) (hd2 : P.underlying t2 = some d2) (hn : d2 = .string ∨ ∃ e2, d2 = .slice e2)
    (hlen : (Builtin.lenOf ey).run P w = .ok m w) (hf : (Builtin.firstCells sz m ey).run P w = .ok news.toArray w) (hc : n + m ≤ cap) {w' : World} (hst : (storeCells ⟨b, o + n * sz, none⟩ news 0).run P w = .ok () w') :
    (Builtin.append_ tys ty #[.slice (some ⟨b, o, none⟩) n cap, ey]).run P w = .ok (.slice (some ⟨b, o, none⟩) (n + m) cap) w' := by
  rcases hn with rfl | ⟨e2, rfl⟩ <;> simp [Builtin.append_, ht0, ht1, run_underlying hu, run_underlying hd2, hs, hlen, hf, hc, addr_add, hst]
theorem app_run_grow {i : TypeInfo} {zz : Value} {olds : Array Value} (ht0 : tys[0]? = some t) (ht1 : tys[1]? = some t2) (hu : P.underlying t = some (.slice e0)) (hs : (sizeOf e0).run P w = .ok sz w) (hd2 : P.underlying t2 = some d2) (hn : d2 = .string ∨ ∃ e2, d2 = .slice e2)
    (hi : P.info? e0 = some i) (hzz : i.zero = some zz)
    (hlen : (Builtin.lenOf ey).run P w = .ok m w) (hf : (Builtin.firstCells sz m ey).run P w.drew = .ok news.toArray w.drew) (ho : (Builtin.firstCells sz n (.slice ad n cap)).run P w.drew = .ok olds w.drew) (hc : ¬ n + m ≤ cap) (h63 : ¬ ((9223372036854775807 : Int) < (n : Int) + (m : Int)))
    (h48 : ¬ (281474976710656 < Builtin.nextslicecap (n + m) cap * i.bytes)) :
    (Builtin.append_ tys ty #[.slice ad n cap, ey]).run P w = .ok (.slice (some ⟨w.drew.heap.size, 0, none⟩) (n + m) (grownCap w (n + m) cap e0)) (w.drew.alloc (.cells (olds ++ news.toArray ++ Builtin.zeroCells zz.cells (grownCap w (n + m) cap e0 - (n + m))) e0)) := by
  rcases hn with rfl | ⟨e2, rfl⟩ <;> simp [Builtin.append_, ht0, ht1, run_underlying hu, run_underlying hd2, hs, hlen, hf, hc, ho, typeInfo, zeroValue, hi, hzz, Question.forced, newRow, h63, h48, grownCap]
end runs
theorem constOwn {tm : List AV} {v : Value} {oe : Option ETy} {l : List AV} (h : opv tm (.const v) = .sl (some oe) l) : l = [] ∧ oe = none := by
  simp only [opv] at h
  unfold ofVal at h; split at h <;> simp_all
theorem op_append {t t2 : TypeId} {r : List TypeId} {x y : Operand} {e : El} (h : Rel g tm hp a w) (hx : okOpd x = true) (hy : okOpd y = true) (he : elOf P t = some e) (hc : appc e (opv tm x) (opv tm y)) (hk : kindOf P t2 = 1 ∨ kindOf P t2 = 2) {args : Array Operand} {tys : Array TypeId} (ha : args.toList = [x, y]) (ht : tys.toList = t :: t2 :: r) {m : MR}
    (hm : m.v = appv (opv tm x) (opv tm y) ∧ m.tm = killT x tm ∧ m.hp = hp) :
    OpOk P ⟨dst, .call { callee := .builtin .append, args, argTypes := tys }, ty, pos, after, gd⟩ m hp g a w := by
  obtain ⟨m1, m2, m3⟩ := hm
  have ha' : args = #[x, y] := by rw [← Array.toList_inj]; simpa using ha
  subst ha'
  obtain ⟨hu, hs, hag, hby, z, hz⟩ := el_of he
  obtain ⟨i, zz, hi, hzz, hok, hsz, _⟩ := zero_of hz
  obtain ⟨ii, hii, hes⟩ := info_of_sz hs
  rw [hi] at hii; cases hii
  have hbytes : i.bytes = e.by_ := by simpa [bytesOf?, hi] using hby
  obtain ⟨oe, l, hl, hlok, hmax, hmaxb, hpos, hoe⟩ := appc_inv hc
  obtain ⟨mm, news, hmm, hlen, hnews, hnl, hz1, hz2, hz3⟩ := app_src (P := P) h hy hc
  have hv := opv_VR h hx
  obtain ⟨key, htl, hkey⟩ := opv_tail h (x := x)
  rw [hl] at hv htl
  obtain ⟨ad, cap, b, o, es, vs, hve, hcap, hlm, had, hes2, h0, hn, him, hvv⟩ := sl_inv hv
  rw [hve] at htl
  have hl1 : ∀ z, z ∈ l → z.cells.length = e.sz := fun z hz => (okEl_spec (hlok z hz)).1
  have hall : ∀ z, z ∈ l ++ elsOf (opv tm y) → z.cells.length = e.sz := fun z hz => by rcases List.mem_append.1 hz with h | h; exact hl1 z h; exact hz1 z h
  have halln : ∀ z, z ∈ l ++ elsOf (opv tm y) → ∀ c, c ∈ z.cells → noRef c = true := fun z hz => by rcases List.mem_append.1 hz with h | h; exact hn z h; exact hz2 z h
  have hmv : m.v = .sl (some oe) (l ++ elsOf (opv tm y)) := by rw [m1, hl]; rfl
  obtain ⟨d2, hd2, hd2n⟩ : ∃ d2, P.underlying t2 = some d2 ∧ (d2 = .string ∨ ∃ e2, d2 = .slice e2) := by
    rcases hk with hk | hk
    · exact ⟨_, kind_str hk, .inl rfl⟩
    · obtain ⟨e2, he2⟩ := kind_sl hk; exact ⟨_, he2, .inr ⟨e2, rfl⟩⟩
  have ht0 : tys[0]? = some t := by rw [← Array.getElem?_toList, ht]; rfl
  have ht1 : tys[1]? = some t2 := by rw [← Array.getElem?_toList, ht]; rfl
  have hfin : ∀ v' w' g', (Builtin.append_ tys ty #[Act.eval ⟨a, []⟩ x, Act.eval ⟨a, []⟩ y]).run P w = .ok v' w' → Rel g' m.tm hp a w' → Stp hp.length g w g' w' → VR g' (.sl (some oe) (l ++ elsOf (opv tm y))) v' → (∀ d, dst = some d → Tail g' (.slot d) (.sl (some oe) (l ++ elsOf (opv tm y))) v') →
      OpOk P ⟨dst, .call { callee := .builtin .append, args := #[x, y], argTypes := tys }, ty, pos, after, gd⟩ m hp g a w := by
    intro v' w' g' hr h1 h2 h3 h4
    refine ⟨_, v', w', g', ?_, .inl rfl, by rw [m3, hmv]; exact h1.put _ h3 h4, h2, by rw [m3]; exact Nat.le_refl _⟩
    simp [execOp, resolve, invoke, builtin, hr]
  have hr0 : Rel g m.tm hp a w := by
    rw [m2]
    cases x with
    | tmp k => exact h.less k (.any _) (Tail.meek (by intro l; simp))
    | _ => exact h
  by_cases hroom : l.length + mm ≤ cap
  · by_cases hm0 : mm = 0
    · have hy0 : elsOf (opv tm y) = [] := List.eq_nil_of_length_eq_zero (by omega)
      have hn0 : news = [] := List.eq_nil_of_length_eq_zero (by rw [hnl, hm0]; simp)
      have hrun : (Builtin.append_ tys ty #[Act.eval ⟨a, []⟩ x, Act.eval ⟨a, []⟩ y]).run P w = .ok (.slice ad l.length cap) w := by
        have hnw := hnews w (fun _ => rfl)
        rw [hm0, hn0] at hnw
        rw [hm0] at hlen
        rw [hve]
        exact app_run0 ht0 ht1 hu (run_sz w hs) hd2 hd2n hlen hnw hcap
      rw [hy0, List.append_nil] at hmv hfin
      cases x with
      | tmp k =>
        have hk := hkey k rfl
        subst hk
        cases dst with
        | none => exact hfin _ w g hrun hr0 (.refl _ _ _) (hve ▸ hv) (by simp)
        | some d =>
          refine hfin _ w _ hrun (hr0.give (.slot k) (.slot d) (.inl ⟨k, rfl⟩) (by simp) (fun t' l' e1 e2 => ?_) (fun id off cs l e => by cases e)) (.give _ _ (.inl ⟨k, rfl⟩)) ((hve ▸ hv : VR g _ _).mono (fun b o v h => give_imm (by simp) h) (fun _ _ h => h) (fun _ _ h => h)) (fun d' e => by injection e with e; subst e; exact htl.give_to)
          injection e1 with e1; subst e1
          obtain ⟨oe', e2⟩ := e2
          rw [m2] at e2
          simp only [killT, lget_lset] at e2
          by_cases e3 : k < tm.length
          · simp [e3] at e2
          · simp only [e3, and_false, if_false] at e2; rw [lget_ge (Nat.not_lt.1 e3)] at e2; cases e2
      | const v =>
        obtain ⟨rfl, rfl⟩ := constOwn hl
        exact hfin _ w g hrun hr0 (.refl _ _ _) (hve ▸ hv) (fun d _ => Tail.ofNil (hve ▸ hv : VR g _ (.slice ad _ cap)))
      | global n => simp [opv] at hl
      | func f => simp [opv] at hl
    · obtain ⟨k, rfl⟩ : ∃ k, x = .tmp k := by
        cases x with
        | tmp k => exact ⟨k, rfl⟩
        | const v =>
          obtain ⟨rfl, rfl⟩ := constOwn hl
          rcases htl with ⟨_, ht2, _⟩ | ⟨h0', _⟩
          · simp at ht2 hroom; omega
          · rcases h0' with h0' | h0'
            · exact absurd rfl h0'
            · obtain ⟨_, h0', _⟩ := h0'; cases h0'
        | global n => simp [opv] at hl
        | func f => simp [opv] at hl
      have hk := hkey k rfl
      subst hk
      rcases htl with ⟨ht1, ht2, _⟩ | ⟨hne0, b', o', es', e1, e2, e3, e4, e5⟩
      · rw [ht1] at ht2 hroom; simp at ht2 hroom; omega
      have q1 : es' = e.sz := by
        by_cases hne : l = []
        · rcases hne0 with hn' | hn'
          · exact absurd hne hn'
          · obtain ⟨e', he', hp'⟩ := hn'
            obtain ⟨_, _, _, hes'⟩ := e5.2 e' he'
            rw [hes' hp']
            have := (hoe e' he').2
            omega
        · obtain ⟨zz', hzz'⟩ := List.exists_mem_of_ne_nil l hne
          rw [← e3 zz' hzz', hl1 zz' hzz']
      subst q1
      have hbo : l ≠ [] → b = b' ∧ o = o' := fun hne => by rw [had hne] at e1; simpa using e1
      have hnel : ∀ (j : Nat) (av : AV), (l.flatMap AV.cells)[j]? = some av → l ≠ [] := by rintro j av hj rfl; simp at hj
      have him' : ∀ (j : Nat) (av : AV), (l.flatMap AV.cells)[j]? = some av → g.ow b' (o' + j) = .imm (vs j) := fun j av hj => by
        obtain ⟨rfl, rfl⟩ := hbo (hnel j av hj)
        exact him j av hj
      have hnn : l ++ elsOf (opv tm y) ≠ [] := by intro e; have := congrArg List.length e; rw [List.length_append, ← hmm] at this; simp at this; omega
      have hmul : (l.length + mm) * e.sz ≤ cap * e.sz := Nat.mul_le_mul_right _ hroom
      rw [Nat.add_mul] at hmul
      have hsl := hr0.shut hp.length b' (o' + l.length * e.sz) news (.slot k) (.inl ⟨k, rfl⟩) (fun j hj => e4 _ (by omega) (by omega)) (fun t' l' f1 f2 => by
        injection f1 with f1; subst f1
        obtain ⟨oe', f2⟩ := f2
        rw [m2] at f2
        simp only [killT, lget_lset] at f2
        by_cases f3 : k < tm.length
        · simp [f3] at f2
        · simp only [f3, and_false, if_false] at f2; rw [lget_ge (Nat.not_lt.1 f3)] at f2; cases f2) (fun id off cs l e => by cases e)
      obtain ⟨s1, s2, s3, s4⟩ := hsl
      have hrun : (Builtin.append_ tys ty #[Act.eval ⟨a, []⟩ (.tmp k), Act.eval ⟨a, []⟩ y]).run P w = .ok (.slice ad (l.length + mm) cap) (w.setCells b' (o' + l.length * e.sz) news) := by
        have hnw := hnews w (fun _ => rfl)
        have hst := run_storeCells_cells (P := P) b' (o' + l.length * e.sz) news 0 w (fun j hj => by simpa using s3 j hj) (fun j hj => by simpa using s4 j hj) (fun v hv => by
          obtain ⟨j, hj⟩ := List.getElem?_of_mem hv
          have hjl := (List.getElem?_eq_some_iff.1 hj).1
          have : j < ((elsOf (opv tm y)).flatMap AV.cells).length := by rw [flat_len hz1, ← hmm]; omega
          obtain ⟨v', w1, w2, w3⟩ := hz3 j _ (List.getElem?_eq_getElem this)
          rw [hj] at w1; cases w1; exact w3)
        rw [hve, e1]
        exact app_run_room ht0 ht1 hu (run_sz w hs) hd2 hd2n hlen hnw hroom hst
      have hv2 : VR (g.shut b' (o' + l.length * e.sz) news) (.sl (some oe) (l ++ elsOf (opv tm y))) (.slice ad (l.length + mm) cap) := by
        have hi0 : ∀ {b0 o0 : Nat} {v : Value}, g.ow b0 o0 = .imm v → (g.shut b' (o' + l.length * e.sz) news).ow b0 o0 = .imm v := fun hv => shut_imm (s := .slot k) (.inl ⟨k, rfl⟩) (fun j hj => e4 _ (by omega) (by omega)) hv
        have hfl := flat_len hl1
        refine .sl (by simp [hmm]) hroom (by omega) b' o' e.sz (fun j => if j < l.length * e.sz then vs j else news.getD (j - l.length * e.sz) undef) (fun _ => e1) hall e2 halln (fun j av hj => ?_) (fun j av hj => ?_) (fun _ hl0 => absurd hl0 hnn)
        · rw [List.flatMap_append] at hj
          by_cases hjl : j < l.length * e.sz
          · rw [List.getElem?_append_left (by omega)] at hj
            simp only [hjl, if_true]
            exact hi0 (him' j av hj)
          · rw [List.getElem?_append_right (by omega)] at hj
            have hjb : j - l.length * e.sz < mm * e.sz := by
              have := (List.getElem?_eq_some_iff.1 hj).1
              rw [flat_len hz1, hfl, ← hmm] at this; exact this
            have hA : l.length * e.sz ≤ j := Nat.not_lt.1 hjl
            have hB : j < l.length * e.sz + mm * e.sz := by have := Nat.add_lt_add_left hjb (l.length * e.sz); rwa [Nat.add_sub_of_le hA] at this
            simp only [hjl, if_false, Gh.shut]
            generalize l.length * e.sz = L at *
            rw [if_pos ⟨trivial, by omega, by omega⟩]
            rw [show o' + j - (o' + L) = j - L by omega]
        · rw [List.flatMap_append] at hj
          by_cases hjl : j < l.length * e.sz
          · rw [List.getElem?_append_left (by omega)] at hj
            simp only [hjl, if_true]
            exact (hvv j av hj).mono (fun b o v h => hi0 h) (fun _ _ h => h) (fun _ _ h => h)
          · rw [List.getElem?_append_right (by omega), hfl] at hj
            simp only [hjl, if_false]
            obtain ⟨v', w1, w2, w3⟩ := hz3 _ av hj
            rw [show news.getD (j - l.length * e.sz) undef = v' by simp [List.getD_eq_getElem?_getD, w1]]
            exact w2.mono (fun b o v h => hi0 h) (fun _ _ h => h) (fun _ _ h => h)
      have htail : Tail (g.shut b' (o' + l.length * e.sz) news) (.slot k) (.sl (some oe) (l ++ elsOf (opv tm y))) (.slice ad (l.length + mm) cap) := by
        refine .inr ⟨.inl hnn, b', o', e.sz, e1, e2, hall, fun j hj hj' => ?_, e5⟩
        rw [Nat.add_mul] at hj
        simp only [Gh.shut]
        rw [if_neg (by omega)]
        exact e4 j (by omega) hj'
      have hdead : ∀ t' l', Owner.slot k = .slot t' → (∃ oe, lget m.tm t' = .sl (some oe) l') → False := fun t' l' f1 f2 => by
        injection f1 with f1; subst f1
        obtain ⟨oe', f2⟩ := f2
        rw [m2] at f2
        simp only [killT, lget_lset] at f2
        by_cases f3 : k < tm.length
        · simp [f3] at f2
        · simp only [f3, and_false, if_false] at f2; rw [lget_ge (Nat.not_lt.1 f3)] at f2; cases f2
      cases dst with
      | none => exact hfin _ _ _ hrun s1 s2 hv2 (by simp)
      | some d =>
        exact hfin _ _ _ hrun (s1.give (.slot k) (.slot d) (.inl ⟨k, rfl⟩) (by simp) hdead (fun id off cs l e => by cases e)) (s2.trans (.give _ _ (.inl ⟨k, rfl⟩))) (hv2.mono (fun b o v h => give_imm (by simp) h) (fun _ _ h => h) (fun _ _ h => h)) (fun d' e => by injection e with e; subst e; exact htail.give_to)
  · have hgrow : cap < l.length + mm := by omega
    have hm0 : mm ≠ 0 := by omega
    have hfit : Builtin.nextslicecap (l.length + mm) cap * i.bytes ≤ 281474976710656 := growslice_fits hgrow (by rw [hbytes, hmm]; exact hmaxb)
    have h63 : ¬ ((9223372036854775807 : Int) < (l.length : Int) + (mm : Int)) := by simp only [maxB] at hmax; omega
    have h48 : ¬ (281474976710656 < Builtin.nextslicecap (l.length + mm) cap * i.bytes) := by omega
    have holds : (Builtin.firstCells e.sz l.length (.slice ad l.length cap)).run P w.drew = .ok ((List.range (l.length * e.sz)).map vs).toArray w.drew := by
      by_cases hne : l = []
      · subst hne
        cases ad <;> simp [Builtin.firstCells, loadCells, loadCellsFrom]
      · rw [had hne]
        refine run_firstCells_some w.drew e.sz l.length ⟨b, o, none⟩ _ _ _ (by simp) (fun j v hj => ?_)
        simp only [List.getElem?_map, Option.map_eq_some_iff] at hj
        obtain ⟨k, hk, rfl⟩ := hj
        obtain ⟨hk3, hk4⟩ := List.getElem?_eq_some_iff.1 hk
        simp at hk3 hk4
        subst hk4
        rw [addr_add]
        exact h.imms _ _ _ (him j _ (List.getElem?_eq_getElem (by rw [flat_len hl1]; exact hk3)))
    have hnw := hnews w.drew (fun _ => rfl)
    generalize hcp : grownCap w (l.length + mm) cap e.t = cp
    have hcple : l.length + mm ≤ cp := by
      rw [← hcp]; unfold grownCap Question.cut; exact Nat.le_add_right _ _
    let cells : Array Value := ((List.range (l.length * e.sz)).map vs).toArray ++ news.toArray ++ Builtin.zeroCells zz.cells (cp - (l.length + mm))
    have hcs : cells.size = cp * e.sz := by
      simp only [cells, Array.size_append, List.size_toArray, List.length_map, List.length_range, hnl, size_zeroCells, hsz, hes]
      rw [← Nat.add_mul, ← Nat.add_mul]; congr 1; omega
    have hrun : (Builtin.append_ tys ty #[Act.eval ⟨a, []⟩ x, Act.eval ⟨a, []⟩ y]).run P w = .ok (.slice (some ⟨w.drew.heap.size, 0, none⟩) (l.length + mm) cp) (w.drew.alloc (.cells cells e.t)) := by
      rw [hve]
      subst hcp
      exact app_run_grow ht0 ht1 hu (run_sz w hs) hd2 hd2n hi hzz hlen hnw holds hroom h63 h48
    have hdr := h.drew
    have hr1 : Rel g m.tm hp a w.drew := hr0.drew
    obtain ⟨g', n1, n2, n3, n4⟩ := hr1.newSlice (oe := oe) hp.length (l ++ elsOf (opv tm y)) e.sz hpos hall halln cells e.t (0, 0) cp (by simp [← hmm]; exact hcple) (by rw [hcs]; exact Nat.le_refl _) (fun o _ => by simp) (fun j av hj => by
      rw [List.flatMap_append] at hj
      have hfl := flat_len hl1
      by_cases hjl : j < l.length * e.sz
      · rw [List.getElem?_append_left (by omega)] at hj
        refine ⟨vs j, ?_, hvv j av hj⟩
        simp only [cells]
        rw [Array.getElem?_append_left (by simp; omega), Array.getElem?_append_left (by simp; exact hjl)]
        simp [hjl]
      · rw [List.getElem?_append_right (by omega), hfl] at hj
        have hjb : j - l.length * e.sz < mm * e.sz := by
          have := (List.getElem?_eq_some_iff.1 hj).1
          rw [flat_len hz1, ← hmm] at this; exact this
        obtain ⟨v', w1, w2, w3⟩ := hz3 _ av hj
        refine ⟨v', ?_, w2⟩
        have hA : l.length * e.sz ≤ j := Nat.not_lt.1 hjl
        have hB : j < l.length * e.sz + mm * e.sz := by have := Nat.add_lt_add_left hjb (l.length * e.sz); rwa [Nat.add_sub_of_le hA] at this
        simp only [cells]
        rw [Array.getElem?_append_left (by simp [hnl]; exact hB), Array.getElem?_append_right (by simp; exact hA)]
        simp [w1]) (by simpa using hmax) (match dst with | some d => .slot d | none => .free) (by cases dst <;> simp) rfl hoe
    have hlen2 : (l ++ elsOf (opv tm y)).length = l.length + mm := by simp [hmm]
    have hne2 : l ++ elsOf (opv tm y) ≠ [] := by intro e; have := congrArg List.length e; rw [hlen2] at this; simp at this; omega
    rw [hlen2] at n3 n4
    exact hfin _ _ g' hrun n1 ((Stp.drew _ g w).trans n2) (n3 (.inl hne2)) (fun d hd => by subst hd; exact n4 (.inl hne2))
end
end Go.Av

namespace Go.Av
open Go
section
variable {P : Program} {all : List Oper} {dst : Option Nat} {ty : TypeId} {pos : String} {after : Array Edge} {gd : Option (Nat × Bool)} {tm : List AV} {hp : Heap} {g : Gh} {a : Array Value} {w : World}
theorem op_min {x y : Operand} (h : Rel g tm hp a w) (hx : okOpd x = true) (hy : okOpd y = true) {m : MR} (hm : m = ⟨needB (known (mnv (opv tm x) (opv tm y))), mnv (opv tm x) (opv tm y), tm, hp⟩) (hc : ∀ c', m.c = some c' → c') {args : Array Operand} {tys : Array TypeId} (ha : args.toList = [x, y]) :
  OpOk P ⟨dst, .call { callee := .builtin .min, args, argTypes := tys }, ty, pos, after, gd⟩ m hp g a w := by
 subst hm
 have hk := needB_of hc
 have ha' : args = #[x, y] := by rw [← Array.toList_inj]; simpa using ha
 subst ha'
 have hv := opv_VR h hx
 have hv2 := opv_VR h hy
 cases hb : opv tm x with
 | int k n =>
  cases hb2 : opv tm y with
  | int k' n' =>
   rw [hb] at hv; rw [hb2] at hv2; rw [hb, hb2] at hk
   obtain ⟨e1, h1, h2⟩ := int_inv hv
   obtain ⟨e2, h3, h4⟩ := int_inv hv2
   have hkq : kq k k' = true := by cases hq : kq k k' with | true => rfl | false => simp [mnv, hq, known] at hk
   have := kq_eq hkq
   subst this
   refine OpOk.pure h (.int k (if n' < n then n' else n)) rfl rfl ?_ ?_ (fun k => Tail.meek (by intro l; simp only [mnv, hkq, cond_true]; simp))
   ·simp [execOp, resolve, invoke, builtin, Builtin.min_, e1, e2, Builtin.min2]
   ·simp only [mnv, hkq, cond_true]
    split
    ·exact .int h3 h4
    ·exact .int h1 h2
  | _ => rw [hb, hb2] at hk; simp [mnv, known] at hk
 | _ => rw [hb] at hk; simp [mnv, known] at hk
theorem op_max {x y : Operand} (h : Rel g tm hp a w) (hx : okOpd x = true) (hy : okOpd y = true) {m : MR} (hm : m = ⟨needB (known (mxv (opv tm x) (opv tm y))), mxv (opv tm x) (opv tm y), tm, hp⟩) (hc : ∀ c', m.c = some c' → c') {args : Array Operand} {tys : Array TypeId} (ha : args.toList = [x, y]) :
  OpOk P ⟨dst, .call { callee := .builtin .max, args, argTypes := tys }, ty, pos, after, gd⟩ m hp g a w := by
 subst hm
 have hk := needB_of hc
 have ha' : args = #[x, y] := by rw [← Array.toList_inj]; simpa using ha
 subst ha'
 have hv := opv_VR h hx
 have hv2 := opv_VR h hy
 cases hb : opv tm x with
 | int k n =>
  cases hb2 : opv tm y with
  | int k' n' =>
   rw [hb] at hv; rw [hb2] at hv2; rw [hb, hb2] at hk
   obtain ⟨e1, h1, h2⟩ := int_inv hv
   obtain ⟨e2, h3, h4⟩ := int_inv hv2
   have hkq : kq k k' = true := by cases hq : kq k k' with | true => rfl | false => simp [mxv, hq, known] at hk
   have := kq_eq hkq
   subst this
   refine OpOk.pure h (.int k (if n < n' then n' else n)) rfl rfl ?_ ?_ (fun k => Tail.meek (by intro l; simp only [mxv, hkq, cond_true]; simp))
   ·simp [execOp, resolve, invoke, builtin, Builtin.max_, e1, e2, Builtin.max2]
   ·simp only [mxv, hkq, cond_true]
    split
    ·exact .int h3 h4
    ·exact .int h1 h2
  | _ => rw [hb, hb2] at hk; simp [mxv, known] at hk
 | _ => rw [hb] at hk; simp [mxv, known] at hk
theorem op_makeFunc {f : Fn} {l1 l2 : Array Operand} (h : Rel g tm hp a w) (h1 : ∀ x, x ∈ l1 → okOpd x = true) (h2 : ∀ x, x ∈ l2 → okOpd x = true) :
  OpOk P ⟨dst, .makeFunc f l1 l2, ty, pos, after, gd⟩ (opM P all ⟨dst, .makeFunc f l1 l2, ty, pos, after, gd⟩ tm hp) hp g a w := by
 simp only [opM]
 have hh : ∀ (l : Array Operand), (∀ x, x ∈ l → okOpd x = true) → ∀ (j : Nat) (av : AV) (v : Value), ((allOp tm l).map fix)[j]? = some av → (l.map (Act.eval ⟨a, []⟩))[j]? = some v → VR g av v := by
  intro l hl j av v hj hv
  simp only [allOp, List.getElem?_map, Option.map_eq_some_iff, Array.getElem?_toList] at hj
  obtain ⟨y, ⟨x, hx, rfl⟩, rfl⟩ := hj
  simp only [Array.getElem?_map, hx, Option.map_some, Option.some.injEq] at hv
  subst hv
  exact (opv_VR h (hl x (Array.mem_of_getElem? hx))).fix
 exact OpOk.pure h (.func f (l1.map (Act.eval ⟨a, []⟩)) (l2.map (Act.eval ⟨a, []⟩))) rfl rfl (by simp [execOp, Instr.makeFunc]) (.fn (by simp [allOp]) (by simp [allOp]) (hh l1 h1) (hh l2 h2)) (fun k => Tail.meek (by intro l; simp))
theorem bytes_run {g : Gh} {l : List AV} {v : Value} (hrel : Rel g tm hp a w) {own : Option (Option ETy)} (hv : VR g (.sl own l) v) (hb : IsBytes l) {src dst e : TypeId} (hs : P.underlying src = some (.slice e)) (he : P.underlying e = some (.int .u8)) (hd : P.underlying dst = some .string) :
  ∃ s : ByteArray, (convert src dst v).run P w = .ok (.string s) w ∧ s.data.toList = l.map toByte := by
 obtain ⟨ad, cap, b, o, es, vs, hve, hcap, hlm, had, hes, h0, hn, him, hvv⟩ := sl_inv hv
 subst hve
 by_cases hne : l = []
 ·subst hne
  cases ad with
  | none => exact ⟨_, run_convert_bytes_nil w src e hs he _ _ dst hd, rfl⟩
  | some ad =>
   refine ⟨.empty, ?_, rfl⟩
   simp [convert, run_underlying hs, run_underlying hd, run_underlying he, Conv.bytesToString, loadCells, loadCellsFrom]
 ·have hfl : l.flatMap AV.cells = l := by
   clear hes had him hvv hn hlm hcap hv hne
   induction l with
   | nil => rfl
   | cons x l ih =>
    obtain ⟨n, hx⟩ := hb x (by simp)
    rw [List.flatMap_cons, ih (fun y hy => hb y (by simp [hy])), hx]; rfl
  rw [had hne]
  rw [hfl] at him hvv
  have hvals : ∀ j, j < l.length → ∃ n : Int, l[j]? = some (.int .u8 n) ∧ vs j = .int .u8 n := fun j hj => by
   obtain ⟨n, hx⟩ := hb l[j] (List.getElem_mem hj)
   have h1 : l[j]? = some (.int .u8 n) := by rw [List.getElem?_eq_getElem hj, hx]
   exact ⟨n, h1, (int_inv (hvv j _ h1)).1⟩
  let xs : List Int := l.map (fun x => match x with | .int _ n => n | _ => 0)
  refine ⟨_, run_convert_bytes_arg w src e hs he b o l.length cap xs (by simp [xs]) (fun i hi => ?_) dst hd, ?_⟩
  ·obtain ⟨n, e1, e2⟩ := hvals i hi
   rw [hrel.imms _ _ _ (him i _ e1), e2]
   simp only [xs, List.getD_eq_getElem?_getD, List.getElem?_map, e1, Option.map_some, Option.getD_some]
  ·rw [strOfNums_data]
   simp only [xs, List.map_map]
   apply List.map_congr_left
   intro x hx
   obtain ⟨n, rfl⟩ := hb x hx
   rfl
theorem u8_of {t : TypeId} (h : u8El P t = true) : ∃ e, P.underlying t = some (.slice e) ∧ P.underlying e = some (.int .u8) := by
 unfold u8El at h
 split at h
 ·rename_i e hu
  split at h
  ·rename_i he; exact ⟨e, hu, he⟩
  ·cases h
 ·cases h
theorem flat_bytes (s : List UInt8) : (s.map byteAV).flatMap AV.cells = s.map byteAV := by
 induction s with
 | nil => rfl
 | cons c s ih => simp [List.flatMap_cons, ih, AV.cells, byteAV]
theorem cco_some {o : Bool} {x : AV} {c : Prop} : cco o x (some c) = some c := by
  unfold cco; cases o <;> simp only [cond_true, cond_false]
  cases x <;> rfl
theorem cvo_ne {o : Bool} {v : AV} (h : ∀ l, v ≠ .sl none l) : cvo o v = v := by
 unfold cvo; split
 ·exact absurd rfl (h _)
 ·rfl
theorem op_convert {s d : TypeId} {x : Operand} (h : Rel g tm hp a w) (hx : okOpd x = true) (hc : ∀ c', (opM P all ⟨dst, .convert s d x, ty, pos, after, gd⟩ tm hp).c = some c' → c') :
    OpOk P ⟨dst, .convert s d x, ty, pos, after, gd⟩ (opM P all ⟨dst, .convert s d x, ty, pos, after, gd⟩ tm hp) hp g a w := by
  have hv := opv_VR h hx
  simp only [opM] at *
  have hco := hc
  replace hc : ∀ c', cvc P s d (opv tm x) = some c' → c' := fun c' e => hc c' (by rw [e, cco_some])
  cases hb : opv tm x with
  | int k n =>
    rw [hb] at hv hc
    obtain ⟨e, h1, h2⟩ := int_inv hv
    cases hk : (kindOf P d == 4 && kindOf P s == 4) with
    | true =>
      simp only [Bool.and_eq_true, beq_iff_eq] at hk
      obtain ⟨k', hu⟩ := kind_int hk.1
      obtain ⟨ks, hus⟩ := kind_int hk.2
      have hi : intOf? P d = some k' := by simp [intOf?, hu]
      rw [cvo_ne (by intro l; simp [cvv, hi])]
      refine OpOk.pure h (.int k' (k'.wrap n)) rfl rfl ?_ (by simp only [cvv, hi]; exact .int (wrap_range _ _).1 (wrap_range _ _).2) (fun k => Tail.meek (by intro l; simp [cvv, hi]))
      simp [execOp, convert, run_underlying hu, run_underlying hus, e, Conv.intToInt]
    | false => exact (hc False (by simp only [cvc, hk, cond_false])).elim
  | str l =>
    rw [hb] at hv hc hco
    obtain ⟨b, e, hbs, hlm⟩ := str_inv hv
    by_cases hk : kindOf P d = 1 ∧ kindOf P s = 1
    · have hu := kind_str hk.1
      have hus := kind_str hk.2
      rw [cvo_ne (by intro l; simp [cvv, hk.1])]
      refine OpOk.pure h (.string b) rfl rfl ?_ (by simp only [cvv, hk.1, BEq.rfl, cond_true]; exact .str hbs hlm) (fun k => Tail.meek (by intro l; simp [cvv, hk.1]))
      simp [execOp, convert, run_underlying hu, run_underlying hus, e]
    · have h1 : (kindOf P d == 1 && kindOf P s == 1) = false := by
        cases hh : (kindOf P d == 1 && kindOf P s == 1) with
        | false => rfl
        | true => simp at hh; exact absurd hh hk
      cases hh : (u8El P d && kindOf P s == 1 && kindOf P d == 2) with
      | false => exact (hc False (by simp only [cvc, h1, hh, cond_false])).elim
      | true =>
        simp only [Bool.and_eq_true, beq_iff_eq] at hh
        obtain ⟨⟨hh1, hh2⟩, hh3⟩ := hh
        obtain ⟨e0, hu, hue⟩ := u8_of hh1
        have hus := kind_str hh2
        have hrun := run_bytes_of_string (P := P) w s d e0 b hus hu hue
        generalize hcp : grownCap w b.size 0 e0 = cp at hrun
        have hcple : b.size ≤ cp := by rw [← hcp]; unfold grownCap Question.cut; exact Nat.le_add_right _ _
        have hsz : (bytesRow b cp).size = cp := by simp [bytesRow]; omega
        have hbl : b.data.toList.length = b.size := by simp
        have hA1 : ∀ z, z ∈ l.map byteAV → z.cells.length = 1 := fun z hz => by simp only [List.mem_map] at hz; obtain ⟨c, _, rfl⟩ := hz; rfl
        have hA2 : ∀ z, z ∈ l.map byteAV → ∀ c, c ∈ z.cells → noRef c = true := fun z hz c hc => by
            simp only [List.mem_map] at hz; obtain ⟨c', _, rfl⟩ := hz; simp [AV.cells, byteAV] at hc; subst hc; rfl
        have hA3 : ∀ o, o < (bytesRow b cp).size → (decide ((bytesRow b cp).size ≤ o) && decide (o < (bytesRow b cp).size + 1)) = false := fun o ho => by simp; omega
        have hA4 : ∀ (j : Nat) (av : AV), ((l.map byteAV).flatMap AV.cells)[j]? = some av → ∃ v, (bytesRow b cp)[j]? = some v ∧ VR g av v := fun j av hj => by
              rw [flat_bytes] at hj
              simp only [List.getElem?_map, Option.map_eq_some_iff] at hj
              obtain ⟨c, hcc, rfl⟩ := hj
              refine ⟨.int .u8 c.toNat, ?_, .int (u8_range c).1 (u8_range c).2⟩
              have hjl : j < b.data.size := by have := (List.getElem?_eq_some_iff.1 hcc).1; rw [← hbs] at this; simpa using this
              simp only [bytesRow]
              rw [Array.getElem?_append_left (by simpa using hjl)]
              rw [← hbs, Array.getElem?_toList] at hcc
              simp [hcc]
        have hd2 : (kindOf P d == 1) = false := by simp [hh3]
        have hvv : cvv P s d (.str l) = .sl none (l.map byteAV) := by simp only [cvv, hd2, hh3, cond_false, BEq.rfl, cond_true]; rfl
        have hcc : cvc P s d (.str l) = none := by simp [cvc, hh1, hh2, hh3]
        have hlen : (l.map byteAV).length = b.size := by simp [← hbs]
        rw [hvv]
        cases hst : stolen all dst with
        | false =>
          obtain ⟨g', n1, n2, n3⟩ := h.drew.newSlice0 hp.length (l.map byteAV) 1 (by omega) hA1 hA2 (bytesRow b cp) e0 ((bytesRow b cp).size, (bytesRow b cp).size + 1) cp (by simp [← hbs]; exact hcple) (by rw [hsz]; omega) hA3 hA4 (by simpa using hlm)
          rw [hlen] at n3
          refine ⟨_, _, _, g', by simp [execOp, e, hrun], .inl rfl, n1.put _ n3 (fun d' hd' => ?_), (Stp.drew _ g w).trans n2, Nat.le_refl _⟩
          exact Tail.meek (by intro oe l; simp [cvo])
        | true =>
          have hne : l ≠ [] := hco _ (by simp only [hst, cco, cond_true, hcc])
          obtain ⟨g', n1, n2, n3, n4⟩ := h.drew.newSliceS hp.length (l.map byteAV) 1 (by omega) hA1 hA2 (bytesRow b cp) e0 ((bytesRow b cp).size, (bytesRow b cp).size + 1) cp (by simp [← hbs]; exact hcple) (by rw [hsz]; omega) hA3 hA4 (by simpa using hlm) (match dst with | some d => .slot d | none => .free) (by cases dst <;> simp)
          rw [hlen] at n3 n4
          refine ⟨_, _, _, g', by simp [execOp, e, hrun], .inl rfl, n1.put _ (n3 (by simpa using hne)) (fun d' hd' => ?_), (Stp.drew _ g w).trans n2, Nat.le_refl _⟩
          have hd3 : dst = some d' := hd'
          subst hd3
          exact n4 (by simpa using hne)
  | sl own l =>
    rw [hb] at hv hc
    cases hh : (kindOf P d == 1 && u8El P s) with
    | false => exact (hc False (by simp only [cvc, hh, cond_false])).elim
    | true =>
      have hbytes := hc (IsBytes l) (by simp only [cvc, hh, cond_true])
      simp only [Bool.and_eq_true, beq_iff_eq] at hh
      obtain ⟨hh1, hh2⟩ := hh
      obtain ⟨e0, hu, hue⟩ := u8_of hh2
      obtain ⟨b, hr, hbs⟩ := bytes_run (P := P) h hv hbytes hu hue (kind_str hh1)
      have hlm : l.length ≤ maxB := by obtain ⟨_, _, _, _, _, _, _, _, h, _⟩ := sl_inv hv; exact h
      rw [cvo_ne (by intro l; simp [cvv, hh1])]
      refine OpOk.pure h (.string b) rfl rfl (by simp [execOp, hr]) (by simp only [cvv, hh1, BEq.rfl, cond_true]; exact .str hbs (by simpa using hlm)) (fun k => Tail.meek (by intro l; simp [cvv, hh1]))
  | _ => rw [hb] at hc; exact (hc False rfl).elim
end
end Go.Av

namespace Go.Av
open Go
theorem tmod_le {x y : Int} (h : 0 ≤ x) : x.tmod y ≤ x := by
 obtain ⟨n, rfl⟩ := Int.eq_ofNat_of_zero_le h
 cases y with
 | ofNat m => show ((n % m : Nat) : Int) ≤ n; exact Int.ofNat_le.2 (Nat.mod_le _ _)
 | negSucc m => show ((n % (m + 1) : Nat) : Int) ≤ n; exact Int.ofNat_le.2 (Nat.mod_le _ _)
theorem tmod_range (k : IntKind) {x y : Int} (h1 : k.min ≤ x) (h2 : x ≤ k.max) : k.min ≤ x.tmod y ∧ x.tmod y ≤ k.max := by
  have hmin : k.min ≤ 0 := by cases k <;> simp [IntKind.min, IntKind.signed, IntKind.bits]
  have hmax : 0 ≤ k.max := by cases k <;> simp [IntKind.max, IntKind.signed, IntKind.bits]
  rcases Int.le_total 0 x with h | h
  · have a1 := Int.tmod_nonneg y h
    have a2 := tmod_le h (y := y)
    omega
  · have a1 : (-x).tmod y = -(x.tmod y) := Int.neg_tmod ..
    have a2 := Int.tmod_nonneg y (show 0 ≤ -x by omega)
    have a3 := tmod_le (show 0 ≤ -x by omega) (y := y)
    omega
theorem shr_range (k : IntKind) {x : Int} (n : Nat) (h1 : k.min ≤ x) (h2 : x ≤ k.max) : k.min ≤ x.fdiv (2 ^ n) ∧ x.fdiv (2 ^ n) ≤ k.max := by
  have hmin : k.min ≤ 0 := by cases k <;> simp [IntKind.min, IntKind.signed, IntKind.bits]
  have hmax : 0 ≤ k.max := by cases k <;> simp [IntKind.max, IntKind.signed, IntKind.bits]
  have hp : (1 : Int) ≤ 2 ^ n := by have := Nat.one_le_two_pow (n := n); exact_mod_cast this
  rw [Int.fdiv_eq_ediv_of_nonneg _ (by omega)]
  rcases Int.le_total 0 x with h | h
  · have a1 := Int.ediv_nonneg h (show (0 : Int) ≤ 2 ^ n by omega)
    have a2 := Int.ediv_le_self (2 ^ n) h
    omega
  · have a1 : x ≤ x / 2 ^ n := Int.le_ediv_of_mul_le (by omega) (by have := Int.mul_le_mul_of_nonpos_left h hp; simpa using this)
    have a2 : x / 2 ^ n ≤ 0 := Int.ediv_nonpos_of_nonpos_of_neg h (by omega)
    omega
theorem toList_data (b : ByteArray) : b.toList = b.data.toList := ByteArray.toList_eq b
section
variable {P : Program} {all : List Oper} {dst : Option Nat} {ty : TypeId} {pos : String} {after : Array Edge} {gd : Option (Nat × Bool)} {tm : List AV} {hp : Heap} {g : Gh} {a : Array Value} {w : World}
theorem guard_other {op : BinOp} {t : TypeId} {x y : Operand} {u v : Value} (h : ¬ (u = .nilIface ∧ v = .nilIface)) (h2 : ∀ c d, ¬ (u = .agg c ∧ v = .agg d)) : (eqGuard op t x y u v).run P w = .ok () w := by
  unfold eqGuard
  cases op <;> simp <;> (split <;> simp_all)
theorem guard_nil {op : BinOp} {t : TypeId} {x y : Operand} (h : (isC x || isC y) = true) : (eqGuard op t x y .nilIface .nilIface).run P w = .ok () w := by
  unfold eqGuard
  cases x <;> cases y <;> simp_all [isC] <;> cases op <;> simp
theorem op_int {op : BinOp} {t : TypeId} {x y : Operand} {t2 : TypeId} {k k' : IntKind} {n n' : Int} (h : Rel g tm hp a w) (hx : VR g (.int k n) (Act.eval ⟨a, []⟩ x)) (hy : VR g (.int k' n') (Act.eval ⟨a, []⟩ y))
    (hk : known (binv P op t (.int k n) (.int k' n')) = true) (hc : ∀ c, binc op (.int k n) (.int k' n') = some c → c) {m : MR} (hm : m.v = binv P op t (.int k n) (.int k' n') ∧ m.tm = tm ∧ m.hp = hp) :
    OpOk P ⟨dst, .binOp op t x y t2, ty, pos, after, gd⟩ m hp g a w := by
  obtain ⟨m1, m2, m3⟩ := hm
  obtain ⟨e1, h1, h2⟩ := int_inv hx
  obtain ⟨e2, h3, h4⟩ := int_inv hy
  have hg : (eqGuard op t x y (Value.int k n) (Value.int k' n')).run P w = .ok () w := guard_other (by simp) (by simp)
  have fin : ∀ v, (binOp op t (.int k n) (.int k' n')).run P w = .ok v w → VR g (binv P op t (.int k n) (.int k' n')) v → Meek (binv P op t (.int k n) (.int k' n')) → OpOk P ⟨dst, .binOp op t x y t2, ty, pos, after, gd⟩ m hp g a w := by
    intro v hr hv hmk
    exact OpOk.pure h v m2 m3 (by simp [execOp, e1, e2, hg, hr]) (by rw [m1]; exact hv) (fun k => Tail.meek (by rw [m1]; exact hmk))
  cases op with
  | shl =>
    have hb : 0 ≤ n' := hc _ rfl
    refine fin _ ?_ (.int (wrap_range _ _).1 (wrap_range _ _).2) (by intro l; simp [binv, shv])
    simp only [binOp, Op.shift]
    rw [if_neg (by omega)]; rfl
  | shr =>
    have hb : 0 ≤ n' := hc _ rfl
    refine fin _ ?_ (.int (shr_range k _ h1 h2).1 (shr_range k _ h1 h2).2) (by intro l; simp [binv, shv])
    simp only [binOp, Op.shift]
    rw [if_neg (by omega)]; rfl
  | eql =>
    have hkq : kq k k' = true := by
      cases hq : kq k k' with
      | true => rfl
      | false => simp [binv, hq, known] at hk
    have := kq_eq hkq
    subst this
    have e3 : binv P .eql t (.int k n) (.int k n') = .bool (decide (n = n')) := by simp only [binv, hkq, cond_true, intv, cmpv]
    refine fin (.bool (decide (n = n'))) ?_ (by rw [e3]; exact .bool) (by rw [e3]; intro l; simp)
    simp only [binOp, Op.intCmp, ne_eq, not_true_eq_false, if_false, Sem.run_pure]
    congr 2
  | neq =>
    have hkq : kq k k' = true := by
      cases hq : kq k k' with
      | true => rfl
      | false => simp [binv, hq, known] at hk
    have := kq_eq hkq
    subst this
    have e3 : binv P .neq t (.int k n) (.int k n') = .bool (!decide (n = n')) := by simp only [binv, hkq, cond_true, intv, cmpv]
    refine fin (.bool (!decide (n = n'))) ?_ (by rw [e3]; exact .bool) (by rw [e3]; intro l; simp)
    simp only [binOp, Op.intCmp, ne_eq, not_true_eq_false, if_false, Sem.run_pure]
    congr 2
  | _ =>
    have hkq : kq k k' = true := by
      cases hq : kq k k' with
      | true => rfl
      | false => simp [binv, hq, known] at hk
    have := kq_eq hkq
    subst this
    simp only [binv, hkq, cond_true, intv, cmpv] at fin ⊢
    first
      | (refine fin _ ?_ (.int (wrap_range _ _).1 (wrap_range _ _).2) (by intro l; simp); simp [binOp, Op.intArith, Op.intBits, bitv]; done)
      | (refine fin _ ?_ .bool (by intro l; simp); simp [binOp, Op.intCmp]; done)
      | (have hb : n' ≠ 0 := hc _ rfl
         refine fin _ ?_ (.int (wrap_range _ _).1 (wrap_range _ _).2) (by intro l; simp); simp [binOp, Op.intDiv, hb]; done)
      | (have hb : n' ≠ 0 := hc _ rfl
         refine fin _ ?_ (.int (tmod_range _ h1 h2).1 (tmod_range _ h1 h2).2) (by intro l; simp); simp [binOp, Op.intDiv, hb]; done)
theorem op_str {op : BinOp} {t : TypeId} {x y : Operand} {t2 : TypeId} {s s' : List UInt8} (h : Rel g tm hp a w) (hx : VR g (.str s) (Act.eval ⟨a, []⟩ x)) (hy : VR g (.str s') (Act.eval ⟨a, []⟩ y))
  (hk : known (binv P op t (.str s) (.str s')) = true) (hc : ∀ c, binc op (.str s) (.str s') = some c → c) {m : MR} (hm : m.v = binv P op t (.str s) (.str s') ∧ m.tm = tm ∧ m.hp = hp) :
  OpOk P ⟨dst, .binOp op t x y t2, ty, pos, after, gd⟩ m hp g a w := by
 obtain ⟨m1, m2, m3⟩ := hm
 obtain ⟨b, e1, h1, h2⟩ := str_inv hx
 obtain ⟨b', e2, h3, h4⟩ := str_inv hy
 have hg : (eqGuard op t x y (Value.string b) (Value.string b')).run P w = .ok () w := guard_other (by simp) (by simp)
 have fin : ∀ v, (binOp op t (.string b) (.string b')).run P w = .ok v w → VR g (binv P op t (.str s) (.str s')) v → Meek (binv P op t (.str s) (.str s')) → OpOk P ⟨dst, .binOp op t x y t2, ty, pos, after, gd⟩ m hp g a w := by
  intro v hr hv hmk
  exact OpOk.pure h v m2 m3 (by simp [execOp, e1, e2, hg, hr]) (by rw [m1]; exact hv) (fun k => Tail.meek (by rw [m1]; exact hmk))
 cases op with
 | add =>
  have hb : s.length + s'.length ≤ maxB := hc _ rfl
  refine fin (.string (b ++ b')) ?_ (.str (by simp [h1, h3]) (by simpa using hb)) (by intro l; simp [binv, strv])
  have hs1 : b.size = s.length := by rw [← h1]; simp
  have hs2 : b'.size = s'.length := by rw [← h3]; simp
  have : ¬ (((b.size + b'.size : Nat) : Int) > IntKind.i64.max) := by
   simp only [IntKind.max, IntKind.signed, IntKind.bits, maxB] at *
   simp only [hs1, hs2]; simp; omega
  simp only [binOp, Op.stringOp]
  rw [if_neg this]; rfl
 | eql => exact fin _ rfl (by simp only [binv, strv, toList_data, h1, h3]; exact .bool) (by intro l; simp [binv, strv])
 | neq => exact fin _ rfl (by simp only [binv, strv, toList_data, h1, h3]; exact .bool) (by intro l; simp [binv, strv])
 | lss => exact fin _ rfl (by simp only [binv, strv, toList_data, h1, h3]; exact .bool) (by intro l; simp [binv, strv])
 | leq => exact fin _ rfl (by simp only [binv, strv, toList_data, h1, h3]; exact .bool) (by intro l; simp [binv, strv])
 | gtr => exact fin _ rfl (by simp only [binv, strv, toList_data, h1, h3]; exact .bool) (by intro l; simp [binv, strv])
 | geq => exact fin _ rfl (by simp only [binv, strv, toList_data, h1, h3]; exact .bool) (by intro l; simp [binv, strv])
 | _ => simp [binv, strv, known] at hk
theorem eqs_run {d : Nat} {t : TypeId} {x y : AV} {u v : Value} {r : Bool} (hx : VR g x u) (hy : VR g y v) (hr : eqs x y = some r) (ht : (kindOf P t = 1 ∧ ∃ s, x = .str s) ∨ (kindOf P t = 4 ∧ ∃ k n, x = .int k n) ∨ (kindOf P t = 6 ∧ ∃ b, x = .bool b)) :
    (Op.equalIn (d + 1) t u v).run P w = .ok r w := by
  rcases ht with ⟨ht, s, rfl⟩ | ⟨ht, k, n, rfl⟩ | ⟨ht, b, rfl⟩
  · cases y with
    | str s' =>
      obtain ⟨b, rfl, h1, _⟩ := str_inv hx
      obtain ⟨b', rfl, h3, _⟩ := str_inv hy
      simp only [eqs, Option.some.injEq] at hr
      rw [run_equalIn_string w d t b b' (kind_str ht), toList_data, toList_data, h1, h3, hr]
    | _ => simp [eqs] at hr
  · cases y with
    | int k' n' =>
      obtain ⟨rfl, _, _⟩ := int_inv hx
      obtain ⟨rfl, _, _⟩ := int_inv hy
      obtain ⟨k0, hu⟩ := kind_int ht
      cases hq : kq k k' with
      | false => simp [eqs, hq] at hr
      | true =>
        have := kq_eq hq; subst this
        simp only [eqs, hq, cond_true, Option.some.injEq] at hr
        rw [run_equalIn_int w d t k k0 n n' hu, ← hr]; rfl
    | _ => simp [eqs] at hr
  · cases y with
    | bool b' =>
      have e1 := bool_inv hx
      have e2 := bool_inv hy
      subst e1 e2
      simp only [eqs, Option.some.injEq] at hr
      have hu : P.underlying t = some .bool := by unfold kindOf at ht; split at ht <;> simp_all
      rw [run_equalIn_bool' w d t b b' hu, hr]
    | _ => simp [eqs] at hr
end
end Go.Av

