import Derived.Test.YtmedpledgchipaaGreatDoorEx3
set_option linter.unusedSectionVars false
set_option linter.unusedVariables false
set_option linter.unusedSimpArgs false
set_option linter.unnecessarySimpa false
namespace Go.Av
open Go
theorem wrap64_eq {n : Int} (h1 : -9223372036854775808 ≤ n) (h2 : n ≤ 9223372036854775807) : IntKind.wrap .i64 n = n := by
 rw [IntKind.wrap_i64]; omega
def fuel : Nat := 18446744073709551616
def ck (n : Int) : Option Int := if -9223372036854775808 ≤ n ∧ n ≤ 9223372036854775807 then some n else none
def sIdx (s : List UInt8) (i : Int) : Option Int := if 0 ≤ i ∧ i < s.length then some ((s.getD i.toNat 0).toNat : Int) else none
def lAt {α : Type} (xs : List α) (i : Int) : Option α := if 0 ≤ i then xs[i.toNat]? else none
def sub {α : Type} (s : List α) (lo hi : Int) : Option (List α) := if 0 ≤ lo ∧ lo ≤ hi ∧ hi ≤ s.length then some ((s.take hi.toNat).drop lo.toNat) else none
def app {α : Type} (by_ : Nat) (l m : List α) : Option (List α) := if l.length + m.length ≤ maxB ∧ (l.length + m.length) * by_ ≤ maxB then some (l ++ m) else none
def quo (k : IntKind) (a b : Int) : Option Int := if b ≠ 0 then some (k.wrap (a.tdiv b)) else none
def rem (a b : Int) : Option Int := if b ≠ 0 then some (a.tmod b) else none
def shl (k : IntKind) (a b : Int) : Option Int := if 0 ≤ b then some (k.wrap (a * 2 ^ (min b.toNat k.bits))) else none
def shr (k : IntKind) (a b : Int) : Option Int := if 0 ≤ b then some (a.fdiv (2 ^ (min b.toNat k.bits))) else none
def letK {Y Z ρ : Type} (K : Y → Z) (body : (Y → Z) → ρ) : ρ := body K
def encE (T : TypeId) : Option Int → AV
 | none => .nilI
 | some n => .iface T (.int .i64 n)
section
variable {ρ : Type} {r : ρ} {G : Prop}
theorem bsome {α : Type} {o : Option α} {A : α → Option ρ} (h : o.bind A = some r) (g : ∀ v, o = some v → A v = some r → G) : G := by
 cases o with
 | none => simp at h
 | some v => exact g v rfl h
theorem letK_s {Y Z : Type} {K : Y → Z} {body : (Y → Z) → Option ρ} (h : letK K body = some r) (g : ∀ K', K' = K → body K' = some r → G) : G := g K rfl h
theorem ck_s {n : Int} {A : Int → Option ρ} (h : (ck n).bind A = some r) (g : ∀ v, ck n = some v → IntKind.wrap .i64 n = v → A v = some r → G) : G := by
 unfold ck at h g
 split at h
 ·rename_i hc; exact g n (by rw [if_pos hc]) (wrap64_eq hc.1 hc.2) h
 ·simp at h
theorem add_s {a b : Int} {A : Int → Option ρ} (h : (ck (a + b)).bind A = some r) (g : ∀ v, ck (a + b) = some v → intv .add .i64 a b = .int .i64 v → A v = some r → G) : G :=
 ck_s h fun v h0 e h => g v h0 (congrArg (AV.int .i64) e) h
theorem sub_s {a b : Int} {A : Int → Option ρ} (h : (ck (a - b)).bind A = some r) (g : ∀ v, ck (a - b) = some v → intv .sub .i64 a b = .int .i64 v → A v = some r → G) : G :=
 ck_s h fun v h0 e h => g v h0 (congrArg (AV.int .i64) e) h
theorem cvt_s {P : Program} {s d : TypeId} {k : IntKind} (hd : intOf? P d = some .i64) {a : Int} {A : Int → Option ρ} (h : (ck a).bind A = some r) (g : ∀ v, ck a = some v → cvv P s d (.int k a) = .int .i64 v → A v = some r → G) : G :=
 ck_s h fun v h0 e h => g v h0 (by simp only [cvv, hd, e]) h
theorem cvw_e {P : Program} {s d : TypeId} {k k' : IntKind} (hd : intOf? P d = some k') (a : Int) : cvv P s d (.int k a) = .int k' (k'.wrap a) := by simp only [cvv, hd]
theorem sIdx_s (k : IntKind) {s : List UInt8} {i : Int} {A : Int → Option ρ} (h : (sIdx s i).bind A = some r) (g : ∀ c, sIdx s i = some c → idxC (.str s) (.int k i) → idxV (.str s) (.int k i) = .int .u8 c → A c = some r → G) : G := by
 unfold sIdx at h g
 split at h
 ·rename_i hc; exact g _ (by rw [if_pos hc]) hc rfl h
 ·simp at h
theorem lAt_s {α : Type} (enc : α → AV) (own : Option (Option ETy)) (k : IntKind) (e : El) (hsz : ∀ x, (enc x).cells.length = e.sz) {xs : List α} {i : Int} {A : α → Option ρ} (h : (lAt xs i).bind A = some r)
  (g : ∀ x, lAt xs i = some x → iadC e (.sl own (xs.map enc)) (.int k i) → iadV (.sl own (xs.map enc)) (.int k i) = .ip (enc x).cells → A x = some r → G) : G := by
 refine bsome h fun x hx h => g x hx ?_ ?_ h
 ·unfold lAt at hx
  split at hx
  ·rename_i hi
   obtain ⟨hlt, he⟩ := List.getElem?_eq_some_iff.1 hx
   refine ⟨hi, ?_, ?_⟩
   ·simp; omega
   ·have : (xs.map enc).getD i.toNat .any = enc x := by simp [List.getD_eq_getElem?_getD, hx]
    rw [this]; exact hsz x
  ·simp at hx
 ·unfold lAt at hx
  split at hx
  ·rename_i hi
   have : (xs.map enc).getD i.toNat .any = enc x := by simp [List.getD_eq_getElem?_getD, hx]
   simp only [iadV, this]
  ·simp at hx
theorem subS_s (lo hi : Option AV) {s : List UInt8} {l h' : Int} (hlo : loOf lo = some l) (hhi : hiOf s.length hi = some h') {A : List UInt8 → Option ρ} (h : (sub s l h').bind A = some r)
  (g : ∀ t, sub s l h' = some t → subSC (.str s) lo hi → subSV (.str s) lo hi = .str t → A t = some r → G) : G := by
 unfold sub at h g
 split at h
 ·rename_i hc
  refine g _ (by rw [if_pos hc]) ?_ ?_ h
  ·simp only [subSC, hlo, hhi, slc]; exact hc
  ·simp only [subSV, hlo, hhi, slv]
 ·simp at h
theorem subL_s {α : Type} (enc : α → AV) (own : Option (Option ETy)) (e : El) (hsz : ∀ x, (enc x).cells.length = e.sz) (lo hi : Option AV) {s : List α} {l h' : Int} (hlo : loOf lo = some l) (hhi : hiOf s.length hi = some h') {A : List α → Option ρ} (h : (sub s l h').bind A = some r)
  (g : ∀ t, sub s l h' = some t → subLC e (.sl own (s.map enc)) lo hi → subLV (.sl own (s.map enc)) lo hi = .sl none (t.map enc) → A t = some r → G) : G := by
 unfold sub at h g
 split at h
 ·rename_i hc
  refine g _ (by rw [if_pos hc]) ?_ ?_ h
  ·simp only [subLC, hlo, List.length_map, hhi, slc]
   refine ⟨hc, fun z hz => ?_⟩
   obtain ⟨x, _, rfl⟩ := List.mem_map.1 hz
   exact hsz x
  ·simp only [subLV, hlo, List.length_map, hhi, slv, List.map_drop, List.map_take]
 ·simp at h
theorem app_s {α : Type} (enc : α → AV) (o : Option (Option ETy)) (e : El) (hsz : ∀ x, okEl e.sz (enc x) = true) (h0 : 0 < e.sz) {b : Nat} (hb : e.by_ = b) {l m : List α} {A : List α → Option ρ} (h : (app b l m).bind A = some r)
  (g : ∀ v, app b l m = some v → appc e (.sl (some none) (l.map enc)) (.sl o (m.map enc)) → appv (.sl (some none) (l.map enc)) (.sl o (m.map enc)) = .sl (some none) (v.map enc) → A v = some r → G) : G := by
 unfold app at h g
 split at h
 ·rename_i hc
  refine g _ (by rw [if_pos hc]) ?_ ?_ h
  ·subst hb
   refine ⟨h0, fun z hz => ?_, fun z hz => ?_, ?_, ?_⟩
   ·obtain ⟨x, _, rfl⟩ := List.mem_map.1 hz; exact hsz x
   ·obtain ⟨x, _, rfl⟩ := List.mem_map.1 hz; exact hsz x
   ·simpa using hc.1
   ·simpa using hc.2
  ·simp [appv, elsOf]
 ·simp at h
theorem appE_s {α : Type} {E : ETy} (enc : α → AV) (o : Option (Option ETy)) (e : El) (hsz : ∀ x, okEl e.sz (enc x) = true) (h0 : 0 < e.sz) (hE : E.1 = e.t ∧ (E.2 = 0 ∨ E.2 = e.sz)) {b : Nat} (hb : e.by_ = b) {l m : List α} {A : List α → Option ρ} (h : (app b l m).bind A = some r)
  (g : ∀ v, app b l m = some v → appc e (.sl (some (some E)) (l.map enc)) (.sl o (m.map enc)) → appv (.sl (some (some E)) (l.map enc)) (.sl o (m.map enc)) = .sl (some (some E)) (v.map enc) → A v = some r → G) : G := by
 unfold app at h g
 split at h
 ·rename_i hc
  refine g _ (by rw [if_pos hc]) ?_ ?_ h
  ·subst hb
   refine ⟨hE.1, hE.2, h0, fun z hz => ?_, fun z hz => ?_, ?_, ?_⟩
   ·obtain ⟨x, _, rfl⟩ := List.mem_map.1 hz; exact hsz x
   ·obtain ⟨x, _, rfl⟩ := List.mem_map.1 hz; exact hsz x
   ·simpa using hc.1
   ·simpa using hc.2
  ·simp [appv, elsOf]
 ·simp at h
def toInts (s : List UInt8) : List Int := s.map fun c => (c.toNat : Int)
def ofInts (l : List Int) : List UInt8 := l.map fun n => UInt8.ofNat n.toNat
theorem toInts_map (s : List UInt8) : (toInts s).map (AV.int .u8) = s.map byteAV := by
 unfold toInts; rw [List.map_map]; rfl
theorem appS_s (e : El) (h0 : e.sz = 1) (hb : e.by_ = 1) {l : List Int} {s : List UInt8} {A : List Int → Option ρ} (h : (app 1 l (toInts s)).bind A = some r)
  (g : ∀ v, app 1 l (toInts s) = some v → appc e (.sl (some none) (l.map (AV.int .u8))) (.str s) → appv (.sl (some none) (l.map (AV.int .u8))) (.str s) = .sl (some none) (v.map (AV.int .u8)) → A v = some r → G) : G := by
 unfold app at h g
 split at h
 ·rename_i hc
  have hl : (toInts s).length = s.length := by simp [toInts]
  rw [hl] at hc
  refine g _ (by rw [hl, if_pos hc]) ?_ ?_ h
  ·refine ⟨h0, fun z hz => ?_, ?_, ?_⟩
   ·obtain ⟨x, _, rfl⟩ := List.mem_map.1 hz; rw [h0]; rfl
   ·simpa using hc.1
   ·rw [hb]; simpa using hc.1
  ·simp only [appv, elsOf, List.map_append, toInts_map]
 ·simp at h
theorem bytes_e {P : Program} {s d : TypeId} (h1 : (kindOf P d == 1) = false) (h2 : (kindOf P d == 2) = true) (t : List UInt8) : cvv P s d (.str t) = .sl none ((toInts t).map (AV.int .u8)) := by
 simp only [cvv, h1, h2, cond_true, cond_false, toInts_map]
theorem text_e {P : Program} {s d : TypeId} (h1 : (kindOf P d == 1) = true) (o : Option (Option ETy)) (l : List Int) : cvv P s d (.sl o (l.map (AV.int .u8))) = .str (ofInts l) := by
 simp only [cvv, h1, cond_true, List.map_map, ofInts]; rfl
theorem isBytes_e (l : List Int) : IsBytes (l.map (AV.int .u8)) := fun x hx => by
 obtain ⟨n, _, rfl⟩ := List.mem_map.1 hx; exact ⟨n, rfl⟩
theorem shl_s {k : IntKind} {a b : Int} {A : Int → Option ρ} (h : (shl k a b).bind A = some r) (g : ∀ v, shl k a b = some v → 0 ≤ b → shv .shl k a b = .int k v → A v = some r → G) : G := by
 unfold shl at h g
 split at h
 ·rename_i hc; exact g _ (by rw [if_pos hc]) hc rfl h
 ·simp at h
theorem shr_s {k : IntKind} {a b : Int} {A : Int → Option ρ} (h : (shr k a b).bind A = some r) (g : ∀ v, shr k a b = some v → 0 ≤ b → shv .shr k a b = .int k v → A v = some r → G) : G := by
 unfold shr at h g
 split at h
 ·rename_i hc; exact g _ (by rw [if_pos hc]) hc rfl h
 ·simp at h
theorem ite_t {b : Bool} {A B : Option ρ} (hb : b = true) (h : (if b = true then A else B) = some r) : A = some r := by rw [if_pos hb] at h; exact h
theorem ite_f {b : Bool} {A B : Option ρ} (hb : b = false) (h : (if b = true then A else B) = some r) : B = some r := by rw [if_neg (by simp [hb])] at h; exact h
end
section
variable [Lay] {P : Program} {nb : Nat} {R : Rt} {k1 k2 k : List Item} {tm : List AV} {hp : Heap} {b : Bool} {x y : Code} {ρ : Type} {r : ρ} {A B : Option ρ}
theorem cnd_s (n : Nat) (h : (if b = true then A else B) = some r) (hx : b = true → A = some r → hold P nb R (ex P n none (.code x :: k1) k2 tm hp)) (hy : b = false → B = some r → hold P nb R (ex P n none (.code y :: k1) k2 tm hp)) : hold P nb R (.cnd b x y k1 k2 tm hp) := by
 refine cnd_ n (fun e => hx e ?_) (fun e => hy e ?_)
 ·rw [if_pos e] at h; exact h
 ·rw [if_neg (by simp [e])] at h; exact h
end
section
variable [Lay] {P : Program} {nb : Nat} {tm : List AV} {hp hp1 : Heap} {rs : List ResultVar} {α : Type} {v r : α}
theorem ret_s (enc : α → AV) (h : some v = some r) (hr : resAV P rs tm hp = some (enc v)) : hold P nb (Res P (List.toArray rs) (enc r)) (.fin tm hp) := by
 cases h; exact hr
end
section
variable {T : TypeId} {e : Option Int} {eb : Bool}
theorem fix_encE : fix (encE T e) = encE T e := by cases e <;> rfl
theorem ltR_encE {n : Nat} : ltR n (encE T e) = true := by cases e <;> rfl
theorem ren_encE {f : Nat → Nat} : ren f (encE T e) = encE T e := by cases e <;> rfl
theorem mvV_encE {all : List Oper} {d : Option Nat} : mvV all d (encE T e) = encE T e := by cases e <;> rfl
theorem mvTv_encE {all : List Oper} {d : Option Nat} {tm : List AV} {t : Nat} : mvTv all d tm t (encE T e) = tm := by cases e <;> rfl
theorem asTv_encE {tm : List AV} {t : Nat} : asTv tm t (encE T e) = tm := by cases e <;> rfl
theorem binv_encE_eq {P : Program} {t : TypeId} (h : kindOf P t = 3) : binv P .eql t (encE T e) .nilI = .bool e.isNone := by cases e <;> simp [binv, encE, h, eqv, eqop, obool]
theorem binv_encE_ne {P : Program} {t : TypeId} (h : kindOf P t = 3) : binv P .neq t (encE T e) .nilI = .bool e.isSome := by cases e <;> simp [binv, encE, h, eqv, eqop, obool, neg]
theorem nilOk_encE {x : Operand} {v : Value} {a b : AV} : nilOk x (.const v) a b = true := by unfold nilOk; split <;> simp [isC]
theorem meek_encE : Meek (encE T e) := by intro l; cases e <;> simp [encE]
end
theorem meek_int {k : IntKind} {n : Int} : Meek (.int k n) := by intro l; simp
theorem meek_bool {b : Bool} : Meek (.bool b) := by intro l; simp
theorem meek_str {s : List UInt8} : Meek (.str s) := by intro l; simp
theorem meek_sl {l : List AV} : Meek (.sl none l) := by intro l; simp
theorem meek_agg {l : List AV} : Meek (.agg l) := by intro l; simp
theorem meek_tup {l : List AV} : Meek (.tup l) := by intro l; simp
end Go.Av

