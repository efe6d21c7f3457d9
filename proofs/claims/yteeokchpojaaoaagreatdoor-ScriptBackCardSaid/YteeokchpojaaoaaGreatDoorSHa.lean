import Derived.Test.YteeokchpojaaoaaGreatDoorSEn
import Derived.Test.YteeokchpojaaoaaGreatDoorHa6
import Derived.Test.YteeokchpojaaoaaGreatDoorRng
import Derived.Test.YteeokchpojaaoaaGreatDoorShf
import Derived.Test.YteeokchpojaaoaaGreatDoorNu3
set_option linter.unusedSectionVars false
set_option linter.unusedVariables false
set_option linter.unusedSimpArgs false
set_option linter.unusedVariables false
set_option linter.unusedSimpArgs false
set_option maxRecDepth 100000
namespace Go.Cq
open Go Go.Av Go.Proofs
class SeatLay [Lay] : Prop where
  ml : ∃ m, Lay.L 1 0 (.int .i64 m)
  rt : Lay.L 0 0 (NumTry.RT 25)
  ts : Lay.S 2 20
  tl : ∀ (j : Nat) z, Lib.pow10Tab[j]? = some z → Lay.L 2 j (.int .u64 z)
  e1 : ∃ t a, Lay.L 7 0 (.iface t a)
  e2 : ∃ t a, Lay.L 8 0 (.iface t a)
theorem SeatLay.le {L L' : Lay} (h : L.Le L') [s : @SeatLay L] : @SeatLay L' := by
  refine @SeatLay.mk L' ?_ ?_ ?_ ?_ ?_ ?_
  · obtain ⟨m, hm⟩ := s.ml; exact ⟨m, h.l _ _ _ hm⟩
  · exact h.l _ _ _ s.rt
  · exact h.s _ _ s.ts
  · exact fun j z hz => h.l _ _ _ (s.tl j z hz)
  · obtain ⟨t, a, hm⟩ := s.e1; exact ⟨t, a, h.l _ _ _ hm⟩
  · obtain ⟨t, a, hm⟩ := s.e2; exact ⟨t, a, h.l _ _ _ hm⟩
variable [Lay] [SeatLay]
theorem en (n : Nat) {fn : Func} {c : Code} (hf : Tryz.prog.funcs[n]? = some fn) (hname : (fn.name == "runtime.NumGoroutine") = false) (hb : fn.body = some c) : ∀ vs w, (callFunc n vs).run Tryz.prog w = .ok (.enter n vs) w := Go.Proofs.enters_of hf hname hb
theorem w_bytealg_idx {s : Str} {c r : Int} (h : bytealg_idx s c = some r) : ACall Tryz.prog 74 [.str s, .int .u8 c] [] (.int .i64 r) [] := by
  obtain rfl := Option.some.inj h
  exact acall_idxByte Tryz.func74 (by kernel_rfl) (by kernel_rfl) (by kernel_rfl) (by kernel_rfl) s c
theorem w_strings_Join {xs : List Str} {sep r : Str} (h : strings_Join xs sep = some r) : ACall Tryz.prog 24 [.sl none (List.map AV.str xs), .str sep] [] (.str r) [] :=
  acall_join (en 24 Tryz.func24 (by kernel_rfl) rfl) (fun a c sep w => Tryz.strings_Join_none a c sep w) (fun bk o c xs sep w h1 h2 h3 h4 h5 => Tryz.strings_Join bk o c xs sep w h1 h2 h3 h4 h5) h
theorem w_strings_Cut {s sep : Str} {r : Str × Str × Bool} (h : strings_Cut s sep = some r) : ACall Tryz.prog 19 [.str s, .str sep] [] (.tup [.str r.1, .str r.2.1, .bool r.2.2]) [] := by
  obtain ⟨m, hm⟩ := SeatLay.ml
  exact acall_cut hm (en 19 Tryz.func19 (by kernel_rfl) rfl) (fun s sep w h1 h2 => Tryz.strings_Cut s sep m w h1 h2) h
theorem w_strings_Split {s sep : Str} {r : List Str} (h : strings_Split s sep = some r) : ACall Tryz.prog 34 [.str s, .str sep] [] (.sl none (List.map AV.str r)) [] := by
  obtain ⟨m, hm⟩ := SeatLay.ml
  exact acall_split hm (en 34 Tryz.func34 (by kernel_rfl) rfl) (fun s sep w h1 h2 h3 => Tryz.strings_Split s sep m w h1 h2 h3) h
theorem w_strconv_Itoa {n : Int} {r : Str} (h : strconv_Itoa n = some r) : ACall Tryz.prog 31 [.int .i64 n] [] (.str r) [] :=
  acall_itoa (G := 2) (by kernel_rfl) SeatLay.ts SeatLay.tl (en 31 Tryz.func31 (by kernel_rfl) rfl) (fun n w h1 h2 h3 => Tryz.strconv_Itoa n h1 h2 w h3) h
theorem w_strconv_Atoi {s : Str} {r : Int × Bool} (h : strconv_Atoi s = some r) : ACall Tryz.prog 85 [.str s] [] (.tup [.int .i64 r.1, encO 163 r.2]) [] := by
  obtain ⟨t1, a1, h1⟩ := SeatLay.e1
  obtain ⟨t2, a2, h2⟩ := SeatLay.e2
  exact acall_atoi h1 h2 (en 85 Tryz.func85 (by kernel_rfl) rfl) (fun s v w q1 q2 => Tryz.strconv_Atoi_ok s q1 v q2 w) (fun s ev w q1 q2 q3 q4 => (Any.strconv_Atoi_syntax Tryz.laysC172 s q1 (q2.trans rfl) ev w q3 q4).mono fun e w' ⟨N, e1, _, _, e4⟩ => ⟨N, e1, e4⟩) (fun s ev w q1 q2 q3 q4 => (Tryz.strconv_Atoi_range s q1 q2 ev w q3 q4).mono fun e w' ⟨N, e1, _, _, e4⟩ => ⟨N, e1, e4⟩) h
theorem iface_inv {g : Gh} {t : TypeId} {a : AV} {v : Value} (h : VR g (.iface t a) v) : ∃ u, v = .iface t u ∧ VR g a u := by cases h; exact ⟨_, rfl, by assumption⟩
theorem nilI_inv {g : Gh} {v : Value} (h : VR g .nilI v) : v = .nilIface := by cases h; rfl
theorem w_law_num {e : Option Int} {r : Int} (h : law_num e = some r) : ACall Tryz.prog 9 [encE 56 e] [] (.int .i64 r) [] := by
  refine acall_ans rfl (by intro oe l; simp) (en 9 Tryz.func9 (by kernel_rfl) rfl) fun g w vs hL hr hs => ?_
  have hg := hr.imms _ _ _ (hL.1 _ _ _ SeatLay.rt)
  have h0 : 0 < w.heap.size := hr.lt (b := 0) (o := 0) (by rw [hL.1 _ _ _ SeatLay.rt]; simp)
  have hv := (hr.slots 0).1
  rw [vs1 hs]
  cases e with
  | none =>
    obtain rfl := Option.some.inj h
    have e0 : vs.getD 0 undef = .nilIface := nilI_inv hv
    rw [e0]
    refine (NumTry.num_0 w).mono ?_
    rintro e w' ⟨rfl, hb⟩
    exact ⟨_, rfl, .int (by decide) (by decide), hb⟩
  | some n =>
    obtain rfl := Option.some.inj h
    obtain ⟨u, e0, hu⟩ := iface_inv (a := .int .i64 n) hv
    obtain ⟨rfl, h1, h2⟩ := int_inv hu
    rw [e0]
    refine (NumTry.num_w n w hg h0).mono ?_
    rintro e w' ⟨rfl, hb⟩
    exact ⟨_, rfl, .int h1 h2, hb⟩
end Go.Cq

