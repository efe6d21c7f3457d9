import Derived.Test.YteeokchpojaaoaaGreatDoorLB
import Derived.Test.YteeokchpojaaoaaGreatDoorLW
import Derived.Test.YteeokchpojaaoaaGreatDoorLP
import Derived.Test.YteeokchpojaaoaaGreatDoorLF
set_option linter.unusedSectionVars false
set_option linter.unusedVariables false
set_option linter.unusedSimpArgs false
set_option maxRecDepth 100000
set_option linter.unusedVariables false
set_option linter.unusedSimpArgs false
namespace Go.Cq
open Go Go.Av

/-! ### What a line's pieces mean -/
abbrev Cmd := script_Command
def nval (p : Str) : Option Int := match script_number p with
  | some (v, true) => some v
  | _ => none
def vval (p : Str) : Option api_Val := match script_value p with
  | some (v, true) => some v
  | _ => none
def addN (c : Cmd) (n : Int) : Cmd := ⟨c.Name, c.N ++ [n], c.V, c.W, c.S⟩
def addV (c : Cmd) (v : api_Val) : Cmd := ⟨c.Name, c.N, c.V ++ [v], c.W, c.S⟩
def setW (c : Cmd) (w : Str) : Cmd := ⟨c.Name, c.N, c.V, w, c.S⟩
def setS (c : Cmd) (s : Str) : Cmd := ⟨c.Name, c.N, c.V, c.W, s⟩
def allI : List Str → Cmd → Option Cmd
  | [], c => some c
  | p :: ps, c => (nval p).bind fun n => allI ps (addN c n)
def allV : List Str → Cmd → Option Cmd
  | [], c => some c
  | p :: ps, c => (vval p).bind fun n => allV ps (addV c n)
/-- What a form's letter takes of the pieces. -/
def partF (k : UInt8) (ps : List Str) (c : Cmd) : Option (Cmd × List Str) :=
  if k = 105 then (match ps with
    | [] => none
    | p :: ps => (nval p).bind fun n => some (addN c n, ps))
  else if k = 42 then (allI ps c).bind fun c => some (c, [])
  else if k = 118 then (match ps with
    | [] => none
    | p :: ps => (vval p).bind fun n => some (addV c n, ps))
  else if k = 86 then (allV ps c).bind fun c => some (c, [])
  else if k = 119 then (match ps with
    | [] => none
    | p :: ps => if wordB p = true then some (setW c p, ps) else none)
  else (match ps with
    | [] => none
    | p :: l => some (setS c (Lib.join (p :: l) [32]), []))
def readF : Str → List Str → Cmd → Option (Cmd × List Str)
  | [], ps, c => some (c, ps)
  | k :: f, ps, c => (partF k ps c).bind fun x => readF f x.2 x.1
def isLt (k : UInt8) : Bool := k == 105 || k == 42 || k == 118 || k == 86 || k == 119 || k == 115

def tot : List Str → Nat
  | [] => 0
  | p :: ps => p.length + 1 + tot ps
theorem tot_len : ∀ ps : List Str, ps.length ≤ tot ps
  | [] => by simp [tot]
  | p :: ps => by have := tot_len ps; simp [tot]; omega
theorem tot_join : ∀ ps : List Str, (Lib.join ps [32]).length ≤ tot ps
  | [] => by simp [Lib.join_nil]
  | [p] => by simp [Lib.join_one, tot]
  | p :: q :: ps => by
    have h := tot_join (q :: ps)
    have e1 := Lib.join_length p (q :: ps) [32]
    have e2 := Lib.join_length q ps [32]
    simp [tot, Lib.lens] at *
    omega
theorem number_tot {s : Str} (hs : s.length ≤ 1000000) : ∃ v b, script_number s = some (v, b) ∧ nval s = if b = true then some v else none := by
  obtain ⟨v, w, b, h1, h2, h3⟩ := nums_same (s := s) (by omega)
  refine ⟨v, b, h1, ?_⟩
  unfold nval; rw [h1]; cases b <;> rfl
theorem value_tot {s : Str} (hs : s.length ≤ 1000000) : ∃ v b, script_value s = some (v, b) ∧ vval s = if b = true then some v else none := by
  obtain ⟨v, w, b, h1, h2, h3⟩ := value_same (s := s) hs
  refine ⟨v, b, h1, ?_⟩
  unfold vval; rw [h1]; cases b <;> rfl

/-! ### The program's reader -/
/-- What a reader has come to. -/
def Rok (m : Option (Cmd × List Str)) (rd : script_reader) : Prop := match m with
  | some x => rd = ⟨x.1, x.2, false⟩
  | none => rd.wrong = true
def Bd (T M : Nat) (rd : script_reader) : Prop := tot rd.parts ≤ T ∧ rd.c.N.length + rd.c.V.length + rd.parts.length ≤ M
theorem Bd.mono {T M M' : Nat} {rd : script_reader} (h : Bd T M rd) (hm : M ≤ M') : Bd T M' rd := ⟨h.1, by have := h.2; omega⟩
theorem lAt0 {α : Type} (p : α) (ps : List α) : lAt (p :: ps) 0 = some p := rfl
theorem sub1 {α : Type} (p : α) (ps : List α) : sub (p :: ps) 1 ((p :: ps).length : Int) = some ps := by
  unfold sub; rw [if_pos ⟨by omega, by simp; omega, by omega⟩]; simp
theorem next_nil (c : Cmd) (w : Bool) : script_reader_next ⟨c, [], w⟩ = some ([], ⟨c, [], true⟩) := rfl
theorem next_cons (c : Cmd) (p : Str) (ps : List Str) (w : Bool) : script_reader_next ⟨c, p :: ps, w⟩ = some (p, ⟨c, ps, w⟩) := by
  unfold script_reader_next
  dsimp only
  rw [decide_eq_false (by simp; omega), ifF, lAt0, bindS, sub1, bindS]
theorem orW (w b : Bool) : (if w = true then some true else some (!b)) = some (w || !b) := by cases w <;> rfl
theorem orW2 (w b : Bool) : (if w = true then some true else some b) = some (w || b) := by cases w <;> rfl
theorem number_spec (c : Cmd) (ps : List Str) (w : Bool) {T M : Nat} (hT : T ≤ 1000000) (hM : M ≤ 4000000) (hb : Bd T M ⟨c, ps, w⟩) :
    ∃ rd, script_reader_number ⟨c, ps, w⟩ = some rd ∧ Bd T (M + 1) rd ∧ (w = true → rd.wrong = true) ∧ (w = false → Rok (partF 105 ps c) rd) ∧ (ps ≠ [] → rd.parts = ps.tail ∧ Bd T M rd) := by
  have hb2 := hb.2
  have hb1 := hb.1
  dsimp only at hb1 hb2
  unfold script_reader_number
  cases ps with
  | nil =>
    rw [next_nil, bindS]
    obtain ⟨v, b, h1, h2⟩ := number_tot (s := []) (by simp)
    dsimp only
    rw [h1, bindS, orW, bindS, app_of (by simp; omega) (by simp; omega), bindS]
    exact ⟨_, rfl, ⟨hb1, by simp at *; omega⟩, fun _ => by rw [Bool.true_or], fun _ => rfl, fun h => absurd rfl h⟩
  | cons p ps =>
    simp only [tot] at hb1
    rw [next_cons, bindS]
    obtain ⟨v, b, h1, h2⟩ := number_tot (s := p) (by omega)
    dsimp only
    simp only [List.length_cons] at hb2
    rw [h1, bindS, orW, bindS, app_of (by simp; omega) (by simp; omega), bindS]
    have hB : Bd T M ⟨⟨c.Name, c.N ++ [v], c.V, c.W, c.S⟩, ps, w || !b⟩ := ⟨by dsimp only; omega, by simp; omega⟩
    refine ⟨_, rfl, hB.mono (by omega), fun h => by rw [h]; rfl, fun h => ?_, fun _ => ⟨rfl, hB⟩⟩
    subst h
    unfold partF
    rw [if_pos rfl]
    dsimp only
    rw [h2]
    cases b <;> rfl
theorem value_spec (c : Cmd) (ps : List Str) (w : Bool) {T M : Nat} (hT : T ≤ 1000000) (hM : M ≤ 4000000) (hb : Bd T M ⟨c, ps, w⟩) :
    ∃ rd, script_reader_value ⟨c, ps, w⟩ = some rd ∧ Bd T (M + 1) rd ∧ (w = true → rd.wrong = true) ∧ (w = false → Rok (partF 118 ps c) rd) ∧ (ps ≠ [] → rd.parts = ps.tail ∧ Bd T M rd) := by
  have hb2 := hb.2
  have hb1 := hb.1
  dsimp only at hb1 hb2
  unfold script_reader_value
  cases ps with
  | nil =>
    rw [next_nil, bindS]
    obtain ⟨v, b, h1, h2⟩ := value_tot (s := []) (by simp)
    dsimp only
    rw [h1, bindS, orW, bindS, app_of (by simp; omega) (by simp; omega), bindS]
    exact ⟨_, rfl, ⟨hb1, by simp at *; omega⟩, fun _ => by rw [Bool.true_or], fun _ => rfl, fun h => absurd rfl h⟩
  | cons p ps =>
    simp only [tot] at hb1
    rw [next_cons, bindS]
    obtain ⟨v, b, h1, h2⟩ := value_tot (s := p) (by omega)
    dsimp only
    simp only [List.length_cons] at hb2
    rw [h1, bindS, orW, bindS, app_of (by simp; omega) (by simp; omega), bindS]
    have hB : Bd T M ⟨⟨c.Name, c.N, c.V ++ [v], c.W, c.S⟩, ps, w || !b⟩ := ⟨by dsimp only; omega, by simp; omega⟩
    refine ⟨_, rfl, hB.mono (by omega), fun h => by rw [h]; rfl, fun h => ?_, fun _ => ⟨rfl, hB⟩⟩
    subst h
    unfold partF
    rw [if_neg (show ¬ ((118 : UInt8) = 105) by decide), if_neg (show ¬ ((118 : UInt8) = 42) by decide), if_pos rfl]
    dsimp only
    rw [h2]
    cases b <;> rfl
theorem star_spec {T M : Nat} (hT : T ≤ 1000000) (hM : M ≤ 4000000) : ∀ (ps : List Str) (q : Nat) (c : Cmd) (w : Bool), Bd T M ⟨c, ps, w⟩ → ps.length < q →
    ∃ rd, script_reader_part_l1 q ⟨c, ps, w⟩ = some rd ∧ Bd T M rd ∧ (w = true → rd.wrong = true) ∧ (w = false → Rok ((allI ps c).bind fun c => some (c, [])) rd)
  | [], q+1, c, w, hb, _ => by
    rw [script_reader_part_l1]
    exact ⟨_, rfl, hb, fun h => h, fun h => by rw [h]; rfl⟩
  | p :: ps, q+1, c, w, hb, hq => by
    rw [script_reader_part_l1]
    obtain ⟨rd, h1, h2, h3, h4, h5⟩ := number_spec c (p :: ps) w hT hM hb
    obtain ⟨h5, h6⟩ := h5 (by simp)
    rw [decide_eq_true (by simp <;> omega), ifT, h1, bindS]
    obtain ⟨c', ps', w'⟩ := rd
    obtain rfl : ps' = ps := h5
    obtain ⟨rd2, g1, g2, g3, g4⟩ := star_spec hT hM ps' q c' w' h6 (by simp at hq; omega)
    refine ⟨rd2, g1, g2, fun hw => g3 (h3 hw), fun hw => ?_⟩
    have hr := h4 hw
    unfold partF at hr
    rw [if_pos rfl] at hr
    unfold allI
    cases hn : nval p with
    | none =>
      simp only [hn, Option.bind_none] at hr ⊢
      exact g3 hr
    | some n =>
      simp only [hn, Option.bind_some, Rok] at hr ⊢
      injection hr with e1 e2 e3
      subst e1; subst e3
      exact g4 rfl
  | [], 0, _, _, _, hq => by omega
  | _ :: _, 0, _, _, _, hq => by omega
theorem starV_spec {T M : Nat} (hT : T ≤ 1000000) (hM : M ≤ 4000000) : ∀ (ps : List Str) (q : Nat) (c : Cmd) (w : Bool), Bd T M ⟨c, ps, w⟩ → ps.length < q →
    ∃ rd, script_reader_part_l2 q ⟨c, ps, w⟩ = some rd ∧ Bd T M rd ∧ (w = true → rd.wrong = true) ∧ (w = false → Rok ((allV ps c).bind fun c => some (c, [])) rd)
  | [], q+1, c, w, hb, _ => by
    rw [script_reader_part_l2]
    exact ⟨_, rfl, hb, fun h => h, fun h => by rw [h]; rfl⟩
  | p :: ps, q+1, c, w, hb, hq => by
    rw [script_reader_part_l2]
    obtain ⟨rd, h1, h2, h3, h4, h5⟩ := value_spec c (p :: ps) w hT hM hb
    obtain ⟨h5, h6⟩ := h5 (by simp)
    rw [decide_eq_true (by simp <;> omega), ifT, h1, bindS]
    obtain ⟨c', ps', w'⟩ := rd
    obtain rfl : ps' = ps := h5
    obtain ⟨rd2, g1, g2, g3, g4⟩ := starV_spec hT hM ps' q c' w' h6 (by simp at hq; omega)
    refine ⟨rd2, g1, g2, fun hw => g3 (h3 hw), fun hw => ?_⟩
    have hr := h4 hw
    unfold partF at hr
    rw [if_neg (show ¬ ((118 : UInt8) = 105) by decide), if_neg (show ¬ ((118 : UInt8) = 42) by decide), if_pos rfl] at hr
    unfold allV
    cases hn : vval p with
    | none =>
      simp only [hn, Option.bind_none] at hr ⊢
      exact g3 hr
    | some n =>
      simp only [hn, Option.bind_some, Rok] at hr ⊢
      injection hr with e1 e2 e3
      subst e1; subst e3
      exact g4 rfl
  | [], 0, _, _, _, hq => by omega
  | _ :: _, 0, _, _, _, hq => by omega
theorem u8ne {k m : UInt8} (h : k ≠ m) : decide ((k.toNat : Int) = (m.toNat : Int)) = false := decide_eq_false fun e => h (UInt8.toNat_inj.1 (by omega))
theorem bindId {α : Type} (x : Option α) : (x.bind fun y => some y) = x := by cases x <;> rfl
theorem len_fuel {α : Type} {l : List α} (h : l.length ≤ 100000000) : l.length < fuel := Nat.lt_of_le_of_lt h (by decide)
theorem part_spec (k : UInt8) (hk : isLt k = true) (c : Cmd) (ps : List Str) (w : Bool) {T M : Nat} (hT : T ≤ 1000000) (hM : M ≤ 4000000) (hb : Bd T M ⟨c, ps, w⟩) :
    ∃ rd, script_reader_part ⟨c, ps, w⟩ (k.toNat : Int) = some rd ∧ Bd T (M + 1) rd ∧ (w = true → rd.wrong = true) ∧ (w = false → Rok (partF k ps c) rd) := by
  have hb2 := hb.2
  have hb1 := hb.1
  dsimp only at hb1 hb2
  have htl := tot_len ps
  unfold script_reader_part
  simp only [bindId]
  by_cases h1 : k = 105
  · subst h1
    obtain ⟨rd, g1, g2, g3, g4, _⟩ := number_spec c ps w hT hM hb
    rw [show decide ((((105 : UInt8).toNat : Nat) : Int) = 105) = true from rfl, ifT]
    exact ⟨rd, g1, g2, g3, g4⟩
  rw [show decide (((k.toNat : Nat) : Int) = 105) = false from u8ne h1, ifF]
  by_cases h2 : k = 42
  · subst h2
    obtain ⟨rd, g1, g2, g3, g4⟩ := star_spec hT hM ps fuel c w hb (len_fuel (by omega))
    rw [show decide ((((42 : UInt8).toNat : Nat) : Int) = 42) = true from rfl, ifT]
    refine ⟨rd, g1, g2.mono (by omega), g3, fun hw => ?_⟩
    have := g4 hw
    unfold partF
    rw [if_neg h1, if_pos rfl]; exact this
  rw [show decide (((k.toNat : Nat) : Int) = 42) = false from u8ne h2, ifF]
  by_cases h3 : k = 118
  · subst h3
    obtain ⟨rd, g1, g2, g3, g4, _⟩ := value_spec c ps w hT hM hb
    rw [show decide ((((118 : UInt8).toNat : Nat) : Int) = 118) = true from rfl, ifT]
    exact ⟨rd, g1, g2, g3, g4⟩
  rw [show decide (((k.toNat : Nat) : Int) = 118) = false from u8ne h3, ifF]
  by_cases h4 : k = 86
  · subst h4
    obtain ⟨rd, g1, g2, g3, g4⟩ := starV_spec hT hM ps fuel c w hb (len_fuel (by omega))
    rw [show decide ((((86 : UInt8).toNat : Nat) : Int) = 86) = true from rfl, ifT]
    refine ⟨rd, g1, g2.mono (by omega), g3, fun hw => ?_⟩
    have := g4 hw
    unfold partF
    rw [if_neg h1, if_neg h2, if_neg h3, if_pos rfl]; exact this
  rw [show decide (((k.toNat : Nat) : Int) = 86) = false from u8ne h4, ifF]
  by_cases h5 : k = 119
  · subst h5
    rw [show decide ((((119 : UInt8).toNat : Nat) : Int) = 119) = true from rfl, ifT]
    cases ps with
    | nil =>
      rw [next_nil, bindS]
      dsimp only
      rw [ifT, bindS]
      exact ⟨_, rfl, ⟨hb1, by simp at *; omega⟩, fun _ => rfl, fun _ => rfl⟩
    | cons p ps =>
      simp only [tot] at hb1
      simp only [List.length_cons] at hb2
      rw [next_cons, bindS]
      dsimp only
      rw [script_word (by omega), bindS, orW, bindS]
      refine ⟨_, rfl, ⟨by dsimp only; omega, by dsimp only; omega⟩, fun h => by rw [h]; rfl, fun h => ?_⟩
      subst h
      unfold partF
      rw [if_neg h1, if_neg h2, if_neg h3, if_neg h4, if_pos rfl]
      dsimp only
      cases wordB p <;> rfl
  rw [show decide (((k.toNat : Nat) : Int) = 119) = false from u8ne h5, ifF]
  have h6 : k = 115 := by
    unfold isLt at hk; simpa [h1, h2, h3, h4, h5] using hk
  subst h6
  rw [show decide ((((115 : UInt8).toNat : Nat) : Int) = 115) = true from rfl, ifT]
  have hj := tot_join ps
  rw [orW2, bindS, show strings_Join ps [32] = some (Lib.join ps [32]) from if_pos ⟨by omega, by omega⟩, bindS]
  refine ⟨_, rfl, ⟨by simp [tot], by simp; omega⟩, fun h => by rw [h]; rfl, fun h => ?_⟩
  subst h
  unfold partF
  rw [if_neg h1, if_neg h2, if_neg h3, if_neg h4, if_neg h5]
  cases ps with
  | nil => rfl
  | cons p l => rfl
theorem read_spec (v5 : Str × Bool) {T : Nat} (hT : T ≤ 1000000) : ∀ (f : Str) (M : Nat) (c : Cmd) (ps : List Str) (w : Bool), (∀ k, k ∈ f → isLt k = true) → M + f.length ≤ 3000000 → Bd T M ⟨c, ps, w⟩ →
    ∃ c' b, script_command_l1 v5 f ⟨c, ps, w⟩ = some (c', b) ∧ c'.N.length + c'.V.length ≤ M + f.length ∧ (b = true → w = false ∧ v5.2 = true ∧ readF f ps c = some (c', [])) ∧ (w = false → v5.2 = true → (∃ c2, readF f ps c = some (c2, [])) → b = true)
  | [], M, c, ps, w, _, _, hb => by
    rw [script_command_l1]
    refine ⟨c, v5.2 && (!w && decide ((ps.length : Int) = 0)), ?_, by have := hb.2; dsimp only at this; omega, fun h => ?_, fun hw hv h => ?_⟩
    · cases v5.2 <;> cases w <;> rfl
    · simp only [Bool.and_eq_true, Bool.not_eq_true', decide_eq_true_eq] at h
      obtain ⟨h1, h2, h3⟩ := h
      have : ps = [] := by cases ps with
        | nil => rfl
        | cons p l => simp at h3; omega
      subst this
      exact ⟨h2, h1, rfl⟩
    · obtain ⟨c2, h⟩ := h
      simp only [readF, Option.some.injEq, Prod.mk.injEq] at h
      rw [hv, hw, h.2]; rfl
  | k :: f, M, c, ps, w, hf, hM, hb => by
    rw [script_command_l1]
    have hk := hf k (by simp)
    have hlt : k.toNat < 128 := by
      unfold isLt at hk
      simp only [Bool.or_eq_true, beq_iff_eq] at hk
      rcases hk with ((((h | h) | h) | h) | h) | h <;> subst h <;> decide
    rw [if_pos hlt]
    simp only [List.length_cons] at hM
    obtain ⟨rd, h1, h2, h3, h4⟩ := part_spec k hk c ps w hT (by omega) hb
    rw [h1, bindS]
    obtain ⟨c1, ps1, w1⟩ := rd
    obtain ⟨c', b, g1, gb, g2, g3⟩ := read_spec v5 hT f (M+1) c1 ps1 w1 (fun k hk => hf k (by simp [hk])) (by omega) h2
    refine ⟨c', b, g1, by simp; omega, fun hb => ?_, fun hw hv h => ?_⟩
    · obtain ⟨e1, e2, e3⟩ := g2 hb
      have hw : w = false := by cases w with
        | false => rfl
        | true => have := h3 rfl
                  dsimp only at this
                  rw [this] at e1; cases e1
      refine ⟨hw, e2, ?_⟩
      have := h4 hw
      unfold readF
      cases hp : partF k ps c with
      | none => rw [hp] at this; simp only [Rok] at this; rw [e1] at this; cases this
      | some x =>
        rw [hp] at this
        simp only [Rok] at this
        injection this with a1 a2 a3
        subst a1; subst a2
        exact e3
    · have := h4 hw
      unfold readF at h
      cases hp : partF k ps c with
      | none => rw [hp] at h; obtain ⟨_, h⟩ := h; cases h
      | some x =>
        rw [hp] at this h
        simp only [Rok] at this
        injection this with a1 a2 a3
        subst a1; subst a2
        exact g3 a3 hv h

/-! ### Lines -/
theorem splitC_ne (c : UInt8) : ∀ s : Str, splitC c s ≠ []
  | [] => by simp [splitC]
  | x :: r => by
    unfold splitC
    split
    · simp
    · split <;> simp
theorem splitC_tot (c : UInt8) : ∀ s : Str, tot (splitC c s) = s.length + 1
  | [] => rfl
  | x :: r => by
    have h := splitC_tot c r
    have hn := splitC_ne c r
    unfold splitC
    split
    · simp [tot, h]; omega
    · cases hs : splitC c r with
      | nil => exact absurd hs hn
      | cons p l => rw [hs] at h; simp [tot] at h ⊢; omega
/-- A line's command. -/
def cmdF (s : Str) : Option Cmd := match splitC 32 s with
  | [] => none
  | p :: l => if (formF p).2 = true then (match readF (formF p).1 l ⟨p, [], [], [], []⟩ with
    | some (c, []) => some c
    | _ => none) else none
theorem form_letters (name : Str) : ∀ k, k ∈ (formF name).1 → isLt k = true := by
  unfold formF
  have hall : (nmL.zip fmL).all (fun p => p.2.all isLt) = true := by decide
  cases h : (nmL.zip fmL).find? (fun p => p.1 == name) with
  | none => intro k hk; simp at hk
  | some p =>
    have := List.all_eq_true.1 hall p (List.mem_of_find?_eq_some h)
    exact fun k hk => List.all_eq_true.1 this k hk
theorem form_len (name : Str) : (formF name).1.length ≤ 3 := by
  unfold formF
  have hall : (nmL.zip fmL).all (fun p => decide (p.2.length ≤ 3)) = true := by decide
  cases h : (nmL.zip fmL).find? (fun p => p.1 == name) with
  | none => simp
  | some p =>
    have := List.all_eq_true.1 hall p (List.mem_of_find?_eq_some h)
    simpa using this
theorem script_cmd {s : Str} (hs : s.length ≤ 100000) : ∃ c b, script_command s = some (c, b) ∧ c.N.length + c.V.length ≤ 200000 ∧ (b = true → cmdF s = some c) ∧ (b = false → cmdF s = none) := by
  unfold script_command cmdF
  rw [split_one 32 (by omega), bindS]
  have hn := splitC_ne 32 s
  have ht := splitC_tot 32 s
  cases hsp : splitC 32 s with
  | nil => exact absurd hsp hn
  | cons p l =>
    rw [hsp] at ht
    simp only [tot] at ht
    have htl := tot_len l
    rw [lAt0, bindS, script_form, bindS, sub1, bindS]
    obtain ⟨c, b, h1, hb0, h2, h3⟩ := read_spec (formF p) (T := 100000) (by omega) (formF p).1 100000 ⟨p, [], [], [], []⟩ l false (form_letters p) (by have := form_len p; omega) ⟨by dsimp only; omega, by simp; omega⟩
    refine ⟨c, b, h1, by have := form_len p; omega, fun hb => ?_, fun hb => ?_⟩
    · obtain ⟨_, e1, e2⟩ := h2 hb
      dsimp only
      rw [if_pos e1, e2]
    · subst hb
      dsimp only
      cases hv : (formF p).2 with
      | false => rfl
      | true =>
        rw [if_pos rfl]
        split
        · rename_i c2 e
          have := h3 rfl hv ⟨c2, e⟩
          cases this
        · rfl
end Go.Cq

