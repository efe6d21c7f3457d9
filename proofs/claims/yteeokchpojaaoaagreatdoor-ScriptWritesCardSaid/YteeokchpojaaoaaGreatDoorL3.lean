import Derived.Test.YteeokchpojaaoaaGreatDoorL2
import Derived.Test.YteeokchpojaaoaaGreatDoorL1
set_option linter.unusedSectionVars false
set_option linter.unusedVariables false
set_option linter.unusedSimpArgs false
set_option maxRecDepth 100000
set_option linter.unusedVariables false
set_option linter.unusedSimpArgs false
namespace Go.Cq
open Go Go.Av

/-! ### What a line's pieces mean -/
abbrev Cmd := script_Command
def nval (p : Str) : Option Int := match script_number p with
  | some (v, true) => some v
  | _ => none
def vval (p : Str) : Option api_Val := match script_value p with
  | some (v, true) => some v
  | _ => none
def addN (c : Cmd) (n : Int) : Cmd := ⟨c.Name, c.N ++ [n], c.V, c.W, c.S⟩
def addV (c : Cmd) (v : api_Val) : Cmd := ⟨c.Name, c.N, c.V ++ [v], c.W, c.S⟩
def setW (c : Cmd) (w : Str) : Cmd := ⟨c.Name, c.N, c.V, w, c.S⟩
def setS (c : Cmd) (s : Str) : Cmd := ⟨c.Name, c.N, c.V, c.W, s⟩
def allI : List Str → Cmd → Option Cmd
  | [], c => some c
  | p :: ps, c => (nval p).bind fun n => allI ps (addN c n)
def allV : List Str → Cmd → Option Cmd
  | [], c => some c
  | p :: ps, c => (vval p).bind fun n => allV ps (addV c n)
/-- What a form's letter takes of the pieces. -/
def partF (k : UInt8) (ps : List Str) (c : Cmd) : Option (Cmd × List Str) :=
  if k = 105 then (match ps with
    | [] => none
    | p :: ps => (nval p).bind fun n => some (addN c n, ps))
  else if k = 42 then (allI ps c).bind fun c => some (c, [])
  else if k = 118 then (match ps with
    | [] => none
    | p :: ps => (vval p).bind fun n => some (addV c n, ps))
  else if k = 86 then (allV ps c).bind fun c => some (c, [])
  else if k = 119 then (match ps with
    | [] => none
    | p :: ps => if wordB p = true then some (setW c p, ps) else none)
  else (match ps with
    | [] => none
    | p :: l => some (setS c (Lib.join (p :: l) [32]), []))
def readF : Str → List Str → Cmd → Option (Cmd × List Str)
  | [], ps, c => some (c, ps)
  | k :: f, ps, c => (partF k ps c).bind fun x => readF f x.2 x.1
def isLt (k : UInt8) : Bool := k == 105 || k == 42 || k == 118 || k == 86 || k == 119 || k == 115

def tot : List Str → Nat
  | [] => 0
  | p :: ps => p.length + 1 + tot ps
theorem tot_len : ∀ ps : List Str, ps.length ≤ tot ps
  | [] => by simp [tot]
  | p :: ps => by have := tot_len ps; simp [tot]; omega
theorem tot_join : ∀ ps : List Str, (Lib.join ps [32]).length ≤ tot ps
  | [] => by simp [Lib.join_nil]
  | [p] => by simp [Lib.join_one, tot]
  | p :: q :: ps => by
    have h := tot_join (q :: ps)
    have e1 := Lib.join_length p (q :: ps) [32]
    have e2 := Lib.join_length q ps [32]
    simp [tot, Lib.lens] at *
    omega
theorem number_tot {s : Str} (hs : s.length ≤ 1000000) : ∃ v b, script_number s = some (v, b) ∧ nval s = if b = true then some v else none := by
  obtain ⟨v, w, b, h1, h2, h3⟩ := nums_same (s := s) (by omega)
  refine ⟨v, b, h1, ?_⟩
  unfold nval; rw [h1]; cases b <;> rfl
theorem value_tot {s : Str} (hs : s.length ≤ 1000000) : ∃ v b, script_value s = some (v, b) ∧ vval s = if b = true then some v else none := by
  obtain ⟨v, w, b, h1, h2, h3⟩ := value_same (s := s) hs
  refine ⟨v, b, h1, ?_⟩
  unfold vval; rw [h1]; cases b <;> rfl

/-! ### The program's reader -/
/-- What a reader has come to. -/
def Rok (m : Option (Cmd × List Str)) (rd : script_reader) : Prop := match m with
  | some x => rd = ⟨x.1, x.2, false⟩
  | none => rd.wrong = true
def Bd (T M : Nat) (rd : script_reader) : Prop := tot rd.parts ≤ T ∧ rd.c.N.length + rd.c.V.length + rd.parts.length ≤ M
theorem Bd.mono {T M M' : Nat} {rd : script_reader} (h : Bd T M rd) (hm : M ≤ M') : Bd T M' rd := ⟨h.1, by have := h.2; omega⟩
theorem lAt0 {α : Type} (p : α) (ps : List α) : lAt (p :: ps) 0 = some p := rfl
theorem sub1 {α : Type} (p : α) (ps : List α) : sub (p :: ps) 1 ((p :: ps).length : Int) = some ps := by
  unfold sub; rw [if_pos ⟨by omega, by simp; omega, by omega⟩]; simp
theorem next_nil (c : Cmd) (w : Bool) : script_reader_next ⟨c, [], w⟩ = some ([], ⟨c, [], true⟩) := rfl
theorem next_cons (c : Cmd) (p : Str) (ps : List Str) (w : Bool) : script_reader_next ⟨c, p :: ps, w⟩ = some (p, ⟨c, ps, w⟩) := by
  unfold script_reader_next
  dsimp only
  rw [decide_eq_false (by simp; omega), ifF, lAt0, bindS, sub1, bindS]
theorem orW (w b : Bool) : (if w = true then some true else some (!b)) = some (w || !b) := by cases w <;> rfl
theorem orW2 (w b : Bool) : (if w = true then some true else some b) = some (w || b) := by cases w <;> rfl
theorem number_spec (c : Cmd) (ps : List Str) (w : Bool) {T M : Nat} (hT : T ≤ 1000000) (hM : M ≤ 4000000) (hb : Bd T M ⟨c, ps, w⟩) :
    ∃ rd, script_reader_number ⟨c, ps, w⟩ = some rd ∧ Bd T (M + 1) rd ∧ (w = true → rd.wrong = true) ∧ (w = false → Rok (partF 105 ps c) rd) ∧ (ps ≠ [] → rd.parts = ps.tail ∧ Bd T M rd) := by
  have hb2 := hb.2
  have hb1 := hb.1
  dsimp only at hb1 hb2
  unfold script_reader_number
  cases ps with
  | nil =>
    rw [next_nil, bindS]
    obtain ⟨v, b, h1, h2⟩ := number_tot (s := []) (by simp)
    dsimp only
    rw [h1, bindS, orW, bindS, app_of (by simp; omega) (by simp; omega), bindS]
    exact ⟨_, rfl, ⟨hb1, by simp at *; omega⟩, fun _ => by rw [Bool.true_or], fun _ => rfl, fun h => absurd rfl h⟩
  | cons p ps =>
    simp only [tot] at hb1
    rw [next_cons, bindS]
    obtain ⟨v, b, h1, h2⟩ := number_tot (s := p) (by omega)
    dsimp only
    simp only [List.length_cons] at hb2
    rw [h1, bindS, orW, bindS, app_of (by simp; omega) (by simp; omega), bindS]
    have hB : Bd T M ⟨⟨c.Name, c.N ++ [v], c.V, c.W, c.S⟩, ps, w || !b⟩ := ⟨by dsimp only; omega, by simp; omega⟩
    refine ⟨_, rfl, hB.mono (by omega), fun h => by rw [h]; rfl, fun h => ?_, fun _ => ⟨rfl, hB⟩⟩
    subst h
    unfold partF
    rw [if_pos rfl]
    dsimp only
    rw [h2]
    cases b <;> rfl
theorem value_spec (c : Cmd) (ps : List Str) (w : Bool) {T M : Nat} (hT : T ≤ 1000000) (hM : M ≤ 4000000) (hb : Bd T M ⟨c, ps, w⟩) :
    ∃ rd, script_reader_value ⟨c, ps, w⟩ = some rd ∧ Bd T (M + 1) rd ∧ (w = true → rd.wrong = true) ∧ (w = false → Rok (partF 118 ps c) rd) ∧ (ps ≠ [] → rd.parts = ps.tail ∧ Bd T M rd) := by
  have hb2 := hb.2
  have hb1 := hb.1
  dsimp only at hb1 hb2
  unfold script_reader_value
  cases ps with
  | nil =>
    rw [next_nil, bindS]
    obtain ⟨v, b, h1, h2⟩ := value_tot (s := []) (by simp)
    dsimp only
    rw [h1, bindS, orW, bindS, app_of (by simp; omega) (by simp; omega), bindS]
    exact ⟨_, rfl, ⟨hb1, by simp at *; omega⟩, fun _ => by rw [Bool.true_or], fun _ => rfl, fun h => absurd rfl h⟩
  | cons p ps =>
    simp only [tot] at hb1
    rw [next_cons, bindS]
    obtain ⟨v, b, h1, h2⟩ := value_tot (s := p) (by omega)
    dsimp only
    simp only [List.length_cons] at hb2
    rw [h1, bindS, orW, bindS, app_of (by simp; omega) (by simp; omega), bindS]
    have hB : Bd T M ⟨⟨c.Name, c.N, c.V ++ [v], c.W, c.S⟩, ps, w || !b⟩ := ⟨by dsimp only; omega, by simp; omega⟩
    refine ⟨_, rfl, hB.mono (by omega), fun h => by rw [h]; rfl, fun h => ?_, fun _ => ⟨rfl, hB⟩⟩
    subst h
    unfold partF
    rw [if_neg (show ¬ ((118 : UInt8) = 105) by decide), if_neg (show ¬ ((118 : UInt8) = 42) by decide), if_pos rfl]
    dsimp only
    rw [h2]
    cases b <;> rfl
theorem star_spec {T M : Nat} (hT : T ≤ 1000000) (hM : M ≤ 4000000) : ∀ (ps : List Str) (q : Nat) (c : Cmd) (w : Bool), Bd T M ⟨c, ps, w⟩ → ps.length < q →
    ∃ rd, script_reader_part_l1 q ⟨c, ps, w⟩ = some rd ∧ Bd T M rd ∧ (w = true → rd.wrong = true) ∧ (w = false → Rok ((allI ps c).bind fun c => some (c, [])) rd)
  | [], q+1, c, w, hb, _ => by
    rw [script_reader_part_l1]
    exact ⟨_, rfl, hb, fun h => h, fun h => by rw [h]; rfl⟩
  | p :: ps, q+1, c, w, hb, hq => by
    rw [script_reader_part_l1]
    obtain ⟨rd, h1, h2, h3, h4, h5⟩ := number_spec c (p :: ps) w hT hM hb
    obtain ⟨h5, h6⟩ := h5 (by simp)
    rw [decide_eq_true (by simp <;> omega), ifT, h1, bindS]
    obtain ⟨c', ps', w'⟩ := rd
    obtain rfl : ps' = ps := h5
    obtain ⟨rd2, g1, g2, g3, g4⟩ := star_spec hT hM ps' q c' w' h6 (by simp at hq; omega)
    refine ⟨rd2, g1, g2, fun hw => g3 (h3 hw), fun hw => ?_⟩
    have hr := h4 hw
    unfold partF at hr
    rw [if_pos rfl] at hr
    unfold allI
    cases hn : nval p with
    | none =>
      simp only [hn, Option.bind_none] at hr ⊢
      exact g3 hr
    | some n =>
      simp only [hn, Option.bind_some, Rok] at hr ⊢
      injection hr with e1 e2 e3
      subst e1; subst e3
      exact g4 rfl
  | [], 0, _, _, _, hq => by omega
  | _ :: _, 0, _, _, _, hq => by omega
theorem starV_spec {T M : Nat} (hT : T ≤ 1000000) (hM : M ≤ 4000000) : ∀ (ps : List Str) (q : Nat) (c : Cmd) (w : Bool), Bd T M ⟨c, ps, w⟩ → ps.length < q →
    ∃ rd, script_reader_part_l2 q ⟨c, ps, w⟩ = some rd ∧ Bd T M rd ∧ (w = true → rd.wrong = true) ∧ (w = false → Rok ((allV ps c).bind fun c => some (c, [])) rd)
  | [], q+1, c, w, hb, _ => by
    rw [script_reader_part_l2]
    exact ⟨_, rfl, hb, fun h => h, fun h => by rw [h]; rfl⟩
  | p :: ps, q+1, c, w, hb, hq => by
    rw [script_reader_part_l2]
    obtain ⟨rd, h1, h2, h3, h4, h5⟩ := value_spec c (p :: ps) w hT hM hb
    obtain ⟨h5, h6⟩ := h5 (by simp)
    rw [decide_eq_true (by simp <;> omega), ifT, h1, bindS]
    obtain ⟨c', ps', w'⟩ := rd
    obtain rfl : ps' = ps := h5
    obtain ⟨rd2, g1, g2, g3, g4⟩ := starV_spec hT hM ps' q c' w' h6 (by simp at hq; omega)
    refine ⟨rd2, g1, g2, fun hw => g3 (h3 hw), fun hw => ?_⟩
    have hr := h4 hw
    unfold partF at hr
    rw [if_neg (show ¬ ((118 : UInt8) = 105) by decide), if_neg (show ¬ ((118 : UInt8) = 42) by decide), if_pos rfl] at hr
    unfold allV
    cases hn : vval p with
    | none =>
      simp only [hn, Option.bind_none] at hr ⊢
      exact g3 hr
    | some n =>
      simp only [hn, Option.bind_some, Rok] at hr ⊢
      injection hr with e1 e2 e3
      subst e1; subst e3
      exact g4 rfl
  | [], 0, _, _, _, hq => by omega
  | _ :: _, 0, _, _, _, hq => by omega
theorem u8ne {k m : UInt8} (h : k ≠ m) : decide ((k.toNat : Int) = (m.toNat : Int)) = false := decide_eq_false fun e => h (UInt8.toNat_inj.1 (by omega))
theorem bindId {α : Type} (x : Option α) : (x.bind fun y => some y) = x := by cases x <;> rfl
theorem len_fuel {α : Type} {l : List α} (h : l.length ≤ 100000000) : l.length < fuel := Nat.lt_of_le_of_lt h (by decide)
theorem part_spec (k : UInt8) (hk : isLt k = true) (c : Cmd) (ps : List Str) (w : Bool) {T M : Nat} (hT : T ≤ 1000000) (hM : M ≤ 4000000) (hb : Bd T M ⟨c, ps, w⟩) :
    ∃ rd, script_reader_part ⟨c, ps, w⟩ (k.toNat : Int) = some rd ∧ Bd T (M + 1) rd ∧ (w = true → rd.wrong = true) ∧ (w = false → Rok (partF k ps c) rd) := by
  have hb2 := hb.2
  have hb1 := hb.1
  dsimp only at hb1 hb2
  have htl := tot_len ps
  unfold script_reader_part
  simp only [bindId]
  by_cases h1 : k = 105
  · subst h1
    obtain ⟨rd, g1, g2, g3, g4, _⟩ := number_spec c ps w hT hM hb
    rw [show decide ((((105 : UInt8).toNat : Nat) : Int) = 105) = true from rfl, ifT]
    exact ⟨rd, g1, g2, g3, g4⟩
  rw [show decide (((k.toNat : Nat) : Int) = 105) = false from u8ne h1, ifF]
  by_cases h2 : k = 42
  · subst h2
    obtain ⟨rd, g1, g2, g3, g4⟩ := star_spec hT hM ps fuel c w hb (len_fuel (by omega))
    rw [show decide ((((42 : UInt8).toNat : Nat) : Int) = 42) = true from rfl, ifT]
    refine ⟨rd, g1, g2.mono (by omega), g3, fun hw => ?_⟩
    have := g4 hw
    unfold partF
    rw [if_neg h1, if_pos rfl]; exact this
  rw [show decide (((k.toNat : Nat) : Int) = 42) = false from u8ne h2, ifF]
  by_cases h3 : k = 118
  · subst h3
    obtain ⟨rd, g1, g2, g3, g4, _⟩ := value_spec c ps w hT hM hb
    rw [show decide ((((118 : UInt8).toNat : Nat) : Int) = 118) = true from rfl, ifT]
    exact ⟨rd, g1, g2, g3, g4⟩
  rw [show decide (((k.toNat : Nat) : Int) = 118) = false from u8ne h3, ifF]
  by_cases h4 : k = 86
  · subst h4
    obtain ⟨rd, g1, g2, g3, g4⟩ := starV_spec hT hM ps fuel c w hb (len_fuel (by omega))
    rw [show decide ((((86 : UInt8).toNat : Nat) : Int) = 86) = true from rfl, ifT]
    refine ⟨rd, g1, g2.mono (by omega), g3, fun hw => ?_⟩
    have := g4 hw
    unfold partF
    rw [if_neg h1, if_neg h2, if_neg h3, if_pos rfl]; exact this
  rw [show decide (((k.toNat : Nat) : Int) = 86) = false from u8ne h4, ifF]
  by_cases h5 : k = 119
  · subst h5
    rw [show decide ((((119 : UInt8).toNat : Nat) : Int) = 119) = true from rfl, ifT]
    cases ps with
    | nil =>
      rw [next_nil, bindS]
      dsimp only
      rw [ifT, bindS]
      exact ⟨_, rfl, ⟨hb1, by simp at *; omega⟩, fun _ => rfl, fun _ => rfl⟩
    | cons p ps =>
      simp only [tot] at hb1
      simp only [List.length_cons] at hb2
      rw [next_cons, bindS]
      dsimp only
      rw [script_word (by omega), bindS, orW, bindS]
      refine ⟨_, rfl, ⟨by dsimp only; omega, by dsimp only; omega⟩, fun h => by rw [h]; rfl, fun h => ?_⟩
      subst h
      unfold partF
      rw [if_neg h1, if_neg h2, if_neg h3, if_neg h4, if_pos rfl]
      dsimp only
      cases wordB p <;> rfl
  rw [show decide (((k.toNat : Nat) : Int) = 119) = false from u8ne h5, ifF]
  have h6 : k = 115 := by
    unfold isLt at hk; simpa [h1, h2, h3, h4, h5] using hk
  subst h6
  rw [show decide ((((115 : UInt8).toNat : Nat) : Int) = 115) = true from rfl, ifT]
  have hj := tot_join ps
  rw [orW2, bindS, show strings_Join ps [32] = some (Lib.join ps [32]) from if_pos ⟨by omega, by omega⟩, bindS]
  refine ⟨_, rfl, ⟨by simp [tot], by simp; omega⟩, fun h => by rw [h]; rfl, fun h => ?_⟩
  subst h
  unfold partF
  rw [if_neg h1, if_neg h2, if_neg h3, if_neg h4, if_neg h5]
  cases ps with
  | nil => rfl
  | cons p l => rfl
theorem read_spec (v5 : Str × Bool) {T : Nat} (hT : T ≤ 1000000) : ∀ (f : Str) (M : Nat) (c : Cmd) (ps : List Str) (w : Bool), (∀ k, k ∈ f → isLt k = true) → M + f.length ≤ 3000000 → Bd T M ⟨c, ps, w⟩ →
    ∃ c' b, script_command_l1 v5 f ⟨c, ps, w⟩ = some (c', b) ∧ c'.N.length + c'.V.length ≤ M + f.length ∧ (b = true → w = false ∧ v5.2 = true ∧ readF f ps c = some (c', [])) ∧ (w = false → v5.2 = true → (∃ c2, readF f ps c = some (c2, [])) → b = true)
  | [], M, c, ps, w, _, _, hb => by
    rw [script_command_l1]
    refine ⟨c, v5.2 && (!w && decide ((ps.length : Int) = 0)), ?_, by have := hb.2; dsimp only at this; omega, fun h => ?_, fun hw hv h => ?_⟩
    · cases v5.2 <;> cases w <;> rfl
    · simp only [Bool.and_eq_true, Bool.not_eq_true', decide_eq_true_eq] at h
      obtain ⟨h1, h2, h3⟩ := h
      have : ps = [] := by cases ps with
        | nil => rfl
        | cons p l => simp at h3; omega
      subst this
      exact ⟨h2, h1, rfl⟩
    · obtain ⟨c2, h⟩ := h
      simp only [readF, Option.some.injEq, Prod.mk.injEq] at h
      rw [hv, hw, h.2]; rfl
  | k :: f, M, c, ps, w, hf, hM, hb => by
    rw [script_command_l1]
    have hk := hf k (by simp)
    have hlt : k.toNat < 128 := by
      unfold isLt at hk
      simp only [Bool.or_eq_true, beq_iff_eq] at hk
      rcases hk with ((((h | h) | h) | h) | h) | h <;> subst h <;> decide
    rw [if_pos hlt]
    simp only [List.length_cons] at hM
    obtain ⟨rd, h1, h2, h3, h4⟩ := part_spec k hk c ps w hT (by omega) hb
    rw [h1, bindS]
    obtain ⟨c1, ps1, w1⟩ := rd
    obtain ⟨c', b, g1, gb, g2, g3⟩ := read_spec v5 hT f (M+1) c1 ps1 w1 (fun k hk => hf k (by simp [hk])) (by omega) h2
    refine ⟨c', b, g1, by simp; omega, fun hb => ?_, fun hw hv h => ?_⟩
    · obtain ⟨e1, e2, e3⟩ := g2 hb
      have hw : w = false := by cases w with
        | false => rfl
        | true => have := h3 rfl
                  dsimp only at this
                  rw [this] at e1; cases e1
      refine ⟨hw, e2, ?_⟩
      have := h4 hw
      unfold readF
      cases hp : partF k ps c with
      | none => rw [hp] at this; simp only [Rok] at this; rw [e1] at this; cases this
      | some x =>
        rw [hp] at this
        simp only [Rok] at this
        injection this with a1 a2 a3
        subst a1; subst a2
        exact e3
    · have := h4 hw
      unfold readF at h
      cases hp : partF k ps c with
      | none => rw [hp] at h; obtain ⟨_, h⟩ := h; cases h
      | some x =>
        rw [hp] at this h
        simp only [Rok] at this
        injection this with a1 a2 a3
        subst a1; subst a2
        exact g3 a3 hv h

/-! ### Lines -/
theorem splitC_ne (c : UInt8) : ∀ s : Str, splitC c s ≠ []
  | [] => by simp [splitC]
  | x :: r => by
    unfold splitC
    split
    · simp
    · split <;> simp
theorem splitC_tot (c : UInt8) : ∀ s : Str, tot (splitC c s) = s.length + 1
  | [] => rfl
  | x :: r => by
    have h := splitC_tot c r
    have hn := splitC_ne c r
    unfold splitC
    split
    · simp [tot, h]; omega
    · cases hs : splitC c r with
      | nil => exact absurd hs hn
      | cons p l => rw [hs] at h; simp [tot] at h ⊢; omega
/-- A line's command. -/
def cmdF (s : Str) : Option Cmd := match splitC 32 s with
  | [] => none
  | p :: l => if (formF p).2 = true then (match readF (formF p).1 l ⟨p, [], [], [], []⟩ with
    | some (c, []) => some c
    | _ => none) else none
theorem form_letters (name : Str) : ∀ k, k ∈ (formF name).1 → isLt k = true := by
  unfold formF
  have hall : (nmL.zip fmL).all (fun p => p.2.all isLt) = true := by decide
  cases h : (nmL.zip fmL).find? (fun p => p.1 == name) with
  | none => intro k hk; simp at hk
  | some p =>
    have := List.all_eq_true.1 hall p (List.mem_of_find?_eq_some h)
    exact fun k hk => List.all_eq_true.1 this k hk
theorem form_len (name : Str) : (formF name).1.length ≤ 3 := by
  unfold formF
  have hall : (nmL.zip fmL).all (fun p => decide (p.2.length ≤ 3)) = true := by decide
  cases h : (nmL.zip fmL).find? (fun p => p.1 == name) with
  | none => simp
  | some p =>
    have := List.all_eq_true.1 hall p (List.mem_of_find?_eq_some h)
    simpa using this
theorem script_cmd {s : Str} (hs : s.length ≤ 100000) : ∃ c b, script_command s = some (c, b) ∧ c.N.length + c.V.length ≤ 200000 ∧ (b = true → cmdF s = some c) ∧ (b = false → cmdF s = none) := by
  unfold script_command cmdF
  rw [split_one 32 (by omega), bindS]
  have hn := splitC_ne 32 s
  have ht := splitC_tot 32 s
  cases hsp : splitC 32 s with
  | nil => exact absurd hsp hn
  | cons p l =>
    rw [hsp] at ht
    simp only [tot] at ht
    have htl := tot_len l
    rw [lAt0, bindS, script_form, bindS, sub1, bindS]
    obtain ⟨c, b, h1, hb0, h2, h3⟩ := read_spec (formF p) (T := 100000) (by omega) (formF p).1 100000 ⟨p, [], [], [], []⟩ l false (form_letters p) (by have := form_len p; omega) ⟨by dsimp only; omega, by simp; omega⟩
    refine ⟨c, b, h1, by have := form_len p; omega, fun hb => ?_, fun hb => ?_⟩
    · obtain ⟨_, e1, e2⟩ := h2 hb
      dsimp only
      rw [if_pos e1, e2]
    · subst hb
      dsimp only
      cases hv : (formF p).2 with
      | false => rfl
      | true =>
        rw [if_pos rfl]
        split
        · rename_i c2 e
          have := h3 rfl hv ⟨c2, e⟩
          cases this
        · rfl
end Go.Cq

set_option maxRecDepth 100000
set_option linter.unusedVariables false
set_option linter.unusedSimpArgs false
namespace Go.Cq
open Go Go.Av

/-! ### The document's reader -/
def toC (c : ref30_Command) : Cmd := ⟨c.Name, c.N, c.V.map toV, c.W, c.S⟩
theorem num_ref {p : Str} (hs : p.length ≤ 1000000) : ∃ w b, ref30_num p = some (w, b) ∧ nval p = if b = true then some w else none := by
  obtain ⟨v, w, b, h1, h2, h3⟩ := nums_same (s := p) (by omega)
  refine ⟨w, b, h2, ?_⟩
  unfold nval; rw [h1]
  cases b with
  | true => rw [h3 rfl]; rfl
  | false => rfl
theorem val_ref {p : Str} (hs : p.length ≤ 1000000) : ∃ w b, ref30_value p = some (w, b) ∧ vval p = if b = true then some (toV w) else none := by
  obtain ⟨v, w, b, h1, h2, h3⟩ := value_same (s := p) hs
  refine ⟨w, b, h2, ?_⟩
  unfold vval; rw [h1]
  cases b with
  | true => rw [h3 rfl]; rfl
  | false => rfl
theorem addN_toC (c : ref30_Command) (n : Int) : addN (toC c) n = toC ⟨c.Name, c.N ++ [n], c.V, c.W, c.S⟩ := rfl
theorem addV_toC (c : ref30_Command) (v : ref11_Val) : addV (toC c) (toV v) = toC ⟨c.Name, c.N, c.V ++ [v], c.W, c.S⟩ := by simp [addV, toC]
theorem drop_cons {α : Type} {l : List α} {j : Nat} {p : α} {ps : List α} (h : l.drop j = p :: ps) : l[j]? = some p ∧ l.drop (j+1) = ps ∧ j < l.length := getDrop h
def bnd (c : ref30_Command) : Nat := c.N.length + c.V.length
/-- One step of the inner loop, at a piece that is there. -/
theorem l5_step (l : List Str) (k : UInt8) (hk : isLt k = true) (hk6 : k ≠ 115) (K : Int → ref30_Command → Option (ref30_Command × Bool)) (q at_ j : Nat) (c : ref30_Command) (p : Str)
    (hp : l[at_]? = some p) (hp2 : p.length ≤ 1000000) (hl : at_ < l.length) (hb : bnd c ≤ 3000000) (hll : l.length ≤ 3000000) (hj : j ≤ 3000000) (hcond : k = 42 ∨ k = 86 ∨ (j = 0 ∧ k ≠ 42 ∧ k ≠ 86)) :
    (∃ c2, bnd c2 ≤ bnd c + 1 ∧ ref30_command_l5 l (k.toNat : Int) K (q+1) (at_ : Int) (j : Int) c = ref30_command_l5 l (k.toNat : Int) K q ((at_ + 1 : Nat) : Int) ((j + 1 : Nat) : Int) c2 ∧
      (if k = 105 ∨ k = 42 then (nval p).map (addN (toC c)) else if k = 119 then (if wordB p = true then some (setW (toC c) p) else none) else (vval p).map (addV (toC c))) = some (toC c2)) ∨
    ((∃ c2, ref30_command_l5 l (k.toNat : Int) K (q+1) (at_ : Int) (j : Int) c = some (c2, false)) ∧ (if k = 105 ∨ k = 42 then (nval p).map (addN (toC c)) else if k = 119 then (if wordB p = true then some (setW (toC c) p) else none) else (vval p).map (addV (toC c))) = none) := by
  rw [ref30_command_l5]
  have hc : (((decide ((at_ : Int) < (l.length : Int))) && ((decide ((k.toNat : Int) = 42)) || (decide ((k.toNat : Int) = 86)))) || (((decide ((j : Int) < 1)) && (!decide ((k.toNat : Int) = 42))) && (!decide ((k.toNat : Int) = 86)))) = true := by
    rw [decide_eq_true (show (at_ : Int) < (l.length : Int) by omega)]
    rcases hcond with rfl | rfl | ⟨rfl, h1, h2⟩
    · rfl
    · rfl
    · rw [show decide (((k.toNat : Nat) : Int) = 42) = false from u8ne h1, show decide (((k.toNat : Nat) : Int) = 86) = false from u8ne h2]; rfl
  unfold bnd at hb
  rw [hc, ifT, decide_eq_false (show ¬ ((l.length : Int) ≤ (at_ : Int)) by omega), ifF, lAt_nat hp, bindS, cks (by omega), bindS]
  simp only [letK_e]
  by_cases h5 : k = 119
  · subst h5
    rw [show decide ((((119 : UInt8).toNat : Nat) : Int) = 119) = true from rfl, ifT, ref_word (by omega), bindS]
    rw [if_neg (show ¬ ((119 : UInt8) = 105 ∨ (119 : UInt8) = 42) by decide), if_pos rfl]
    cases hw : wordB p with
    | true => exact .inl ⟨⟨c.Name, c.N, c.V, p, c.S⟩, by simp [bnd], by rw [show (!true) = false from rfl, ifF, cks (by omega), bindS], rfl⟩
    | false => exact .inr ⟨⟨_, by rw [show (!false) = true from rfl, ifT]⟩, rfl⟩
  rw [show decide (((k.toNat : Nat) : Int) = 119) = false from u8ne h5, ifF]
  by_cases hi : k = 105 ∨ k = 42
  · rw [if_pos hi]
    rw [show ((decide ((k.toNat : Int) = 105)) || (decide ((k.toNat : Int) = 42))) = true by rcases hi with rfl | rfl <;> rfl, ifT]
    obtain ⟨w, b, h1, h2⟩ := num_ref hp2
    rw [h1, bindS, h2]
    cases b with
    | true =>
      refine .inl ⟨⟨c.Name, c.N ++ [w], c.V, c.W, c.S⟩, by simp [bnd]; omega, ?_, rfl⟩
      dsimp only
      rw [show (!true) = false from rfl, ifF, app_of (by simp; omega) (by simp; omega), bindS, cks (by omega), bindS]
    | false => exact .inr ⟨⟨_, by dsimp only; rw [show (!false) = true from rfl, ifT]⟩, rfl⟩
  · rw [if_neg hi, if_neg h5]
    rw [show ((decide ((k.toNat : Int) = 105)) || (decide ((k.toNat : Int) = 42))) = false by
      rw [show decide (((k.toNat : Nat) : Int) = 105) = false from u8ne fun e => hi (.inl e), show decide (((k.toNat : Nat) : Int) = 42) = false from u8ne fun e => hi (.inr e)]; rfl, ifF]
    obtain ⟨w, b, h1, h2⟩ := val_ref hp2
    rw [h1, bindS, h2]
    cases b with
    | true =>
      refine .inl ⟨⟨c.Name, c.N, c.V ++ [w], c.W, c.S⟩, by simp [bnd]; omega, ?_, by rw [← addV_toC]; rfl⟩
      dsimp only
      rw [show (!true) = false from rfl, ifF, app_of (by simp; omega) (by simp; omega), bindS, cks (by omega), bindS]
    | false => exact .inr ⟨⟨_, by dsimp only; rw [show (!false) = true from rfl, ifT]⟩, rfl⟩
/-- What the inner loop comes to. -/
def L5 (m : Option (Cmd × List Str)) (l : List Str) (B : Nat) (K : Int → ref30_Command → Option (ref30_Command × Bool)) (r : Option (ref30_Command × Bool)) : Prop :=
  (∃ c2 at2, m = some (toC c2, l.drop at2) ∧ at2 ≤ l.length ∧ bnd c2 + (l.length - at2) ≤ B ∧ r = K ((at2 : Nat) : Int) c2) ∨ (m = none ∧ ∃ c2, r = some (c2, false))
theorem l5_star (l : List Str) (hlt : ∀ p, p ∈ l → p.length ≤ 1000000) (hll : l.length ≤ 1000000) (k : UInt8) (hk : k = 42 ∨ k = 86) (K : Int → ref30_Command → Option (ref30_Command × Bool)) (B : Nat) (hB : B ≤ 3000000) : ∀ (ps : List Str) (q at_ j : Nat) (c : ref30_Command), l.drop at_ = ps → at_ ≤ l.length → j ≤ at_ → bnd c + (l.length - at_) ≤ B → ps.length < q →
    L5 (if k = 42 then (allI ps (toC c)).bind fun c => some (c, []) else (allV ps (toC c)).bind fun c => some (c, [])) l B K (ref30_command_l5 l (k.toNat : Int) K q (at_ : Int) (j : Int) c)
  | [], q+1, at_, j, c, h, ha, hj, hb, _ => by
    have : at_ = l.length := by have : l.length ≤ at_ := by simpa using h
                                omega
    subst this
    left
    refine ⟨c, l.length, ?_, Nat.le_refl _, hb, ?_⟩
    · rcases hk with rfl | rfl <;> simp [allI, allV]
    · rw [ref30_command_l5]
      have hc : (((decide ((l.length : Int) < (l.length : Int))) && ((decide ((k.toNat : Int) = 42)) || (decide ((k.toNat : Int) = 86)))) || (((decide ((j : Int) < 1)) && (!decide ((k.toNat : Int) = 42))) && (!decide ((k.toNat : Int) = 86)))) = false := by
        rw [decide_eq_false (show ¬ ((l.length : Int) < (l.length : Int)) by omega)]
        rcases hk with rfl | rfl <;> simp
      rw [hc, ifF]
  | p :: ps, q+1, at_, j, c, h, ha, hj, hb, hq => by
    obtain ⟨e1, e2, e3⟩ := drop_cons h
    have hmem := List.mem_of_getElem? e1
    have hk6 : k ≠ 115 := by rcases hk with rfl | rfl <;> decide
    have hkl : isLt k = true := by rcases hk with rfl | rfl <;> rfl
    rcases l5_step l k hkl hk6 K q at_ j c p e1 (hlt p hmem) e3 (by omega) (by omega) (by omega) (hk.imp id fun h => .inl h) with ⟨c2, g1, g2, g3⟩ | ⟨⟨c2, g1⟩, g3⟩
    · rw [g2]
      have ih := l5_star l hlt hll k hk K B hB ps q (at_+1) (j+1) c2 e2 (by omega) (by omega) (by omega) (by simp at hq; omega)
      rcases hk with rfl | rfl
      · rw [if_pos (by simp)] at g3
        rw [if_pos rfl] at ih ⊢
        unfold allI
        cases hn : nval p with
        | none => rw [hn] at g3; cases g3
        | some n => rw [hn] at g3; simp only [Option.map_some, Option.some.injEq] at g3; rw [bindS, g3]; exact ih
      · rw [if_neg (by decide), if_neg (by decide)] at g3
        rw [if_neg (by decide)] at ih ⊢
        unfold allV
        cases hn : vval p with
        | none => rw [hn] at g3; cases g3
        | some n => rw [hn] at g3; simp only [Option.map_some, Option.some.injEq] at g3; rw [bindS, g3]; exact ih
    · rw [g1]
      right
      refine ⟨?_, c2, rfl⟩
      rcases hk with rfl | rfl
      · rw [if_pos (by simp)] at g3
        rw [if_pos rfl]
        unfold allI
        cases hn : nval p with
        | none => rfl
        | some n => rw [hn] at g3; cases g3
      · rw [if_neg (by decide), if_neg (by decide)] at g3
        rw [if_neg (by decide)]
        unfold allV
        cases hn : vval p with
        | none => rfl
        | some n => rw [hn] at g3; cases g3
  | [], 0, _, _, _, _, _, _, _, hq => by omega
  | _ :: _, 0, _, _, _, _, _, _, _, hq => by omega
theorem partF_one (k : UInt8) (hk : isLt k = true) (hk6 : k ≠ 115) (h42 : k ≠ 42) (h86 : k ≠ 86) (c : ref30_Command) (ps : List Str) : partF k ps (toC c) = match ps with
      | [] => none
      | p :: ps => (if k = 105 ∨ k = 42 then (nval p).map (addN (toC c)) else if k = 119 then (if wordB p = true then some (setW (toC c) p) else none) else (vval p).map (addV (toC c))).bind fun c => some (c, ps) := by
  unfold partF
  unfold isLt at hk
  simp only [Bool.or_eq_true, beq_iff_eq, h42, h86, hk6, or_false] at hk
  rcases hk with (rfl | rfl) | rfl
  · rw [if_pos rfl]; cases ps with
    | nil => rfl
    | cons p ps => dsimp only; rw [if_pos (by simp)]; cases nval p <;> rfl
  · rw [if_neg (by decide), if_neg (by decide), if_pos rfl]; cases ps with
    | nil => rfl
    | cons p ps => dsimp only; rw [if_neg (by decide), if_neg (by decide)]; cases vval p <;> rfl
  · rw [if_neg (by decide), if_neg (by decide), if_neg (by decide), if_neg (by decide), if_pos rfl]; cases ps with
    | nil => rfl
    | cons p ps => dsimp only; cases wordB p <;> rfl
theorem l5_one (l : List Str) (hlt : ∀ p, p ∈ l → p.length ≤ 1000000) (hll : l.length ≤ 1000000) (k : UInt8) (hk : isLt k = true) (hk6 : k ≠ 115) (h42 : k ≠ 42) (h86 : k ≠ 86) (K : Int → ref30_Command → Option (ref30_Command × Bool)) (B : Nat) (hB : B ≤ 3000000) (ps : List Str) (q at_ : Nat) (c : ref30_Command) (h : l.drop at_ = ps) (ha : at_ ≤ l.length) (hb : bnd c + (l.length - at_) ≤ B) :
    L5 (partF k ps (toC c)) l B K (ref30_command_l5 l (k.toNat : Int) K (q+2) (at_ : Int) 0 c) := by
  have hp := partF_one k hk hk6 h42 h86 c ps
  cases ps with
  | nil =>
    have : at_ = l.length := by have : l.length ≤ at_ := by simpa using h
                                omega
    subst this
    right
    refine ⟨hp, c, ?_⟩
    rw [ref30_command_l5]
    rw [show decide (((k.toNat : Nat) : Int) = 42) = false from u8ne h42, show decide (((k.toNat : Nat) : Int) = 86) = false from u8ne h86]
    rw [show (((decide ((l.length : Int) < (l.length : Int))) && (false || false)) || (((decide ((0 : Int) < 1)) && (!false)) && (!false))) = true by simp, ifT, decide_eq_true (Int.le_refl _), ifT]
  | cons p ps =>
    obtain ⟨e1, e2, e3⟩ := drop_cons h
    have hmem := List.mem_of_getElem? e1
    rcases l5_step l k hk hk6 K (q+1) at_ 0 c p e1 (hlt p hmem) e3 (by omega) (by omega) (by omega) (.inr (.inr ⟨rfl, h42, h86⟩)) with ⟨c2, g1, g2, g3⟩ | ⟨⟨c2, g1⟩, g3⟩
    · left
      refine ⟨c2, at_+1, ?_, by omega, by omega, ?_⟩
      · rw [hp]; dsimp only; rw [g3, bindS, e2]
      · rw [show ((0 : Int)) = ((0 : Nat) : Int) from rfl, g2, ref30_command_l5]
        rw [show decide (((k.toNat : Nat) : Int) = 42) = false from u8ne h42, show decide (((k.toNat : Nat) : Int) = 86) = false from u8ne h86]
        rw [show (((decide (((at_ + 1 : Nat) : Int) < (l.length : Int))) && (false || false)) || (((decide (((0 + 1 : Nat) : Int) < 1)) && (!false)) && (!false))) = false by simp, ifF]
    · right
      refine ⟨?_, c2, g1⟩
      rw [hp]; dsimp only; rw [g3]; rfl

/-! ### What is left of a line -/
theorem join_split : ∀ s : Str, Lib.join (splitC 32 s) [32] = s
  | [] => rfl
  | x :: r => by
    have h := join_split r
    have hn := splitC_ne 32 r
    unfold splitC
    cases hs : splitC 32 r with
    | nil => exact absurd hs hn
    | cons p l =>
      rw [hs, Lib.join_cons] at h
      split
      · rename_i hx
        subst hx
        rw [Lib.join_cons]
        simp only [Lib.joinTail, List.map_cons, List.flatten_cons, List.nil_append, List.cons_append] at h ⊢
        rw [h]
      · dsimp only
        rw [Lib.join_cons, List.cons_append, h]
theorem join_drop : ∀ (a b : List Str), b ≠ [] → (Lib.join (a ++ b) [32]).drop (tot a) = Lib.join b [32]
  | [], b, _ => rfl
  | p :: a, b, hb => by
    have ih := join_drop a b hb
    rw [List.cons_append, Lib.join_cons]
    cases hab : a ++ b with
    | nil => simp at hab; exact absurd hab.2 hb
    | cons y r =>
      rw [hab, Lib.join_cons] at ih
      simp only [Lib.joinTail, List.map_cons, List.flatten_cons, List.cons_append, List.nil_append] at ih ⊢
      rw [show tot (p :: a) = p.length + (1 + tot a) by simp [tot]; omega, ← List.drop_drop, List.drop_left]
      rw [show (1 + tot a) = tot a + 1 by omega, List.drop_succ_cons]
      exact ih
end Go.Cq

set_option maxRecDepth 100000
set_option linter.unusedVariables false
set_option linter.unusedSimpArgs false
namespace Go.Cq
open Go Go.Av

theorem tot_app : ∀ (a b : List Str), tot (a ++ b) = tot a + tot b
  | [], b => by simp [tot]
  | p :: a, b => by simp [tot, tot_app a b]; omega
theorem l4_sum (l : List Str) (at_ : Nat) (ha : at_ ≤ l.length) (hl : tot l ≤ 1000000) : ∀ (n j q : Nat), at_ - j = n → j ≤ at_ → n < q → ref30_command_l4 l (at_ : Int) q ((tot (l.take j) : Nat) : Int) (j : Int) = some ((tot (l.take at_) : Nat) : Int)
  | 0, j, q+1, h, hj, _ => by
    have : j = at_ := by omega
    subst this
    rw [ref30_command_l4, decide_eq_false (by omega), ifF]
  | n+1, j, q+1, h, hj, hq => by
    have hlt : j < l.length := by omega
    have hg : l[j]? = some l[j] := List.getElem?_eq_getElem hlt
    have htk : l.take (j+1) = l.take j ++ [l[j]] := by rw [List.take_add_one, hg]; rfl
    have h1 : tot (l.take (j+1)) = tot (l.take j) + (l[j].length + 1) := by rw [htk, tot_app]; simp [tot]
    have h2 : tot (l.take (j+1)) ≤ tot l := by
      conv => rhs; rw [← List.take_append_drop (j+1) l, tot_app]
      omega
    have h3 := tot_len l
    rw [ref30_command_l4, decide_eq_true (by omega), ifT, lAt_nat hg, bindS, cks (by omega), bindS]
    rw [show ((tot (l.take j) : Nat) : Int) + ((l[j].length + 1 : Nat) : Int) = ((tot (l.take (j+1)) : Nat) : Int) by rw [h1]; omega, ckn (by omega), bindS, cks (by omega), bindS]
    exact l4_sum l at_ ha hl n (j+1) q (by omega) (by omega) (by omega)
  | 0, _, 0, _, _, hq => by omega
  | _+1, _, 0, _, _, hq => by omega
/-- 's' stands last. -/
def okS : Str → Bool
  | [] => true
  | k :: f => (k != 115 || f == []) && okS f
theorem tot_mem {l : List Str} {p : Str} (h : p ∈ l) : p.length ≤ tot l := by
  induction l with
  | nil => simp at h
  | cons x l ih =>
    rcases List.mem_cons.1 h with rfl | h
    · simp [tot]; omega
    · have := ih h; simp [tot]; omega
theorem ref_read (s : Str) (hs : s.length ≤ 100000) (v7 : Str × Bool) (hf : v7.1.length ≤ 1000) : ∀ (f : Str) (j q at_ B : Nat) (c : ref30_Command), v7.1.drop j = f → j ≤ v7.1.length → (∀ k, k ∈ f → isLt k = true) → okS f = true → at_ ≤ (splitC 32 s).length → B + f.length ≤ 2000000 → bnd c + ((splitC 32 s).length - at_) ≤ B → f.length < q →
    ∃ c2 b, ref30_command_l1 s (splitC 32 s) v7 (fun v203 v204 => some (v204, decide (v203 = ((splitC 32 s).length : Int)))) q (at_ : Int) (j : Int) c = some (c2, b) ∧ (b = true → readF f ((splitC 32 s).drop at_) (toC c) = some (toC c2, [])) ∧ (b = false → ∀ c3, readF f ((splitC 32 s).drop at_) (toC c) ≠ some (c3, []))
  | [], j, q+1, at_, B, c, h, hj, hk, ho, ha, hB, hb, _ => by
    have : j = v7.1.length := by have : v7.1.length ≤ j := by simpa using h
                                 omega
    subst this
    rw [ref30_command_l1, ge_len, ifF]
    refine ⟨_, _, rfl, fun hd => ?_, fun hd c3 e => ?_⟩
    · have := of_decide_eq_true hd
      have : at_ = (splitC 32 s).length := by omega
      subst this
      simp [readF]
    · have := of_decide_eq_false hd
      simp only [readF, Option.some.injEq, Prod.mk.injEq] at e
      have e2 : (splitC 32 s).length ≤ at_ := by simpa using e.2
      omega
  | k :: f, j, q+1, at_, B, c, h, hj, hk, ho, ha, hB, hb, hq => by
    obtain ⟨e1, e2, e3⟩ := getDrop h
    have hkl := hk k (by simp)
    have htot := splitC_tot 32 s
    have hlen := tot_len (splitC 32 s)
    simp only [List.length_cons] at hB
    rw [ref30_command_l1, lt_len e3, ifT, sIdx_at h, bindS]
    simp only [okS, Bool.and_eq_true] at ho
    by_cases h6 : k = 115
    · subst h6
      have hfn : f = [] := by have := ho.1; cases f <;> simp_all
      subst hfn
      rw [show decide ((((115 : UInt8).toNat : Nat) : Int) = 115) = true from rfl, ifT]
      cases hd : (splitC 32 s).drop at_ with
      | nil =>
        have : (splitC 32 s).length ≤ at_ := by simpa using hd
        rw [decide_eq_true (by omega), ifT]
        exact ⟨_, _, rfl, fun h => (by cases h), fun _ c3 e => by simp [readF, partF] at e⟩
      | cons p ps =>
        obtain ⟨_, _, hlt⟩ := drop_cons hd
        rw [decide_eq_false (by omega), ifF]
        have hsum := l4_sum (splitC 32 s) at_ ha (by omega) at_ 0 fuel (by omega) (by omega) (Nat.lt_of_le_of_lt (show at_ ≤ 100001 by omega) (by decide))
        have hsum' : ref30_command_l4 (splitC 32 s) (at_ : Int) fuel 0 0 = some ((tot ((splitC 32 s).take at_) : Nat) : Int) := hsum
        have hle : tot ((splitC 32 s).take at_) ≤ s.length := by
          have : tot ((splitC 32 s).take at_) + tot ((splitC 32 s).drop at_) = tot (splitC 32 s) := by rw [← tot_app, List.take_append_drop]
          rw [hd] at this; simp only [tot] at this; omega
        rw [hsum', bindS, sub_nat hle (Nat.le_refl _), bindS]
        refine ⟨_, _, rfl, fun _ => ?_, fun h => by cases h⟩
        have hjd := join_drop ((splitC 32 s).take at_) ((splitC 32 s).drop at_) (by rw [hd]; simp)
        rw [List.take_append_drop, join_split, hd] at hjd
        rw [List.take_length, hjd]
        simp [readF, partF, toC, setS]
    · rw [show decide (((k.toNat : Nat) : Int) = 115) = false from u8ne h6, ifF, letK_e]
      have hmem : ∀ p, p ∈ splitC 32 s → p.length ≤ 1000000 := fun p hp => by have := tot_mem hp; omega
      have hL : L5 (partF k ((splitC 32 s).drop at_) (toC c)) (splitC 32 s) B (fun v199 v200 => (ck ((j : Int) + 1)).bind fun v202 => ref30_command_l1 s (splitC 32 s) v7 (fun v203 v204 => some (v204, decide (v203 = ((splitC 32 s).length : Int)))) q v199 v202 v200)
          (ref30_command_l5 (splitC 32 s) (k.toNat : Int) (fun v199 v200 => (ck ((j : Int) + 1)).bind fun v202 => ref30_command_l1 s (splitC 32 s) v7 (fun v203 v204 => some (v204, decide (v203 = ((splitC 32 s).length : Int)))) q v199 v202 v200) fuel (at_ : Int) 0 c) := by
        by_cases h42 : k = 42 ∨ k = 86
        · have := l5_star (splitC 32 s) hmem (by omega) k h42 (fun v199 v200 => (ck ((j : Int) + 1)).bind fun v202 => ref30_command_l1 s (splitC 32 s) v7 (fun v203 v204 => some (v204, decide (v203 = ((splitC 32 s).length : Int)))) q v199 v202 v200) B (by omega) ((splitC 32 s).drop at_) fuel at_ 0 c rfl ha (by omega) hb (Nat.lt_of_le_of_lt (show ((splitC 32 s).drop at_).length ≤ 100001 by simp; omega) (by decide))
          have hp : partF k ((splitC 32 s).drop at_) (toC c) = (if k = 42 then (allI ((splitC 32 s).drop at_) (toC c)).bind fun c => some (c, []) else (allV ((splitC 32 s).drop at_) (toC c)).bind fun c => some (c, [])) := by
            unfold partF
            rcases h42 with rfl | rfl
            · rw [if_neg (by decide), if_pos rfl, if_pos rfl]
            · rw [if_neg (by decide), if_neg (by decide), if_neg (by decide), if_pos rfl, if_neg (by decide)]
          rw [hp]
          exact this
        · have := l5_one (splitC 32 s) hmem (by omega) k hkl h6 (fun e => h42 (.inl e)) (fun e => h42 (.inr e)) (fun v199 v200 => (ck ((j : Int) + 1)).bind fun v202 => ref30_command_l1 s (splitC 32 s) v7 (fun v203 v204 => some (v204, decide (v203 = ((splitC 32 s).length : Int)))) q v199 v202 v200) B (by omega) ((splitC 32 s).drop at_) (fuel - 2) at_ c rfl ha hb
          exact this
      rcases hL with ⟨c2, at2, g1, g2, g3, g4⟩ | ⟨g1, c2, g2⟩
      · rw [g4]
        dsimp only
        rw [cks (by omega), bindS]
        obtain ⟨c3, b, k1, k2, k3⟩ := ref_read s hs v7 hf f (j+1) q at2 B c2 e2 (by omega) (fun k hk' => hk k (by simp [hk'])) ho.2 g2 (by omega) g3 (by simp at hq; omega)
        refine ⟨c3, b, k1, fun hb => ?_, fun hb c4 e => ?_⟩
        · unfold readF; rw [g1, bindS]; exact k2 hb
        · unfold readF at e; rw [g1, bindS] at e; exact k3 hb c4 e
      · rw [g2]
        exact ⟨_, _, rfl, fun h => (by cases h), fun _ c3 e => by unfold readF at e; rw [g1] at e; cases e⟩
  | [], _, 0, _, _, _, _, _, _, _, _, _, _, hq => by omega
  | _ :: _, _, 0, _, _, _, _, _, _, _, _, _, _, hq => by omega
theorem form_okS (name : Str) : okS (formF name).1 = true := by
  unfold formF
  have hall : (nmL.zip fmL).all (fun p => okS p.2) = true := by decide
  cases h : (nmL.zip fmL).find? (fun p => p.1 == name) with
  | none => rfl
  | some p => exact List.all_eq_true.1 hall p (List.mem_of_find?_eq_some h)
/-- The document's command is the same. -/
theorem ref_cmd {s : Str} (hs : s.length ≤ 100000) : ∃ c b, ref30_command s = some (c, b) ∧ (b = true → cmdF s = some (toC c)) ∧ (b = false → cmdF s = none) := by
  unfold ref30_command
  rw [pieces_eq (by omega), bindS]
  have hn := splitC_ne 32 s
  obtain ⟨p, l, hsp⟩ : ∃ p l, splitC 32 s = p :: l := by cases h : splitC 32 s with
    | nil => exact absurd h hn
    | cons p l => exact ⟨p, l, rfl⟩
  have h0 : lAt (splitC 32 s) 0 = some p := by rw [hsp]; rfl
  rw [h0, bindS, ref_form, bindS]
  have htot := splitC_tot 32 s
  have hlen := tot_len (splitC 32 s)
  have hc : cmdF s = if (formF p).2 = true then (match readF (formF p).1 l ⟨p, [], [], [], []⟩ with
    | some (c, []) => some c
    | _ => none) else none := by unfold cmdF; rw [hsp] <;> rfl
  cases hv : (formF p).2 with
  | false =>
    rw [hv] at hc
    exact ⟨_, _, rfl, fun h => (by cases h), fun _ => hc⟩
  | true =>
    rw [hv, if_pos rfl] at hc
    rw [show (!true) = false from rfl, ifF, letK_e]
    have hfl := form_len p
    obtain ⟨c, b, h1, h2, h3⟩ := ref_read s hs (formF p) (by omega) (formF p).1 0 fuel 1 1000000 ⟨p, [], [], [], []⟩ rfl (by omega) (form_letters p) (form_okS p) (by rw [hsp]; simp) (by omega) (by simp [bnd]; omega) (Nat.lt_of_le_of_lt hfl (by decide))
    have hd : (splitC 32 s).drop 1 = l := by rw [hsp]; rfl
    rw [hd] at h2 h3
    refine ⟨c, b, h1, fun hb => ?_, fun hb => ?_⟩
    · rw [hc, show (⟨p, [], [], [], []⟩ : Cmd) = toC ⟨p, [], [], [], []⟩ from rfl, h2 hb]
    · rw [hc]
      split
      · rename_i c2 e
        exact absurd e (h3 hb c2)
      · rfl
end Go.Cq

