import Derived.Test.YtpagjhigaicfpaaDoorEx5
import Derived.Test.YtpagjhigaicfpaaDoorHa1
set_option linter.unusedSectionVars false
set_option linter.unusedVariables false
set_option linter.unusedSimpArgs false
set_option linter.unusedVariables false
set_option linter.unusedSimpArgs false
set_option maxRecDepth 100000
set_option maxHeartbeats 4000000
set_option pp.maxSteps 400
namespace Go.Cq
open Go Go.Av
abbrev Str := List UInt8
structure lex_Word where
  K : Int
  S : Str
  At : Int
deriving Inhabited, DecidableEq
structure strings_Builder where
  buf : (List Int)
deriving Inhabited, DecidableEq
structure ref13_Word where
  K : Int
  S : Str
  At : Int
deriving Inhabited, DecidableEq
def bytealg_idx (s : Str) (c : Int) : Option Int := some (idxB s (UInt8.ofNat c.toNat))
def bld_check (x : strings_Builder) : Option strings_Builder := some x
def bld_String (x : strings_Builder) : Option (Str × strings_Builder) := some (ofInts x.buf, x)
def strings_ReplaceAll (s o n : Str) : Option Str := replaceAllS s o n
def strings_Join (xs : List Str) (sep : Str) : Option Str := joinS xs sep
def law_num (e : Option Int) : Option Int := some (match e with | none => 0 | some n => n)
def lex_many_l1 (s : Str) (is : (Int → Option Bool)) : Nat → Int → Option Int
  | 0, _ => none
  | q1+1, v3 =>
    (
      if (decide (v3 < (s.length : Int))) then
        (sIdx s v3).bind fun v9 =>
        (is v9).bind fun v10 =>
        some v10
      else
        some false
    ).bind fun y4 =>
    if y4 then
      (ck (v3 + 1)).bind fun v12 =>
      lex_many_l1 s is q1 v12
    else
      some v3
def lex_many (s : Str) (is : (Int → Option Bool)) : Option Int :=
  (
    lex_many_l1 s is fuel 0
  ).bind fun y1 =>
  some y1
def lex_letter (c : Int) : Option Bool :=
  some (((decide ((97 : Int) ≤ c)) && (decide (c ≤ 122))) || ((decide ((65 : Int) ≤ c)) && (decide (c ≤ 90))))
def lex_digit (c : Int) : Option Bool :=
  some ((decide ((48 : Int) ≤ c)) && (decide (c ≤ 57)))
def lex_either (c : Int) : Option Bool :=
  (
    (lex_digit c).bind fun v3 =>
    if v3 then
      some true
    else
      (lex_letter c).bind fun v5 =>
      some v5
  ).bind fun y1 =>
  some y1
def lex_named (s : Str) : Option Bool :=
  (
    if (!(s == [])) then
      if (decide ((s.length : Int) ≤ 64)) then
        (sIdx s 0).bind fun v7 =>
        (lex_letter v7).bind fun v8 =>
        if v8 then
          (lex_many s lex_either).bind fun v10 =>
          some (decide (v10 = (s.length : Int)))
        else
          some false
      else
        some false
    else
      some false
  ).bind fun y1 =>
  some y1
def internal_stringslite_IndexByte (s : Str) (c : Int) : Option Int :=
  (bytealg_idx s c).bind fun v1 =>
  some v1
def strings_IndexByte (s : Str) (c : Int) : Option Int :=
  (internal_stringslite_IndexByte s c).bind fun v1 =>
  some v1
def lex_bin (c : Int) : Option Bool :=
  (strings_IndexByte [43, 45, 42, 47, 92, 60, 62, 61, 126, 44] c).bind fun v1 =>
  some (decide ((0 : Int) ≤ v1))
def lex_number (s : Str) : Option Bool :=
  (
    if (!(s == [])) then
      if (decide ((s.length : Int) ≤ 700)) then
        (lex_many s lex_digit).bind fun v5 =>
        if (decide (v5 = (s.length : Int))) then
          (sIdx s 0).bind fun v9 =>
          if (!decide (v9 = 48)) then
            some true
          else
            some (decide ((s.length : Int) = 1))
        else
          some false
      else
        some false
    else
      some false
  ).bind fun y1 =>
  some y1
def lex_May (p0_w : lex_Word) : Option Bool :=
  if (decide (p0_w.At < 0)) then
    some false
  else
    (
      if (decide (p0_w.K = 0)) then
        some (decide (p0_w.K = 0))
      else
        (
          if (decide (p0_w.K = 1)) then
            some (decide (p0_w.K = 1))
          else
            some (decide (p0_w.K = 5))
        ).bind fun y3 =>
        some y3
    ).bind fun y1 =>
    if y1 then
      (lex_named p0_w.S).bind fun v5 =>
      some v5
    else
      if (decide (p0_w.K = 2)) then
        (
          if (!(p0_w.S == [])) then
            if (decide ((p0_w.S.length : Int) ≤ 2)) then
              (lex_many p0_w.S lex_bin).bind fun v10 =>
              some (decide (v10 = (p0_w.S.length : Int)))
            else
              some false
          else
            some false
        ).bind fun y6 =>
        some y6
      else
        if (decide (p0_w.K = 3)) then
          (lex_number p0_w.S).bind fun v11 =>
          some v11
        else
          if (decide (p0_w.K = 4)) then
            some (decide ((p0_w.S.length : Int) ≤ 1024))
          else
            some ((decide (p0_w.K ≤ 16)) && (p0_w.S == []))
def lex_letters (s : Str) : Option (lex_Word × Int) :=
  (lex_many s lex_either).bind fun v1 =>
  (
    if (decide (v1 < (s.length : Int))) then
      (sIdx s v1).bind fun v7 =>
      if (decide (v7 = 58)) then
        (ck (v1 + 1)).bind fun v10 =>
        if (decide (v10 = (s.length : Int))) then
          some true
        else
          (sIdx s v10).bind fun v15 =>
          some (!decide (v15 = 61))
      else
        some false
    else
      some false
  ).bind fun y2 =>
  if y2 then
    (sub s 0 v1).bind fun v18 =>
    (ck (v1 + 1)).bind fun v20 =>
    some ((lex_Word.mk 1 v18 0), v20)
  else
    (sub s 0 v1).bind fun v23 =>
    some ((lex_Word.mk 0 v23 0), v1)
def lex_colon (s : Str) : Option (lex_Word × Int) :=
  (sub s 1 (s.length : Int)).bind fun v3 =>
  (
    if (!(v3 == [])) then
      (sIdx v3 0).bind fun v9 =>
      some (decide (v9 = 61))
    else
      some false
  ).bind fun y4 =>
  if y4 then
    some ((lex_Word.mk 6 [] 0), 2)
  else
    (
      if (!(v3 == [])) then
        (sIdx v3 0).bind fun v15 =>
        (lex_letter v15).bind fun v16 =>
        some v16
      else
        some false
    ).bind fun y10 =>
    if y10 then
      (lex_many v3 lex_either).bind fun v17 =>
      (sub v3 0 v17).bind fun v20 =>
      (ck (v17 + 1)).bind fun v22 =>
      some ((lex_Word.mk 5 v20 0), v22)
    else
      some ((lex_Word.mk 0 [] 0), 0)
def strings_Builder_WriteByte (p0_b : strings_Builder) (c : Int) : Option ((Option Int) × strings_Builder) :=
  (bld_check p0_b).bind fun v1 =>
  (app 1 v1.buf ([c] : List Int)).bind fun v4 =>
  some (none, (strings_Builder.mk v4))
def lex_quoted_l1 (s : Str) (K2 : ((List Int) → Option (Str × Int × Bool))) : Nat → Int → (List Int) → Option (Str × Int × Bool)
  | 0, _, _ => none
  | q1+1, v31, v32 =>
    if (decide (v31 < (s.length : Int))) then
      letK (fun (v56 : Int) (v57 : (List Int)) =>
        (ck (v56 + 1)).bind fun v59 =>
        lex_quoted_l1 s K2 q1 v59 v57
      ) fun (K34 : (Int → (List Int) → Option (Str × Int × Bool))) =>
      (sIdx s v31).bind fun v37 =>
      if (!decide (v37 = 39)) then
        (strings_Builder_WriteByte (strings_Builder.mk v32) v37).bind fun v40 =>
        K34 v31 v40.2.buf
      else
        (
          (ck (v31 + 1)).bind fun v44 =>
          if (decide (v44 = (s.length : Int))) then
            some true
          else
            (sIdx s v44).bind fun v49 =>
            some (!decide (v49 = 39))
        ).bind fun y41 =>
        if y41 then
          (bld_String (strings_Builder.mk v32)).bind fun v50 =>
          (ck (v31 + 1)).bind fun v52 =>
          some (v50.1, v52, true)
        else
          (strings_Builder_WriteByte (strings_Builder.mk v32) 39).bind fun v53 =>
          (ck (v31 + 1)).bind fun v55 =>
          K34 v55 v53.2.buf
    else
      K2 v32
def lex_quoted (s : Str) : Option (Str × Int × Bool) :=
  letK (fun (v60 : (List Int)) =>
    some ([], 0, false)
  ) fun (K2 : ((List Int) → Option (Str × Int × Bool))) =>
  lex_quoted_l1 s K2 fuel 0 []
def lex_one (s : Str) : Option (lex_Word × Int) :=
  (sIdx s 0).bind fun v3 =>
  (lex_letter v3).bind fun v4 =>
  if v4 then
    (lex_letters s).bind fun v5 =>
    some (v5.1, v5.2)
  else
    (lex_digit v3).bind fun v6 =>
    if v6 then
      (lex_many s lex_digit).bind fun v7 =>
      (sub s 0 v7).bind fun v10 =>
      some ((lex_Word.mk 3 v10 0), v7)
    else
      (lex_bin v3).bind fun v11 =>
      if v11 then
        (lex_many s lex_bin).bind fun v12 =>
        (sub s 0 (min (2 : Int) v12)).bind fun v15 =>
        some ((lex_Word.mk 2 v15 0), (min (2 : Int) v12))
      else
        if (decide (v3 = 58)) then
          (lex_colon s).bind fun v16 =>
          some (v16.1, v16.2)
        else
          if (decide (v3 = 39)) then
            (sub s 1 (s.length : Int)).bind fun v19 =>
            (lex_quoted v19).bind fun v20 =>
            if v20.2.2 then
              (ck (v20.2.1 + 1)).bind fun v22 =>
              some ((lex_Word.mk 4 v20.1 0), v22)
            else
              some ((lex_Word.mk 0 [] 0), 0)
          else
            (strings_IndexByte [94, 59, 46, 40, 41, 91, 93, 124, 123, 125] v3).bind fun v23 =>
            if (decide ((0 : Int) ≤ v23)) then
              (ck (7 + v23)).bind fun v25 =>
              some ((lex_Word.mk (IntKind.wrap .u8 v25) [] 0), 1)
            else
              some ((lex_Word.mk 0 [] 0), 0)
def lex_Words_l1 (s : Str) (K2 : ((List lex_Word) → Option ((List lex_Word) × Int × (Option Int)))) : Nat → (List lex_Word) → Int → Option ((List lex_Word) × Int × (Option Int))
  | 0, _, _ => none
  | q1+1, v3, v4 =>
    if (decide (v4 < (s.length : Int))) then
      letK (fun (v38 : (List lex_Word)) (v39 : Int) =>
        lex_Words_l1 s K2 q1 v38 v39
      ) fun (K6 : ((List lex_Word) → Int → Option ((List lex_Word) × Int × (Option Int)))) =>
      (sIdx s v4).bind fun v9 =>
      (strings_IndexByte [32, 9, 10, 13] v9).bind fun v10 =>
      if (decide ((0 : Int) ≤ v10)) then
        (ck (v4 + 1)).bind fun v12 =>
        K6 v3 v12
      else
        if (decide (v9 = 34)) then
          (ck (v4 + 1)).bind fun v16 =>
          (sub s v16 (s.length : Int)).bind fun v19 =>
          (strings_IndexByte v19 34).bind fun v20 =>
          if (decide (v20 < 0)) then
            some ([], v4, (some 9))
          else
            (ck (v20 + 2)).bind fun v22 =>
            (ck (v4 + v22)).bind fun v24 =>
            K6 v3 v24
        else
          (sub s v4 (s.length : Int)).bind fun v27 =>
          (lex_one v27).bind fun v28 =>
          (
            if (decide (v28.2 = 0)) then
              some true
            else
              (lex_May (lex_Word.mk v28.1.K v28.1.S v4)).bind fun v32 =>
              some (!v32)
          ).bind fun y29 =>
          if y29 then
            some ([], v4, (some 9))
          else
            (app 32 v3 ([(lex_Word.mk v28.1.K v28.1.S v4)] : List lex_Word)).bind fun v35 =>
            (ck (v4 + v28.2)).bind fun v37 =>
            K6 v35 v37
    else
      K2 v3
def lex_Words (s : Str) : Option ((List lex_Word) × Int × (Option Int)) :=
  if (decide ((65536 : Int) < (s.length : Int))) then
    some ([], 0, (some 4))
  else
    letK (fun (v40 : (List lex_Word)) =>
      some (v40, 0, none)
    ) fun (K2 : ((List lex_Word) → Option ((List lex_Word) × Int × (Option Int)))) =>
    lex_Words_l1 s K2 fuel [] 0
def lex_write (p0_w : lex_Word) : Option Str :=
  if (decide (p0_w.K = 1)) then
    (cat p0_w.S [58]).bind fun v3 =>
    some v3
  else
    if (decide (p0_w.K = 5)) then
      (cat [58] p0_w.S).bind fun v6 =>
      some v6
    else
      if (decide (p0_w.K = 4)) then
        (strings_ReplaceAll p0_w.S [39] [39, 39]).bind fun v7 =>
        (cat [39] v7).bind fun v10 =>
        (cat v10 [39]).bind fun v13 =>
        some v13
      else
        if (decide (p0_w.K = 6)) then
          some [58, 61]
        else
          (
            if (decide (p0_w.K = 0)) then
              some (decide (p0_w.K = 0))
            else
              (
                if (decide (p0_w.K = 2)) then
                  some (decide (p0_w.K = 2))
                else
                  some (decide (p0_w.K = 3))
              ).bind fun y16 =>
              some y16
          ).bind fun y14 =>
          if y14 then
            some p0_w.S
          else
            (sub ([94, 59, 46, 40, 41, 91, 93, 124, 123, 125] : Str) (IntKind.wrap .u8 (p0_w.K - 7)) (IntKind.wrap .u8 ((IntKind.wrap .u8 (p0_w.K - 7)) + 1))).bind fun v20 =>
            some v20
def lex_Text_l1 (l : (List lex_Word)) (K2 : (Unit → Option (Str × (Option Int)))) : Nat → Int → Option (Str × (Option Int))
  | 0, _ => none
  | q1+1, v3 =>
    if (decide (v3 < (l.length : Int))) then
      (lAt l v3).bind fun v6 =>
      (lex_May v6).bind fun v7 =>
      if (!v7) then
        some ([], (some 1))
      else
        (ck (v3 + 1)).bind fun v9 =>
        lex_Text_l1 l K2 q1 v9
    else
      K2 ()
def lex_Text_l2 (l : (List lex_Word)) (K11 : ((List Str) → Option (Str × (Option Int)))) : Nat → Int → (List Str) → Int → Option (Str × (Option Int))
  | 0, _, _, _ => none
  | q2+1, v12, v13, v14 =>
    if (decide (v14 < (l.length : Int))) then
      (lAt l v14).bind fun v17 =>
      (lex_write v17).bind fun v18 =>
      (ck ((v18.length : Int) + 1)).bind fun v20 =>
      (ck (v12 + v20)).bind fun v22 =>
      if (decide ((65537 : Int) < v22)) then
        some ([], (some 4))
      else
        (app 16 v13 ([v18] : List Str)).bind fun v25 =>
        (ck (v14 + 1)).bind fun v27 =>
        lex_Text_l2 l K11 q2 v22 v25 v27
    else
      K11 v13
def lex_Text (l : (List lex_Word)) : Option (Str × (Option Int)) :=
  letK (fun (_ : Unit) =>
    letK (fun (v28 : (List Str)) =>
      (strings_Join v28 [32]).bind fun v29 =>
      some (v29, none)
    ) fun (K11 : ((List Str) → Option (Str × (Option Int)))) =>
    lex_Text_l2 l K11 fuel 0 [] 0
  ) fun (K2 : (Unit → Option (Str × (Option Int)))) =>
  lex_Text_l1 l K2 fuel 0
def ref13_class (c : Int) : Option Int :=
  if (((decide ((97 : Int) ≤ c)) && (decide (c ≤ 122))) || ((decide ((65 : Int) ≤ c)) && (decide (c ≤ 90)))) then
    some 97
  else
    if ((decide ((48 : Int) ≤ c)) && (decide (c ≤ 57))) then
      some 48
    else
      if ((((((((((decide (c = 43)) || (decide (c = 45))) || (decide (c = 42))) || (decide (c = 47))) || (decide (c = 92))) || (decide (c = 60))) || (decide (c = 62))) || (decide (c = 61))) || (decide (c = 126))) || (decide (c = 44))) then
        some 43
      else
        some c
def ref13_all_l1 (s : Str) (a : Int) (p2_b : Int) (K2 : (Unit → Option Bool)) : Nat → Int → Option Bool
  | 0, _ => none
  | q1+1, v3 =>
    if (decide (v3 < (s.length : Int))) then
      (
        (sIdx s v3).bind fun v8 =>
        (ref13_class v8).bind fun v9 =>
        if (!decide (v9 = a)) then
          some (!decide (v9 = p2_b))
        else
          some false
      ).bind fun y4 =>
      if y4 then
        some false
      else
        (ck (v3 + 1)).bind fun v14 =>
        ref13_all_l1 s a p2_b K2 q1 v14
    else
      K2 ()
def ref13_all (s : Str) (a : Int) (p2_b : Int) : Option Bool :=
  letK (fun (_ : Unit) =>
    some true
  ) fun (K2 : (Unit → Option Bool)) =>
  ref13_all_l1 s a p2_b K2 fuel 0
def ref13_May (p0_w : ref13_Word) : Option Bool :=
  if ((decide (p0_w.At < 0)) || (decide ((16 : Int) < p0_w.K))) then
    some false
  else
    if (((decide (p0_w.K = 0)) || (decide (p0_w.K = 1))) || (decide (p0_w.K = 5))) then
      (
        if (decide ((1 : Int) ≤ (p0_w.S.length : Int))) then
          if (decide ((p0_w.S.length : Int) ≤ 64)) then
            (ref13_all p0_w.S 97 48).bind fun v7 =>
            if v7 then
              (sIdx p0_w.S 0).bind fun v11 =>
              (ref13_class v11).bind fun v12 =>
              some (decide (v12 = 97))
            else
              some false
          else
            some false
        else
          some false
      ).bind fun y3 =>
      some y3
    else
      if (decide (p0_w.K = 2)) then
        (
          if (decide ((1 : Int) ≤ (p0_w.S.length : Int))) then
            if (decide ((p0_w.S.length : Int) ≤ 2)) then
              (ref13_all p0_w.S 43 43).bind fun v17 =>
              some v17
            else
              some false
          else
            some false
        ).bind fun y13 =>
        some y13
      else
        if (decide (p0_w.K = 3)) then
          (
            if (decide ((1 : Int) ≤ (p0_w.S.length : Int))) then
              if (decide ((p0_w.S.length : Int) ≤ 700)) then
                (ref13_all p0_w.S 48 48).bind fun v22 =>
                if v22 then
                  if (decide ((p0_w.S.length : Int) = 1)) then
                    some true
                  else
                    (sIdx p0_w.S 0).bind fun v27 =>
                    some (!decide (v27 = 48))
                else
                  some false
              else
                some false
            else
              some false
          ).bind fun y18 =>
          some y18
        else
          if (decide (p0_w.K = 4)) then
            some (decide ((p0_w.S.length : Int) ≤ 1024))
          else
            some (p0_w.S == [])
def ref13_at (s : Str) (i : Int) : Option Int :=
  if (decide (i < (s.length : Int))) then
    (sIdx s i).bind fun v3 =>
    (ref13_class v3).bind fun v4 =>
    some v4
  else
    some 1
def ref13_Mark (k : Int) : Option Int :=
  (ck (k - 7)).bind fun v2 =>
  (lAt ([94, 59, 46, 40, 41, 91, 93, 124, 123, 125] : List Int) v2).bind fun v5 =>
  some v5
def ref13_Words_l2 (s : Str) : Nat → Int → Option Int
  | 0, _ => none
  | q2+1, v16 =>
    (
      if (decide (v16 < (s.length : Int))) then
        (sIdx s v16).bind fun v22 =>
        some (!decide (v22 = 34))
      else
        some false
    ).bind fun y17 =>
    if y17 then
      (ck (v16 + 1)).bind fun v24 =>
      ref13_Words_l2 s q2 v24
    else
      some v16
def ref13_Words_l3 (s : Str) : Nat → Int → Option Int
  | 0, _ => none
  | q3+1, v36 =>
    (
      (ref13_at s v36).bind fun v39 =>
      if (decide (v39 = 97)) then
        some true
      else
        some (decide (v39 = 48))
    ).bind fun y37 =>
    if y37 then
      (ck (v36 + 1)).bind fun v42 =>
      ref13_Words_l3 s q3 v42
    else
      some v36
def ref13_Words_l4 (s : Str) : Nat → Int → Option Int
  | 0, _ => none
  | q4+1, v82 =>
    (ref13_at s v82).bind fun v83 =>
    if (decide (v83 = 48)) then
      (ck (v82 + 1)).bind fun v85 =>
      ref13_Words_l4 s q4 v85
    else
      some v82
def ref13_Words_l5 (s : Str) : Nat → Int → (List Int) → Option (Int × (List Int))
  | 0, _, _ => none
  | q5+1, v103, v104 =>
    (
      if (decide (v103 < (s.length : Int))) then
        (sIdx s v103).bind fun v110 =>
        if (!decide (v110 = 39)) then
          some true
        else
          (ck (v103 + 1)).bind fun v113 =>
          if (decide (v113 < (s.length : Int))) then
            (sIdx s v113).bind fun v118 =>
            some (decide (v118 = 39))
          else
            some false
      else
        some false
    ).bind fun y105 =>
    if y105 then
      (sIdx s v103).bind fun v121 =>
      (app 1 v104 ([v121] : List Int)).bind fun v124 =>
      (
        if (decide (v121 = 39)) then
          (ck (v103 + 1)).bind fun v130 =>
          some v130
        else
          some v103
      ).bind fun y127 =>
      (ck (y127 + 1)).bind fun v132 =>
      ref13_Words_l5 s q5 v132 v124
    else
      some (v103, v104)
def ref13_Words_l6 (v10 : Int) : Nat → Int → Int → Option Int
  | 0, _, _ => none
  | q6+1, v145, v146 =>
    if (decide (v145 ≤ 16)) then
      (ref13_Mark v145).bind fun v147 =>
      (
        if (decide (v147 = v10)) then
          some (IntKind.wrap .u8 v145)
        else
          some v146
      ).bind fun y148 =>
      (ck (v145 + 1)).bind fun v151 =>
      ref13_Words_l6 v10 q6 v151 y148
    else
      some v146
def ref13_Words_l1 (s : Str) (K2 : ((List ref13_Word) → Option ((List ref13_Word) × Int × Int))) : Nat → (List ref13_Word) → Int → Option ((List ref13_Word) × Int × Int)
  | 0, _, _ => none
  | q1+1, v3, v4 =>
    if (decide (v4 < (s.length : Int))) then
      letK (fun (v159 : (List ref13_Word)) (v160 : Int) =>
        ref13_Words_l1 s K2 q1 v159 v160
      ) fun (K6 : ((List ref13_Word) → Int → Option ((List ref13_Word) × Int × Int))) =>
      (sIdx s v4).bind fun v9 =>
      (ref13_class v9).bind fun v10 =>
      (ck (v4 + 1)).bind fun v12 =>
      if ((((decide (v10 = 32)) || (decide (v10 = 9))) || (decide (v10 = 10))) || (decide (v10 = 13))) then
        K6 v3 v12
      else
        if (decide (v10 = 34)) then
          (
            ref13_Words_l2 s fuel v12
          ).bind fun y14 =>
          if (decide (y14 = (s.length : Int))) then
            some ([], v4, 9)
          else
            (ck (y14 + 1)).bind fun v26 =>
            K6 v3 v26
        else
          (
            if (decide (v10 = 97)) then
              some true
            else
              if (decide (v10 = 58)) then
                (ref13_at s v12).bind fun v31 =>
                some (decide (v31 = 97))
              else
                some false
          ).bind fun y27 =>
          (
            if y27 then
              (
                ref13_Words_l3 s fuel v12
              ).bind fun y34 =>
              (sub s v4 y34).bind fun v45 =>
              (
                if (decide (v10 = 58)) then
                  (sub s v12 y34).bind fun v51 =>
                  some (y34, (ref13_Word.mk 5 v51 v4))
                else
                  (
                    (ref13_at s y34).bind fun v54 =>
                    if (decide (v54 = 58)) then
                      (ck (y34 + 1)).bind fun v57 =>
                      if (decide (v57 < (s.length : Int))) then
                        (sIdx s v57).bind fun v62 =>
                        some (!(decide (v62 = 61)))
                      else
                        some true
                    else
                      some false
                  ).bind fun y52 =>
                  (
                    if y52 then
                      (ck (y34 + 1)).bind fun v66 =>
                      some (v66, 1)
                    else
                      some (y34, 0)
                  ).bind fun y63 =>
                  some (y63.1, (ref13_Word.mk y63.2 v45 v4))
              ).bind fun y46 =>
              some (y46.1, y46.2)
            else
              (
                if (decide (v10 = 58)) then
                  if (decide (v12 < (s.length : Int))) then
                    (sIdx s v12).bind fun v73 =>
                    some (decide (v73 = 61))
                  else
                    some false
                else
                  some false
              ).bind fun y67 =>
              (
                if y67 then
                  (ck (v12 + 1)).bind fun v77 =>
                  some (v77, (ref13_Word.mk 6 [] v4))
                else
                  (
                    if (decide (v10 = 48)) then
                      (
                        ref13_Words_l4 s fuel v12
                      ).bind fun y80 =>
                      (sub s v4 y80).bind fun v88 =>
                      some (y80, (ref13_Word.mk 3 v88 v4))
                    else
                      (
                        if (decide (v10 = 43)) then
                          (ref13_at s v12).bind fun v91 =>
                          (
                            if (decide (v91 = 43)) then
                              (ck (v12 + 1)).bind fun v95 =>
                              some v95
                            else
                              some v12
                          ).bind fun y92 =>
                          (sub s v4 y92).bind fun v98 =>
                          some (y92, (ref13_Word.mk 2 v98 v4))
                        else
                          (
                            if (decide (v10 = 39)) then
                              (
                                ref13_Words_l5 s fuel v12 []
                              ).bind fun y101 =>
                              (
                                if (decide (y101.1 < (s.length : Int))) then
                                  some (ref13_Word.mk 4 (ofInts y101.2) v4)
                                else
                                  some (ref13_Word.mk 99 [] v4)
                              ).bind fun y133 =>
                              (ck (y101.1 + 1)).bind fun v136 =>
                              some (v136, y133)
                            else
                              (
                                ref13_Words_l6 v10 fuel 7 99
                              ).bind fun y137 =>
                              some (v12, (ref13_Word.mk y137 [] v4))
                          ).bind fun y99 =>
                          some (y99.1, y99.2)
                      ).bind fun y89 =>
                      some (y89.1, y89.2)
                  ).bind fun y78 =>
                  some (y78.1, y78.2)
              ).bind fun y74 =>
              some (y74.1, y74.2)
          ).bind fun y32 =>
          (ref13_May y32.2).bind fun v152 =>
          if (!v152) then
            some ([], v4, 9)
          else
            (app 32 v3 ([y32.2] : List ref13_Word)).bind fun v155 =>
            K6 v155 y32.1
    else
      K2 v3
def ref13_Words (s : Str) : Option ((List ref13_Word) × Int × Int) :=
  if (decide ((65536 : Int) < (s.length : Int))) then
    some ([], 0, 4)
  else
    letK (fun (v161 : (List ref13_Word)) =>
      some (v161, 0, 0)
    ) fun (K2 : ((List ref13_Word) → Option ((List ref13_Word) × Int × Int))) =>
    ref13_Words_l1 s K2 fuel [] 0
def ref13_One_l1 (p0_w : ref13_Word) : Nat → (List Int) → Int → Option (List Int)
  | 0, _, _ => none
  | q1+1, v15, v16 =>
    if (decide (v16 < (p0_w.S.length : Int))) then
      (sIdx p0_w.S v16).bind fun v19 =>
      (app 1 v15 ([v19] : List Int)).bind fun v22 =>
      (
        if (decide (v19 = 39)) then
          (app 1 v22 ([39] : List Int)).bind fun v29 =>
          some v29
        else
          some v22
      ).bind fun y25 =>
      (ck (v16 + 1)).bind fun v31 =>
      ref13_One_l1 p0_w q1 y25 v31
    else
      some v15
def ref13_One (p0_w : ref13_Word) : Option (List Int) :=
  if (decide (p0_w.K = 1)) then
    (bytesO p0_w.S).bind fun v3 =>
    (app 1 v3 ([58] : List Int)).bind fun v6 =>
    some v6
  else
    if (decide (p0_w.K = 5)) then
      (app 1 ([58] : List Int) (toInts p0_w.S)).bind fun v9 =>
      some v9
    else
      if (decide (p0_w.K = 6)) then
        some ([58, 61] : List Int)
      else
        if (decide ((6 : Int) < p0_w.K)) then
          (ck p0_w.K).bind fun v11 =>
          (ref13_Mark v11).bind fun v12 =>
          some ([v12] : List Int)
        else
          if (decide (p0_w.K = 4)) then
            (
              ref13_One_l1 p0_w fuel ([39] : List Int) 0
            ).bind fun y13 =>
            (app 1 y13 ([39] : List Int)).bind fun v34 =>
            some v34
          else
            some (toInts p0_w.S)
def ref13_Text_l1 (l : (List ref13_Word)) (K2 : (Unit → Option (Str × Int))) : Nat → Int → Option (Str × Int)
  | 0, _ => none
  | q1+1, v3 =>
    if (decide (v3 < (l.length : Int))) then
      (lAt l v3).bind fun v6 =>
      (ref13_May v6).bind fun v7 =>
      if (!v7) then
        some ([], 1)
      else
        (ck (v3 + 1)).bind fun v9 =>
        ref13_Text_l1 l K2 q1 v9
    else
      K2 ()
def ref13_Text_l2 (l : (List ref13_Word)) : Nat → (List Int) → Int → Option (List Int)
  | 0, _, _ => none
  | q2+1, v12, v13 =>
    if ((decide (v13 < (l.length : Int))) && (decide ((v12.length : Int) ≤ 65536))) then
      (
        if (decide ((0 : Int) < v13)) then
          (app 1 v12 ([32] : List Int)).bind fun v19 =>
          some v19
        else
          some v12
      ).bind fun y15 =>
      (lAt l v13).bind fun v22 =>
      (ref13_One v22).bind fun v23 =>
      (app 1 y15 v23).bind fun v26 =>
      (ck (v13 + 1)).bind fun v28 =>
      ref13_Text_l2 l q2 v26 v28
    else
      some v12
def ref13_Text (l : (List ref13_Word)) : Option (Str × Int) :=
  letK (fun (_ : Unit) =>
    (
      ref13_Text_l2 l fuel [] 0
    ).bind fun y10 =>
    if (decide ((65536 : Int) < (y10.length : Int))) then
      some ([], 4)
    else
      some ((ofInts y10), 0)
  ) fun (K2 : (Unit → Option (Str × Int))) =>
  ref13_Text_l1 l K2 fuel 0
def law13_sure  : Option Bool :=
  (lex_Words [120, 32, 58, 61, 32, 39, 105, 116, 39, 39, 115, 39, 32, 34, 110, 111, 34, 32, 97, 116, 58, 32, 51, 48, 32, 60, 61, 32, 58, 121]).bind fun v1 =>
  (lex_Words [120, 32, 58, 32, 121]).bind fun v2 =>
  (lex_Text ([(lex_Word.mk 1 [97, 116] 0), (lex_Word.mk 4 [39] 0), (lex_Word.mk 9 [] 0)] : List lex_Word)).bind fun v3 =>
  (lex_Text ([(lex_Word.mk 0 [] 0)] : List lex_Word)).bind fun v4 =>
  (
    if v1.2.2.isNone then
      if (decide (v1.2.1 = 0)) then
        if (decide ((v1.1.length : Int) = 7)) then
          (lAt v1.1 0).bind fun v12 =>
          if ((decide (v12.K = 0) && ((v12.S == [120]) && decide (v12.At = 0)))) then
            (lAt v1.1 1).bind fun v16 =>
            if ((decide (v16.K = 6) && ((v16.S == []) && decide (v16.At = 2)))) then
              (lAt v1.1 2).bind fun v20 =>
              if ((decide (v20.K = 4) && ((v20.S == [105, 116, 39, 115]) && decide (v20.At = 5)))) then
                (lAt v1.1 3).bind fun v24 =>
                if ((decide (v24.K = 1) && ((v24.S == [97, 116]) && decide (v24.At = 18)))) then
                  (lAt v1.1 4).bind fun v28 =>
                  if ((decide (v28.K = 3) && ((v28.S == [51, 48]) && decide (v28.At = 22)))) then
                    (lAt v1.1 5).bind fun v32 =>
                    if ((decide (v32.K = 2) && ((v32.S == [60, 61]) && decide (v32.At = 25)))) then
                      (lAt v1.1 6).bind fun v36 =>
                      if ((decide (v36.K = 5) && ((v36.S == [121]) && decide (v36.At = 28)))) then
                        (law_num v2.2.2).bind fun v38 =>
                        if (decide (v38 = 9)) then
                          if (decide (v2.2.1 = 2)) then
                            if v3.2.isNone then
                              if (v3.1 == [97, 116, 58, 32, 39, 39, 39, 39, 32, 46]) then
                                (law_num v4.2).bind fun v43 =>
                                if (decide (v43 = 1)) then
                                  (lex_May v12).bind fun v47 =>
                                  if v47 then
                                    (lex_May (lex_Word.mk 17 [] 0)).bind fun v49 =>
                                    some (!v49)
                                  else
                                    some false
                                else
                                  some false
                              else
                                some false
                            else
                              some false
                          else
                            some false
                        else
                          some false
                      else
                        some false
                    else
                      some false
                  else
                    some false
                else
                  some false
              else
                some false
            else
              some false
          else
            some false
        else
          some false
      else
        some false
    else
      some false
  ).bind fun y5 =>
  some y5
def law13_areWords_l1 (a : (List lex_Word)) (p1_b : (List ref13_Word)) (K2 : (Unit → Option Bool)) : Nat → Int → Option Bool
  | 0, _ => none
  | q1+1, v3 =>
    if (decide (v3 < (p1_b.length : Int))) then
      (lAt a v3).bind fun v6 =>
      (lAt p1_b v3).bind fun v9 =>
      if (!((decide (v6.K = v9.K) && ((v6.S == v9.S) && decide (v6.At = v9.At))))) then
        some false
      else
        (ck (v3 + 1)).bind fun v11 =>
        law13_areWords_l1 a p1_b K2 q1 v11
    else
      K2 ()
def law13_areWords (a : (List lex_Word)) (p1_b : (List ref13_Word)) : Option Bool :=
  if (!decide ((a.length : Int) = (p1_b.length : Int))) then
    some false
  else
    letK (fun (_ : Unit) =>
      some true
    ) fun (K2 : (Unit → Option Bool)) =>
    law13_areWords_l1 a p1_b K2 fuel 0
def law13_LexReads (s : Str) : Option Bool :=
  if (decide ((70000 : Int) < (s.length : Int))) then
    (law13_sure).bind fun v1 =>
    some v1
  else
    (lex_Words s).bind fun v2 =>
    (ref13_Words s).bind fun v3 =>
    (
      (law_num v2.2.2).bind fun v6 =>
      if (decide (v6 = v3.2.2)) then
        if (decide (v2.2.1 = v3.2.1)) then
          (law13_areWords v2.1 v3.1).bind fun v9 =>
          if v9 then
            (law13_sure).bind fun v11 =>
            some v11
          else
            some false
        else
          some false
      else
        some false
    ).bind fun y4 =>
    some y4
def law13_giveWords_l1 (l : (List ref13_Word)) : Nat → (List lex_Word) → Int → Option (List lex_Word)
  | 0, _, _ => none
  | q1+1, v3, v4 =>
    if (decide (v4 < (l.length : Int))) then
      (lAt l v4).bind fun v7 =>
      (app 32 v3 ([(lex_Word.mk v7.K v7.S v7.At)] : List lex_Word)).bind fun v10 =>
      (ck (v4 + 1)).bind fun v12 =>
      law13_giveWords_l1 l q1 v10 v12
    else
      some v3
def law13_giveWords (l : (List ref13_Word)) : Option (List lex_Word) :=
  (
    law13_giveWords_l1 l fuel [] 0
  ).bind fun y1 =>
  some y1
def law13_LexWrites_l1 (l : (List ref13_Word)) (K2 : (Unit → Option Bool)) : Nat → Int → Int → Option Bool
  | 0, _, _ => none
  | q1+1, v3, v4 =>
    if (decide (v4 < (l.length : Int))) then
      (lAt l v4).bind fun v7 =>
      (ck (v3 + (min (v7.S.length : Int) 1048576))).bind fun v9 =>
      if ((decide ((262144 : Int) < v9)) || (decide ((65536 : Int) < v4))) then
        (law13_sure).bind fun v11 =>
        some v11
      else
        (lex_May (lex_Word.mk v7.K v7.S v7.At)).bind fun v14 =>
        (ref13_May v7).bind fun v17 =>
        if (!(v14 == v17)) then
          some false
        else
          (ck (v4 + 1)).bind fun v19 =>
          law13_LexWrites_l1 l K2 q1 v9 v19
    else
      K2 ()
def law13_LexWrites (l : (List ref13_Word)) : Option Bool :=
  letK (fun (_ : Unit) =>
    (law13_giveWords l).bind fun v21 =>
    (lex_Text v21).bind fun v22 =>
    (ref13_Text l).bind fun v23 =>
    (
      (law_num v22.2).bind fun v26 =>
      if (decide (v26 = v23.2)) then
        if (v22.1 == v23.1) then
          (law13_sure).bind fun v29 =>
          some v29
        else
          some false
      else
        some false
    ).bind fun y24 =>
    some y24
  ) fun (K2 : (Unit → Option Bool)) =>
  law13_LexWrites_l1 l K2 fuel 0 0
def law13_LexBack_l1 (l : (List ref13_Word)) (K2 : (Unit → Option Bool)) : Nat → Int → Int → Option Bool
  | 0, _, _ => none
  | q1+1, v3, v4 =>
    if (decide (v4 < (l.length : Int))) then
      (lAt l v4).bind fun v7 =>
      (ck (v3 + (min (v7.S.length : Int) 1048576))).bind fun v9 =>
      if ((decide ((262144 : Int) < v9)) || (decide ((65536 : Int) < v4))) then
        (law13_sure).bind fun v11 =>
        some v11
      else
        (ck (v4 + 1)).bind fun v13 =>
        law13_LexBack_l1 l K2 q1 v9 v13
    else
      K2 ()
def law13_LexBack_l2 (v15 : (List lex_Word)) (v16 : (Str × (Option Int))) (v18 : ((List lex_Word) × Int × (Option Int))) (K21 : (Unit → Option Bool)) : Nat → Int → Option Bool
  | 0, _ => none
  | q2+1, v22 =>
    if (decide (v22 < (v18.1.length : Int))) then
      (
        (lAt v18.1 v22).bind fun v27 =>
        (lAt v15 v22).bind fun v30 =>
        if (!decide (v27.K = v30.K)) then
          some true
        else
          if (!(v27.S == v30.S)) then
            some true
          else
            if (decide (v22 = 0)) then
              if (!decide (v27.At = 0)) then
                some true
              else
                if (decide ((0 : Int) < v22)) then
                  (ck (v27.At - 1)).bind fun v45 =>
                  (sIdx v16.1 v45).bind fun v48 =>
                  some (!decide (v48 = 32))
                else
                  some false
            else
              if (decide ((0 : Int) < v22)) then
                (ck (v27.At - 1)).bind fun v53 =>
                (sIdx v16.1 v53).bind fun v56 =>
                some (!decide (v56 = 32))
              else
                some false
      ).bind fun y23 =>
      if y23 then
        some false
      else
        (ck (v22 + 1)).bind fun v58 =>
        (sub v15 v22 v58).bind fun v61 =>
        (lex_Text v61).bind fun v62 =>
        (
          if v62.2.isSome then
            some true
          else
            (lAt v18.1 v22).bind fun v68 =>
            (ck ((v16.1.length : Int) - v68.At)).bind fun v70 =>
            if (decide (v70 < (v62.1.length : Int))) then
              some true
            else
              (ck (v68.At + (v62.1.length : Int))).bind fun v77 =>
              (sub v16.1 v68.At v77).bind fun v80 =>
              some (!(v80 == v62.1))
        ).bind fun y63 =>
        if y63 then
          some false
        else
          law13_LexBack_l2 v15 v16 v18 K21 q2 v58
    else
      K21 ()
def law13_LexBack (l : (List ref13_Word)) : Option Bool :=
  letK (fun (_ : Unit) =>
    (law13_giveWords l).bind fun v15 =>
    (lex_Text v15).bind fun v16 =>
    if v16.2.isSome then
      (law13_sure).bind fun v17 =>
      some v17
    else
      (lex_Words v16.1).bind fun v18 =>
      if ((v18.2.2.isSome || (!decide (v18.2.1 = 0))) || (!decide ((v18.1.length : Int) = (v15.length : Int)))) then
        some false
      else
        letK (fun (_ : Unit) =>
          (law13_sure).bind fun v82 =>
          some v82
        ) fun (K21 : (Unit → Option Bool)) =>
        law13_LexBack_l2 v15 v16 v18 K21 fuel 0
  ) fun (K2 : (Unit → Option Bool)) =>
  law13_LexBack_l1 l K2 fuel 0 0
def law13_LexApart_l1 (v2 : ((List lex_Word) × Int × (Option Int))) (y4 : Int) (v23 : Str) (v36 : ((List lex_Word) × Int × (Option Int))) (K47 : (Unit → Option Bool)) : Nat → Int → Option Bool
  | 0, _ => none
  | q1+1, v48 =>
    if (decide (v48 < (v2.1.length : Int))) then
      (lAt v2.1 v48).bind fun v51 =>
      (
        if (decide (y4 ≤ v51.At)) then
          (ck (v51.At + (v23.length : Int))).bind fun v55 =>
          some v55
        else
          some v51.At
      ).bind fun y52 =>
      (
        (lAt v36.1 v48).bind fun v60 =>
        if (!decide (v60.K = v51.K)) then
          some true
        else
          if (!(v60.S == v51.S)) then
            some true
          else
            some (!decide (v60.At = y52))
      ).bind fun y56 =>
      if y56 then
        some false
      else
        (ck (v48 + 1)).bind fun v72 =>
        law13_LexApart_l1 v2 y4 v23 v36 K47 q1 v72
    else
      K47 ()
def law13_LexApart (s : Str) (k : Int) (blank : Int) : Option Bool :=
  if (decide ((60000 : Int) < (s.length : Int))) then
    (law13_sure).bind fun v1 =>
    some v1
  else
    (lex_Words s).bind fun v2 =>
    (
      if (v2.2.2.isNone && (decide ((0 : Int) < (v2.1.length : Int)))) then
        (rem k (v2.1.length : Int)).bind fun v8 =>
        (
          if (decide (v8 < 0)) then
            (ck (v8 + (v2.1.length : Int))).bind fun v12 =>
            some v12
          else
            some v8
        ).bind fun y9 =>
        (lAt v2.1 y9).bind fun v15 =>
        some v15.At
      else
        (
          if v2.2.2.isSome then
            some v2.2.1
          else
            some (s.length : Int)
        ).bind fun y16 =>
        some y16
    ).bind fun y4 =>
    (rem blank 5).bind fun v20 =>
    (lAt ([[32], [9], [10], [13], [32, 34, 97, 32, 39, 91, 32, 114, 101, 109, 97, 114, 107, 34, 32]] : List Str) v20).bind fun v23 =>
    (sub s 0 y4).bind fun v26 =>
    (cat v26 v23).bind fun v29 =>
    (sub s y4 (s.length : Int)).bind fun v32 =>
    (cat v29 v32).bind fun v35 =>
    (lex_Words v35).bind fun v36 =>
    (law_num v2.2.2).bind fun v37 =>
    (law_num v36.2.2).bind fun v38 =>
    if (!decide (v37 = v38)) then
      some false
    else
      if v2.2.2.isSome then
        (
          if (decide (v37 = 9)) then
            (ck (v2.2.1 + (v23.length : Int))).bind fun v43 =>
            if (decide (v36.2.1 = v43)) then
              (law13_sure).bind fun v45 =>
              some v45
            else
              some false
          else
            some false
        ).bind fun y39 =>
        some y39
      else
        if (!decide ((v2.1.length : Int) = (v36.1.length : Int))) then
          some false
        else
          letK (fun (_ : Unit) =>
            (law13_sure).bind fun v73 =>
            some v73
          ) fun (K47 : (Unit → Option Bool)) =>
          law13_LexApart_l1 v2 y4 v23 v36 K47 fuel 0
end Go.Cq

