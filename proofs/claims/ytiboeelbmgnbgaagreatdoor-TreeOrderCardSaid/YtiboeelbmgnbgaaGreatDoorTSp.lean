import Derived.Test.YtiboeelbmgnbgaaGreatDoorBu
import Derived.Test.YtiboeelbmgnbgaaGreatDoorHa8
set_option linter.unusedSectionVars false
set_option linter.unusedVariables false
set_option linter.unusedSimpArgs false
set_option linter.unnecessarySimpa false
set_option linter.unusedVariables false
set_option linter.unusedSimpArgs false
set_option maxRecDepth 100000
set_option maxHeartbeats 4000000
set_option pp.maxSteps 400
namespace Go.Cq
open Go Go.Av
abbrev Str := List UInt8
structure ref14_Node where
  K : Int
  S : Str
  N : Int
  L : (List Str)
  Kids : (List Int)
deriving Inhabited, DecidableEq
structure ref14_Method where
  Sel : Str
  Args : (List Str)
  Temps : (List Str)
  Nodes : (List ref14_Node)
  Body : (List Int)
deriving Inhabited, DecidableEq
structure tree_Node where
  K : Int
  S : Str
  N : Int
  L : (List Str)
  Kids : (List Int)
deriving Inhabited, DecidableEq
structure large_Num where
  Neg : Bool
  Mag : (List Int)
deriving Inhabited, DecidableEq
structure tree_walk where
  l : (List tree_Node)
  next : Int
deriving Inhabited, DecidableEq
structure tree_Method where
  Sel : Str
  Args : (List Str)
  Temps : (List Str)
  Nodes : (List tree_Node)
  Body : (List Int)
deriving Inhabited, DecidableEq
structure tree_Class where
  Name : Str
  Super : Str
  Vars : (List Str)
  Methods : (List tree_Method)
deriving Inhabited, DecidableEq
structure ref14_Class where
  Name : Str
  Super : Str
  Vars : (List Str)
  Methods : (List ref14_Method)
deriving Inhabited, DecidableEq
structure ref03_Num where
  Neg : Bool
  Mag : (List Int)
deriving Inhabited, DecidableEq
def bytealg_idx (s : Str) (c : Int) : Option Int := some (idxB s (UInt8.ofNat c.toNat))
def law_num (e : Option Int) : Option Int := some (match e with | none => 0 | some n => n)
def strings_Split (s sep : Str) : Option (List Str) := splitS s sep
def strings_Trim (s cs : Str) : Option Str := trimAS s cs
def slices_Grow (n : Int) : Option (List Str) := growNil n
def tree_sorted (l : List Str) : Option (List Str) := some (Lib.compact (l.mergeSort fun x y => decide (x ≤ y)))
def law14_bigTexts_l1 (l : (List Str)) (K2 : (Unit → Option Bool)) : Nat → Int → Option Bool
  | 0, _ => none
  | q1+1, v3 =>
    if ((decide (v3 < (l.length : Int))) && (decide (v3 < 40))) then
      (lAt l v3).bind fun v7 =>
      if (decide ((1100 : Int) < (v7.length : Int))) then
        some true
      else
        (ck (v3 + 1)).bind fun v9 =>
        law14_bigTexts_l1 l K2 q1 v9
    else
      K2 ()
def law14_bigTexts (l : (List Str)) : Option Bool :=
  letK (fun (_ : Unit) =>
    some (decide ((40 : Int) < (l.length : Int)))
  ) fun (K2 : (Unit → Option Bool)) =>
  law14_bigTexts_l1 l K2 fuel 0
def law14_bigTree_l1 (m : ref14_Method) (K10 : (Unit → Option Bool)) : Nat → Int → Option Bool
  | 0, _ => none
  | q1+1, v11 =>
    if (decide (v11 < (m.Nodes.length : Int))) then
      (lAt m.Nodes v11).bind fun v14 =>
      (
        if (decide ((1100 : Int) < (v14.S.length : Int))) then
          some true
        else
          (law14_bigTexts v14.L).bind fun v18 =>
          if v18 then
            some true
          else
            some (decide ((520 : Int) < (v14.Kids.length : Int)))
      ).bind fun y15 =>
      if y15 then
        some true
      else
        (ck (v11 + 1)).bind fun v21 =>
        law14_bigTree_l1 m K10 q1 v21
    else
      K10 ()
def law14_bigTree (m : ref14_Method) : Option Bool :=
  (
    if (decide ((1100 : Int) < (m.Sel.length : Int))) then
      some true
    else
      (law14_bigTexts m.Args).bind fun v4 =>
      if v4 then
        some true
      else
        (law14_bigTexts m.Temps).bind fun v6 =>
        if v6 then
          some true
        else
          if (decide ((520 : Int) < (m.Nodes.length : Int))) then
            some true
          else
            some (decide ((520 : Int) < (m.Body.length : Int)))
  ).bind fun y1 =>
  if y1 then
    some true
  else
    letK (fun (_ : Unit) =>
      some false
    ) fun (K10 : (Unit → Option Bool)) =>
    law14_bigTree_l1 m K10 fuel 0
def slices_Concat_Lstring_string_l1 (slices : (List (List Str))) : Nat → Int → Int → Option Int
  | 0, _, _ => none
  | q1+1, v3, v4 =>
    if (decide (v4 < (slices.length : Int))) then
      (lAt slices v4).bind fun v7 =>
      (ck (v3 + (v7.length : Int))).bind fun v9 =>
      (
        if (decide (v9 < 0)) then
          none
        else
          some ()
      ).bind fun y10 =>
      (ck (v4 + 1)).bind fun v13 =>
      slices_Concat_Lstring_string_l1 slices q1 v9 v13
    else
      some v3
def slices_Concat_Lstring_string_l2 (slices : (List (List Str))) : Nat → (List Str) → Int → Option (List Str)
  | 0, _, _ => none
  | q2+1, v17, v18 =>
    if (decide (v18 < (slices.length : Int))) then
      (lAt slices v18).bind fun v21 =>
      (app 16 v17 v21).bind fun v24 =>
      (ck (v18 + 1)).bind fun v26 =>
      slices_Concat_Lstring_string_l2 slices q2 v24 v26
    else
      some v17
def slices_Concat_Lstring_string (slices : (List (List Str))) : Option (List Str) :=
  (
    slices_Concat_Lstring_string_l1 slices fuel 0 0
  ).bind fun y1 =>
  (slices_Grow y1).bind fun v14 =>
  (
    slices_Concat_Lstring_string_l2 slices fuel v14 0
  ).bind fun y15 =>
  some y15
def slices_IndexFunc_Lstring_string_l1 (s : (List Str)) (p1_f : (Str → Option Bool)) (K2 : (Unit → Option Int)) : Nat → Int → Option Int
  | 0, _ => none
  | q1+1, v3 =>
    if (decide (v3 < (s.length : Int))) then
      (lAt s v3).bind fun v6 =>
      (p1_f v6).bind fun v7 =>
      if v7 then
        some v3
      else
        (ck (v3 + 1)).bind fun v9 =>
        slices_IndexFunc_Lstring_string_l1 s p1_f K2 q1 v9
    else
      K2 ()
def slices_IndexFunc_Lstring_string (s : (List Str)) (p1_f : (Str → Option Bool)) : Option Int :=
  letK (fun (_ : Unit) =>
    some (-1)
  ) fun (K2 : (Unit → Option Int)) =>
  slices_IndexFunc_Lstring_string_l1 s p1_f K2 fuel 0
def slices_ContainsFunc_Lstring_string (s : (List Str)) (p1_f : (Str → Option Bool)) : Option Bool :=
  (slices_IndexFunc_Lstring_string s p1_f).bind fun v1 =>
  some (decide ((0 : Int) ≤ v1))
def internal_stringslite_HasSuffix (s : Str) (suffix : Str) : Option Bool :=
  (
    if (decide ((suffix.length : Int) ≤ (s.length : Int))) then
      (ck ((s.length : Int) - (suffix.length : Int))).bind fun v5 =>
      (sub s v5 (s.length : Int)).bind fun v8 =>
      some (v8 == suffix)
    else
      some false
  ).bind fun y1 =>
  some y1
def internal_stringslite_TrimSuffix (s : Str) (suffix : Str) : Option Str :=
  (internal_stringslite_HasSuffix s suffix).bind fun v1 =>
  if v1 then
    (ck ((s.length : Int) - (suffix.length : Int))).bind fun v3 =>
    (sub s 0 v3).bind fun v6 =>
    some v6
  else
    some s
def strings_TrimSuffix (s : Str) (suffix : Str) : Option Str :=
  (internal_stringslite_TrimSuffix s suffix).bind fun v1 =>
  some v1
def slices_IndexFunc_Lbyte_byte_l1 (s : (List Int)) (p1_f : (Int → Option Bool)) (K2 : (Unit → Option Int)) : Nat → Int → Option Int
  | 0, _ => none
  | q1+1, v3 =>
    if (decide (v3 < (s.length : Int))) then
      (lAt s v3).bind fun v6 =>
      (p1_f v6).bind fun v7 =>
      if v7 then
        some v3
      else
        (ck (v3 + 1)).bind fun v9 =>
        slices_IndexFunc_Lbyte_byte_l1 s p1_f K2 q1 v9
    else
      K2 ()
def slices_IndexFunc_Lbyte_byte (s : (List Int)) (p1_f : (Int → Option Bool)) : Option Int :=
  letK (fun (_ : Unit) =>
    some (-1)
  ) fun (K2 : (Unit → Option Int)) =>
  slices_IndexFunc_Lbyte_byte_l1 s p1_f K2 fuel 0
def slices_ContainsFunc_Lbyte_byte (s : (List Int)) (p1_f : (Int → Option Bool)) : Option Bool :=
  (slices_IndexFunc_Lbyte_byte s p1_f).bind fun v1 =>
  some (decide ((0 : Int) ≤ v1))
def method_letter (c : Int) : Option Bool :=
  some ((((decide ((97 : Int) ≤ c)) && (decide (c ≤ 122))) || ((decide ((65 : Int) ≤ c)) && (decide (c ≤ 90)))) || ((decide ((48 : Int) ≤ c)) && (decide (c ≤ 57))))
def method_name_1 (c : Int) : Option Bool :=
  (method_letter c).bind fun v1 =>
  some (!v1)
def method_name (s : Str) : Option Bool :=
  (
    if (s == []) then
      some true
    else
      (sIdx s 0).bind fun v6 =>
      if (decide (v6 < 97)) then
        some true
      else
        some (decide ((122 : Int) < v6))
  ).bind fun y1 =>
  if y1 then
    some false
  else
    (slices_ContainsFunc_Lbyte_byte (toInts s) method_name_1).bind fun v10 =>
    some (!v10)
def strings_HasSuffix (s : Str) (suffix : Str) : Option Bool :=
  (internal_stringslite_HasSuffix s suffix).bind fun v1 =>
  some v1
def method_Arity_1 (s : Str) : Option Bool :=
  (method_name s).bind fun v1 =>
  some (!v1)
def method_Arity (sel : Str) : Option (Int × Bool) :=
  if ((sel == []) || (decide ((64 : Int) < (sel.length : Int)))) then
    some (0, false)
  else
    (method_name sel).bind fun v2 =>
    if v2 then
      some (0, true)
    else
      (
        (strings_Trim sel [43, 45, 42, 47, 92, 60, 62, 61, 126, 44]).bind fun v5 =>
        if (v5 == []) then
          some (decide ((sel.length : Int) ≤ 2))
        else
          some false
      ).bind fun y3 =>
      if y3 then
        some (1, true)
      else
        (strings_HasSuffix sel [58]).bind fun v7 =>
        if (!v7) then
          some (0, false)
        else
          (strings_TrimSuffix sel [58]).bind fun v8 =>
          (strings_Split v8 [58]).bind fun v9 =>
          (
            if (decide ((8 : Int) < (v9.length : Int))) then
              some true
            else
              (slices_ContainsFunc_Lstring_string v9 method_Arity_1).bind fun v13 =>
              some v13
          ).bind fun y10 =>
          if y10 then
            some (0, false)
          else
            some ((v9.length : Int), true)
def tree_sends (sel : Str) (n : Int) : Option Bool :=
  (method_Arity sel).bind fun v1 =>
  some (v1.2 && (decide (v1.1 = n)))
def slices_Index_Lstring_string_l1 (s : (List Str)) (p1_v : Str) (K2 : (Unit → Option Int)) : Nat → Int → Option Int
  | 0, _ => none
  | q1+1, v3 =>
    if (decide (v3 < (s.length : Int))) then
      (lAt s v3).bind fun v6 =>
      if (p1_v == v6) then
        some v3
      else
        (ck (v3 + 1)).bind fun v8 =>
        slices_Index_Lstring_string_l1 s p1_v K2 q1 v8
    else
      K2 ()
def slices_Index_Lstring_string (s : (List Str)) (p1_v : Str) : Option Int :=
  letK (fun (_ : Unit) =>
    some (-1)
  ) fun (K2 : (Unit → Option Int)) =>
  slices_Index_Lstring_string_l1 s p1_v K2 fuel 0
def slices_Contains_Lstring_string (s : (List Str)) (p1_v : Str) : Option Bool :=
  (slices_Index_Lstring_string s p1_v).bind fun v1 =>
  some (decide ((0 : Int) ≤ v1))
def internal_stringslite_IndexByte (s : Str) (c : Int) : Option Int :=
  (bytealg_idx s c).bind fun v1 =>
  some v1
def strings_IndexByte (s : Str) (c : Int) : Option Int :=
  (internal_stringslite_IndexByte s c).bind fun v1 =>
  some v1
def tree_named (s : Str) (first : Str) : Option Bool :=
  (
    if (!(s == [])) then
      if (decide ((s.length : Int) ≤ 32)) then
        (sIdx s 0).bind fun v7 =>
        (strings_IndexByte first v7).bind fun v8 =>
        if (decide ((0 : Int) ≤ v8)) then
          (strings_Trim s [97, 98, 99, 100, 101, 102, 103, 104, 105, 106, 107, 108, 109, 110, 111, 112, 113, 114, 115, 116, 117, 118, 119, 120, 121, 122, 65, 66, 67, 68, 69, 70, 71, 72, 73, 74, 75, 76, 77, 78, 79, 80, 81, 82, 83, 84, 85, 86, 87, 88, 89, 90, 48, 49, 50, 51, 52, 53, 54, 55, 56, 57]).bind fun v10 =>
          some (v10 == [])
        else
          some false
      else
        some false
    else
      some false
  ).bind fun y1 =>
  some y1
def tree_variable (s : Str) : Option Bool :=
  (
    (tree_named s [97, 98, 99, 100, 101, 102, 103, 104, 105, 106, 107, 108, 109, 110, 111, 112, 113, 114, 115, 116, 117, 118, 119, 120, 121, 122]).bind fun v3 =>
    if v3 then
      (slices_Contains_Lstring_string ([[115, 101, 108, 102], [115, 117, 112, 101, 114], [110, 105, 108], [116, 114, 117, 101], [102, 97, 108, 115, 101]] : List Str) s).bind fun v5 =>
      some (!v5)
    else
      some false
  ).bind fun y1 =>
  some y1
def tree_unlike_l1 (l : (List Str)) (K2 : (Unit → Option Bool)) : Nat → Int → Option Bool
  | 0, _ => none
  | q1+1, v3 =>
    if (decide (v3 < (l.length : Int))) then
      (lAt l v3).bind fun v6 =>
      (
        (tree_variable v6).bind fun v9 =>
        if (!v9) then
          some true
        else
          (sub l 0 v3).bind fun v13 =>
          (slices_Contains_Lstring_string v13 v6).bind fun v14 =>
          some v14
      ).bind fun y7 =>
      if y7 then
        some false
      else
        (ck (v3 + 1)).bind fun v16 =>
        tree_unlike_l1 l K2 q1 v16
    else
      K2 ()
def tree_unlike (l : (List Str)) : Option Bool :=
  letK (fun (_ : Unit) =>
    some true
  ) fun (K2 : (Unit → Option Bool)) =>
  tree_unlike_l1 l K2 fuel 0
def tree_Node_bare (n : tree_Node) (text : Bool) (names : Bool) (kids : Bool) : Option Bool :=
  some (((text || (n.S == [])) && (names || ((decide (n.N = 0)) && (decide ((n.L.length : Int) = 0))))) && (kids || (decide ((n.Kids.length : Int) = 0))))
def internal_stringslite_HasPrefix (s : Str) (prefix_ : Str) : Option Bool :=
  (
    if (decide ((prefix_.length : Int) ≤ (s.length : Int))) then
      (sub s 0 (prefix_.length : Int)).bind fun v6 =>
      some (v6 == prefix_)
    else
      some false
  ).bind fun y1 =>
  some y1
def internal_stringslite_CutPrefix (s : Str) (prefix_ : Str) : Option (Str × Bool) :=
  (internal_stringslite_HasPrefix s prefix_).bind fun v1 =>
  if (!v1) then
    some (s, false)
  else
    (sub s (prefix_.length : Int) (s.length : Int)).bind fun v4 =>
    some (v4, true)
def strings_CutPrefix (s : Str) (prefix_ : Str) : Option (Str × Bool) :=
  (internal_stringslite_CutPrefix s prefix_).bind fun v1 =>
  some (v1.1, v1.2)
def large_digits (s : Str) : Option (Str × Bool × Bool) :=
  (strings_CutPrefix s [45]).bind fun v1 =>
  (
    if (v1.1 == []) then
      some true
    else
      if (decide ((700 : Int) < (v1.1.length : Int))) then
        some true
      else
        if (decide ((1 : Int) < (v1.1.length : Int))) then
          (sIdx v1.1 0).bind fun v9 =>
          if (decide (v9 = 48)) then
            some true
          else
            if v1.2 then
              if (v1.1 == [48]) then
                some true
              else
                (strings_Trim v1.1 [48, 49, 50, 51, 52, 53, 54, 55, 56, 57]).bind fun v13 =>
                some (!(v13 == []))
            else
              (strings_Trim v1.1 [48, 49, 50, 51, 52, 53, 54, 55, 56, 57]).bind fun v14 =>
              some (!(v14 == []))
        else
          if v1.2 then
            if (v1.1 == [48]) then
              some true
            else
              (strings_Trim v1.1 [48, 49, 50, 51, 52, 53, 54, 55, 56, 57]).bind fun v17 =>
              some (!(v17 == []))
          else
            (strings_Trim v1.1 [48, 49, 50, 51, 52, 53, 54, 55, 56, 57]).bind fun v18 =>
            some (!(v18 == []))
  ).bind fun y2 =>
  if y2 then
    some ([], false, false)
  else
    some (v1.1, v1.2, true)
def large_cut_l1  : Nat → (List Int) → Option (List Int)
  | 0, _ => none
  | q1+1, v3 =>
    (
      if (decide ((0 : Int) < (v3.length : Int))) then
        (ck ((v3.length : Int) - 1)).bind fun v8 =>
        (lAt v3 v8).bind fun v11 =>
        some (decide (v11 = 0))
      else
        some false
    ).bind fun y4 =>
    if y4 then
      (ck ((v3.length : Int) - 1)).bind fun v13 =>
      (sub v3 0 v13).bind fun v16 =>
      large_cut_l1  q1 v16
    else
      some v3
def large_cut (m : (List Int)) : Option (List Int) :=
  (
    large_cut_l1  fuel m
  ).bind fun y1 =>
  some y1
def large_made (neg : Bool) (m : (List Int)) : Option (large_Num × (Option Int)) :=
  (large_cut m).bind fun v1 =>
  if (decide ((64 : Int) < (v1.length : Int))) then
    some ((large_Num.mk false []), (some 4))
  else
    (
      if neg then
        some (decide ((0 : Int) < (v1.length : Int)))
      else
        some false
    ).bind fun y2 =>
    some ((large_Num.mk y2 v1), none)
def large_Parse_l3 (v54 : (List Int)) : Nat → Int → Int → (List Int) → Option (Int × (List Int))
  | 0, _, _, _ => none
  | q3+1, v77, v78, v79 =>
    if (decide (v78 < (v54.length : Int))) then
      (lAt v79 v78).bind fun v86 =>
      (stAt v79 v78 (IntKind.wrap .u32 (IntKind.wrap .u64 (v77 + (IntKind.wrap .u64 ((IntKind.wrap .u64 v86) * 10)))))).bind fun v89 =>
      (shr .u64 (IntKind.wrap .u64 (v77 + (IntKind.wrap .u64 ((IntKind.wrap .u64 v86) * 10)))) 32).bind fun v92 =>
      (ck (v78 + 1)).bind fun v94 =>
      large_Parse_l3 v54 q3 v92 v94 v89
    else
      some (v77, v79)
def large_Parse_l1 (v1 : (Str × Bool × Bool)) : Nat → Int → (List Int) → Option (List Int)
  | 0, _, _ => none
  | q1+1, v53, v54 =>
    if (decide (v53 < ((toInts v1.1).length : Int))) then
      (lAt (toInts v1.1) v53).bind fun v57 =>
      (
        large_Parse_l3 v54 fuel (IntKind.wrap .u64 (IntKind.wrap .u8 (v57 - 48))) 0 v54
      ).bind fun y58 =>
      (
        if (decide ((0 : Int) < y58.1)) then
          (app 4 y58.2 ([(IntKind.wrap .u32 y58.1)] : List Int)).bind fun v100 =>
          some v100
        else
          some y58.2
      ).bind fun y95 =>
      (ck (v53 + 1)).bind fun v102 =>
      large_Parse_l1 v1 q1 v102 y95
    else
      some v54
def large_Parse (s : Str) : Option (large_Num × (Option Int)) :=
  (large_digits s).bind fun v1 =>
  if (!v1.2.2) then
    some ((large_Num.mk false []), (some 2))
  else
    (
      large_Parse_l1 v1 fuel 0 []
    ).bind fun y2 =>
    (large_made v1.2.1 y2).bind fun v103 =>
    some (v103.1, v103.2)
def tree_number (s : Str) : Option Bool :=
  (large_Parse s).bind fun v1 =>
  some v1.2.isNone
def tree_Node_may (n : tree_Node) : Option Bool :=
  (
    if (decide (n.K = 0)) then
      some (decide (n.K = 0))
    else
      (
        if (decide (n.K = 1)) then
          some (decide (n.K = 1))
        else
          (
            if (decide (n.K = 2)) then
              some (decide (n.K = 2))
            else
              (
                if (decide (n.K = 3)) then
                  some (decide (n.K = 3))
                else
                  some (decide (n.K = 4))
              ).bind fun y7 =>
              some y7
          ).bind fun y5 =>
          some y5
      ).bind fun y3 =>
      some y3
  ).bind fun y1 =>
  if y1 then
    (tree_Node_bare n false false false).bind fun v9 =>
    some v9
  else
    if (decide (n.K = 5)) then
      (
        (tree_Node_bare n true false false).bind fun v12 =>
        if v12 then
          (tree_number n.S).bind fun v14 =>
          some v14
        else
          some false
      ).bind fun y10 =>
      some y10
    else
      if (decide (n.K = 6)) then
        (
          (tree_Node_bare n true false false).bind fun v17 =>
          if v17 then
            some (decide ((n.S.length : Int) ≤ 1024))
          else
            some false
        ).bind fun y15 =>
        some y15
      else
        if (decide (n.K = 7)) then
          (
            (tree_Node_bare n true false false).bind fun v21 =>
            if v21 then
              (tree_variable n.S).bind fun v23 =>
              if v23 then
                some true
              else
                (tree_named n.S [65, 66, 67, 68, 69, 70, 71, 72, 73, 74, 75, 76, 77, 78, 79, 80, 81, 82, 83, 84, 85, 86, 87, 88, 89, 90]).bind fun v25 =>
                some v25
            else
              some false
          ).bind fun y19 =>
          some y19
        else
          if (decide (n.K = 8)) then
            (
              (tree_Node_bare n true false true).bind fun v28 =>
              if v28 then
                (tree_variable n.S).bind fun v30 =>
                if v30 then
                  some (decide ((n.Kids.length : Int) = 1))
                else
                  some false
              else
                some false
            ).bind fun y26 =>
            some y26
          else
            if (decide (n.K = 9)) then
              (
                (tree_Node_bare n true false true).bind fun v34 =>
                if v34 then
                  (ck ((n.Kids.length : Int) - 1)).bind fun v37 =>
                  (tree_sends n.S v37).bind fun v38 =>
                  some v38
                else
                  some false
              ).bind fun y32 =>
              some y32
            else
              if (decide (n.K = 10)) then
                (
                  (tree_Node_bare n false false true).bind fun v41 =>
                  if v41 then
                    if (decide ((2 : Int) < (n.Kids.length : Int))) then
                      some (decide ((n.Kids.length : Int) ≤ 17))
                    else
                      some false
                  else
                    some false
                ).bind fun y39 =>
                some y39
              else
                if (decide (n.K = 11)) then
                  (
                    (tree_Node_bare n true false true).bind fun v46 =>
                    if v46 then
                      (tree_sends n.S (n.Kids.length : Int)).bind fun v48 =>
                      some v48
                    else
                      some false
                  ).bind fun y44 =>
                  some y44
                else
                  if (decide (n.K = 12)) then
                    (
                      (tree_Node_bare n false true true).bind fun v51 =>
                      if v51 then
                        if (decide ((0 : Int) ≤ n.N)) then
                          if (decide (n.N ≤ 8)) then
                            if (decide (n.N ≤ (n.L.length : Int))) then
                              if (decide ((n.L.length : Int) ≤ 16)) then
                                (tree_unlike n.L).bind fun v57 =>
                                some v57
                              else
                                some false
                            else
                              some false
                          else
                            some false
                        else
                          some false
                      else
                        some false
                    ).bind fun y49 =>
                    some y49
                  else
                    if (decide (n.K = 13)) then
                      (
                        (tree_Node_bare n false false true).bind fun v60 =>
                        if v60 then
                          some (decide ((n.Kids.length : Int) = 1))
                        else
                          some false
                      ).bind fun y58 =>
                      some y58
                    else
                      some false
def tree_stands (k : Int) (super : Bool) (msg : Bool) (up : Bool) : Option Bool :=
  if (decide (k = 1)) then
    some super
  else
    if (decide (k = 11)) then
      some msg
    else
      if (decide (k = 13)) then
        some up
      else
        some (!msg)
def tree_Node_places (n : tree_Node) (i : Int) : Option (Bool × Bool × Bool) :=
  if (decide (n.K = 9)) then
    some ((decide (i = 0)), false, false)
  else
    if (decide (n.K = 10)) then
      some ((decide (i = 0)), (decide ((0 : Int) < i)), false)
    else
      if (decide (n.K = 12)) then
        (ck ((n.Kids.length : Int) - 1)).bind fun v2 =>
        some (false, false, (decide (i = v2)))
      else
        some (false, false, false)
structure R_tree_walk_come where
  tree_walk_come : tree_walk → Int → Int → Bool → Bool → Bool → Option (Bool × tree_walk)
def tree_walk_come_l1 (i : Int) (above : Int) (rec : R_tree_walk_come) (v16 : tree_Node) (K18 : (tree_walk → Option (Bool × tree_walk))) : Nat → Int → tree_walk → Option (Bool × tree_walk)
  | 0, _, _ => none
  | q1+1, v32, v33 =>
    if (decide (v32 < (v16.Kids.length : Int))) then
      (lAt v16.Kids v32).bind fun v36 =>
      (tree_Node_places v16 v32).bind fun v37 =>
      (
        if (decide (i ≤ v36)) then
          some (true, v33)
        else
          (ck (above + 1)).bind fun v42 =>
          (rec.tree_walk_come v33 v36 v42 v37.1 v37.2.1 v37.2.2).bind fun v43 =>
          some ((!v43.1), v43.2)
      ).bind fun y38 =>
      if y38.1 then
        some (false, y38.2)
      else
        (ck (v32 + 1)).bind fun v45 =>
        tree_walk_come_l1 i above rec v16 K18 q1 v45 y38.2
    else
      K18 v33
def tree_walk_come_b (rec : R_tree_walk_come) (p0_w : tree_walk) (i : Int) (above : Int) (super : Bool) (msg : Bool) (up : Bool) : Option (Bool × tree_walk) :=
  (
    if (decide (i < p0_w.next)) then
      some true
    else
      if (decide ((p0_w.l.length : Int) ≤ i)) then
        some true
      else
        if (decide ((64 : Int) ≤ above)) then
          some true
        else
          (lAt p0_w.l i).bind fun v8 =>
          (tree_Node_may v8).bind fun v9 =>
          if (!v9) then
            some true
          else
            (tree_stands v8.K super msg up).bind fun v13 =>
            some (!v13)
  ).bind fun y1 =>
  if y1 then
    some (false, p0_w)
  else
    (lAt p0_w.l i).bind fun v16 =>
    letK (fun (v46 : tree_walk) =>
      (ck (v46.next + 1)).bind fun v48 =>
      (ck (v48 - 1)).bind fun v50 =>
      some ((decide (i = v50)), (tree_walk.mk v46.l v48))
    ) fun (K18 : (tree_walk → Option (Bool × tree_walk))) =>
    tree_walk_come_l1 i above rec v16 K18 fuel 0 p0_w
def R_tree_walk_come_n : Nat → R_tree_walk_come
  | 0 => ⟨fun _ _ _ _ _ _ => none⟩
  | n+1 => ⟨tree_walk_come_b (R_tree_walk_come_n n)⟩
def tree_walk_come (p0_w : tree_walk) (i : Int) (above : Int) (super : Bool) (msg : Bool) (up : Bool) : Option (Bool × tree_walk) := (R_tree_walk_come_n fuel).tree_walk_come p0_w i above super msg up
def tree_Check_l1 (m : tree_Method) (K11 : (tree_walk → Option (Option Int))) : Nat → Int → tree_walk → Option (Option Int)
  | 0, _, _ => none
  | q1+1, v21, v22 =>
    if (decide (v21 < (m.Body.length : Int))) then
      (lAt m.Body v21).bind fun v25 =>
      (ck ((m.Body.length : Int) - 1)).bind fun v27 =>
      (tree_walk_come v22 v25 0 false false (decide (v21 = v27))).bind fun v28 =>
      if (!v28.1) then
        some (some 1)
      else
        (ck (v21 + 1)).bind fun v30 =>
        tree_Check_l1 m K11 q1 v30 v28.2
    else
      K11 v22
def tree_Check (m : tree_Method) : Option (Option Int) :=
  (slices_Concat_Lstring_string ([m.Args, m.Temps] : List (List Str))).bind fun v1 =>
  (
    (tree_sends m.Sel (m.Args.length : Int)).bind fun v4 =>
    if (!v4) then
      some true
    else
      if (decide ((16 : Int) < (v1.length : Int))) then
        some true
      else
        (tree_unlike v1).bind fun v7 =>
        if (!v7) then
          some true
        else
          if (decide ((500 : Int) < (m.Nodes.length : Int))) then
            some true
          else
            some (decide ((500 : Int) < (m.Body.length : Int)))
  ).bind fun y2 =>
  if y2 then
    some (some 1)
  else
    letK (fun (v31 : tree_walk) =>
      if (!decide (v31.next = (m.Nodes.length : Int))) then
        some (some 1)
      else
        some none
    ) fun (K11 : (tree_walk → Option (Option Int))) =>
    tree_Check_l1 m K11 fuel 0 (tree_walk.mk m.Nodes 0)
def slices_Equal_Lstring_string_l1 (s1 : (List Str)) (s2 : (List Str)) (K2 : (Unit → Option Bool)) : Nat → Int → Option Bool
  | 0, _ => none
  | q1+1, v3 =>
    if (decide (v3 < (s1.length : Int))) then
      (lAt s1 v3).bind fun v6 =>
      (lAt s2 v3).bind fun v9 =>
      if (!(v6 == v9)) then
        some false
      else
        (ck (v3 + 1)).bind fun v11 =>
        slices_Equal_Lstring_string_l1 s1 s2 K2 q1 v11
    else
      K2 ()
def slices_Equal_Lstring_string (s1 : (List Str)) (s2 : (List Str)) : Option Bool :=
  if (!decide ((s1.length : Int) = (s2.length : Int))) then
    some false
  else
    letK (fun (_ : Unit) =>
      some true
    ) fun (K2 : (Unit → Option Bool)) =>
    slices_Equal_Lstring_string_l1 s1 s2 K2 fuel 0
def slices_EqualFunc_Ltree_Node_Ltree_Node_tree_Node_tree_Node_l1 (s1 : (List tree_Node)) (s2 : (List tree_Node)) (eq : (tree_Node → tree_Node → Option Bool)) (K2 : (Unit → Option Bool)) : Nat → Int → Option Bool
  | 0, _ => none
  | q1+1, v3 =>
    if (decide (v3 < (s1.length : Int))) then
      (lAt s1 v3).bind fun v6 =>
      (lAt s2 v3).bind fun v9 =>
      (eq v6 v9).bind fun v10 =>
      if (!v10) then
        some false
      else
        (ck (v3 + 1)).bind fun v12 =>
        slices_EqualFunc_Ltree_Node_Ltree_Node_tree_Node_tree_Node_l1 s1 s2 eq K2 q1 v12
    else
      K2 ()
def slices_EqualFunc_Ltree_Node_Ltree_Node_tree_Node_tree_Node (s1 : (List tree_Node)) (s2 : (List tree_Node)) (eq : (tree_Node → tree_Node → Option Bool)) : Option Bool :=
  if (!decide ((s1.length : Int) = (s2.length : Int))) then
    some false
  else
    letK (fun (_ : Unit) =>
      some true
    ) fun (K2 : (Unit → Option Bool)) =>
    slices_EqualFunc_Ltree_Node_Ltree_Node_tree_Node_tree_Node_l1 s1 s2 eq K2 fuel 0
def slices_Equal_Lint_int_l1 (s1 : (List Int)) (s2 : (List Int)) (K2 : (Unit → Option Bool)) : Nat → Int → Option Bool
  | 0, _ => none
  | q1+1, v3 =>
    if (decide (v3 < (s1.length : Int))) then
      (lAt s1 v3).bind fun v6 =>
      (lAt s2 v3).bind fun v9 =>
      if (!decide (v6 = v9)) then
        some false
      else
        (ck (v3 + 1)).bind fun v11 =>
        slices_Equal_Lint_int_l1 s1 s2 K2 q1 v11
    else
      K2 ()
def slices_Equal_Lint_int (s1 : (List Int)) (s2 : (List Int)) : Option Bool :=
  if (!decide ((s1.length : Int) = (s2.length : Int))) then
    some false
  else
    letK (fun (_ : Unit) =>
      some true
    ) fun (K2 : (Unit → Option Bool)) =>
    slices_Equal_Lint_int_l1 s1 s2 K2 fuel 0
def tree_Node_same (n : tree_Node) (o : tree_Node) : Option Bool :=
  (
    if (decide (n.K = o.K)) then
      if (n.S == o.S) then
        if (decide (n.N = o.N)) then
          (slices_Equal_Lstring_string n.L o.L).bind fun v6 =>
          if v6 then
            (slices_Equal_Lint_int n.Kids o.Kids).bind fun v8 =>
            some v8
          else
            some false
        else
          some false
      else
        some false
    else
      some false
  ).bind fun y1 =>
  some y1
def tree_Same (a : tree_Method) (p1_b : tree_Method) : Option Bool :=
  (
    if (a.Sel == p1_b.Sel) then
      (slices_Equal_Lstring_string a.Args p1_b.Args).bind fun v4 =>
      if v4 then
        (slices_Equal_Lstring_string a.Temps p1_b.Temps).bind fun v6 =>
        if v6 then
          (slices_EqualFunc_Ltree_Node_Ltree_Node_tree_Node_tree_Node a.Nodes p1_b.Nodes tree_Node_same).bind fun v8 =>
          if v8 then
            (slices_Equal_Lint_int a.Body p1_b.Body).bind fun v10 =>
            some v10
          else
            some false
        else
          some false
      else
        some false
    else
      some false
  ).bind fun y1 =>
  some y1
def law14_texts_l1 (a : (List Str)) (p1_b : (List Str)) (K2 : (Unit → Option Bool)) : Nat → Int → Option Bool
  | 0, _ => none
  | q1+1, v3 =>
    if (decide (v3 < (a.length : Int))) then
      (lAt a v3).bind fun v6 =>
      (lAt p1_b v3).bind fun v9 =>
      if (!(v6 == v9)) then
        some false
      else
        (ck (v3 + 1)).bind fun v11 =>
        law14_texts_l1 a p1_b K2 q1 v11
    else
      K2 ()
def law14_texts (a : (List Str)) (p1_b : (List Str)) : Option Bool :=
  if (!decide ((a.length : Int) = (p1_b.length : Int))) then
    some false
  else
    letK (fun (_ : Unit) =>
      some true
    ) fun (K2 : (Unit → Option Bool)) =>
    law14_texts_l1 a p1_b K2 fuel 0
structure R_tree_Method_free where
  tree_Method_free : tree_Method → Int → (List Str) → Option (List Str)
def tree_Method_free_l1 (m : tree_Method) (rec : R_tree_Method_free) (v3 : tree_Node) (y4 : (List Str)) : Nat → (List Str) → Int → Option (List Str)
  | 0, _, _ => none
  | q1+1, v20, v21 =>
    if (decide (v21 < (v3.Kids.length : Int))) then
      (lAt v3.Kids v21).bind fun v24 =>
      (rec.tree_Method_free m v24 y4).bind fun v25 =>
      (app 16 v20 v25).bind fun v28 =>
      (ck (v21 + 1)).bind fun v30 =>
      tree_Method_free_l1 m rec v3 y4 q1 v28 v30
    else
      some v20
def tree_Method_free_b (rec : R_tree_Method_free) (m : tree_Method) (i : Int) (own : (List Str)) : Option (List Str) :=
  (lAt m.Nodes i).bind fun v3 =>
  (
    if (decide (v3.K = 12)) then
      (slices_Concat_Lstring_string ([own, v3.L] : List (List Str))).bind fun v6 =>
      some v6
    else
      some own
  ).bind fun y4 =>
  (
    if (decide (v3.K = 7)) then
      (slices_Contains_Lstring_string y4 v3.S).bind fun v12 =>
      some (!v12)
    else
      if (decide (v3.K = 8)) then
        (slices_Contains_Lstring_string y4 v3.S).bind fun v11 =>
        some (!v11)
      else
        some false
  ).bind fun y7 =>
  (
    if y7 then
      (app 16 ([] : List Str) ([v3.S] : List Str)).bind fun v17 =>
      some v17
    else
      some []
  ).bind fun y13 =>
  (
    tree_Method_free_l1 m rec v3 y4 fuel y13 0
  ).bind fun y18 =>
  some y18
def R_tree_Method_free_n : Nat → R_tree_Method_free
  | 0 => ⟨fun _ _ _ => none⟩
  | n+1 => ⟨tree_Method_free_b (R_tree_Method_free_n n)⟩
def tree_Method_free (m : tree_Method) (i : Int) (own : (List Str)) : Option (List Str) := (R_tree_Method_free_n fuel).tree_Method_free m i own
def tree_Free_l1 (m : tree_Method) : Nat → Int → (List Str) → Option (List Str)
  | 0, _, _ => none
  | q1+1, v16, v17 =>
    if (decide (v16 < (m.Body.length : Int))) then
      (lAt m.Body v16).bind fun v20 =>
      (slices_Concat_Lstring_string ([m.Args, m.Temps] : List (List Str))).bind fun v21 =>
      (tree_Method_free m v20 v21).bind fun v22 =>
      (app 16 v17 v22).bind fun v26 =>
      (ck (v16 + 1)).bind fun v28 =>
      tree_Free_l1 m q1 v28 v26
    else
      some v17
def tree_Free (m : tree_Method) : Option (List Str) :=
  (tree_Check m).bind fun v1 =>
  if v1.isSome then
    some []
  else
    (
      tree_Free_l1 m fuel 0 []
    ).bind fun y2 =>
    (tree_sorted y2).bind fun v29 =>
    some v29
def tree_Sent_l1 (m : tree_Method) : Nat → Int → (List Str) → Option (List Str)
  | 0, _, _ => none
  | q1+1, v18, v19 =>
    if (decide (v18 < (m.Nodes.length : Int))) then
      (lAt m.Nodes v18).bind fun v22 =>
      (
        if ((decide (v22.K = 9)) || (decide (v22.K = 11))) then
          (app 16 v19 ([v22.S] : List Str)).bind fun v29 =>
          some v29
        else
          some v19
      ).bind fun y24 =>
      (ck (v18 + 1)).bind fun v31 =>
      tree_Sent_l1 m q1 v31 y24
    else
      some v19
def tree_Sent (m : tree_Method) : Option (List Str) :=
  (tree_Check m).bind fun v1 =>
  if v1.isSome then
    some []
  else
    (
      tree_Sent_l1 m fuel 0 []
    ).bind fun y2 =>
    (tree_sorted y2).bind fun v33 =>
    some v33
def slices_IndexFunc_Ltree_Class_tree_Class_l1 (s : (List tree_Class)) (p1_f : (tree_Class → Option Bool)) (K2 : (Unit → Option Int)) : Nat → Int → Option Int
  | 0, _ => none
  | q1+1, v3 =>
    if (decide (v3 < (s.length : Int))) then
      (lAt s v3).bind fun v6 =>
      (p1_f v6).bind fun v7 =>
      if v7 then
        some v3
      else
        (ck (v3 + 1)).bind fun v9 =>
        slices_IndexFunc_Ltree_Class_tree_Class_l1 s p1_f K2 q1 v9
    else
      K2 ()
def slices_IndexFunc_Ltree_Class_tree_Class (s : (List tree_Class)) (p1_f : (tree_Class → Option Bool)) : Option Int :=
  letK (fun (_ : Unit) =>
    some (-1)
  ) fun (K2 : (Unit → Option Int)) =>
  slices_IndexFunc_Ltree_Class_tree_Class_l1 s p1_f K2 fuel 0
def slices_ContainsFunc_Ltree_Class_tree_Class (s : (List tree_Class)) (p1_f : (tree_Class → Option Bool)) : Option Bool :=
  (slices_IndexFunc_Ltree_Class_tree_Class s p1_f).bind fun v1 =>
  some (decide ((0 : Int) ≤ v1))
def tree_Class_may_1 (s : Str) : Option Bool :=
  (tree_variable s).bind fun v1 =>
  some (!v1)
def slices_IndexFunc_Ltree_Method_tree_Method_l1 (s : (List tree_Method)) (p1_f : (tree_Method → Option Bool)) (K2 : (Unit → Option Int)) : Nat → Int → Option Int
  | 0, _ => none
  | q1+1, v3 =>
    if (decide (v3 < (s.length : Int))) then
      (lAt s v3).bind fun v6 =>
      (p1_f v6).bind fun v7 =>
      if v7 then
        some v3
      else
        (ck (v3 + 1)).bind fun v9 =>
        slices_IndexFunc_Ltree_Method_tree_Method_l1 s p1_f K2 q1 v9
    else
      K2 ()
def slices_IndexFunc_Ltree_Method_tree_Method (s : (List tree_Method)) (p1_f : (tree_Method → Option Bool)) : Option Int :=
  letK (fun (_ : Unit) =>
    some (-1)
  ) fun (K2 : (Unit → Option Int)) =>
  slices_IndexFunc_Ltree_Method_tree_Method_l1 s p1_f K2 fuel 0
def slices_ContainsFunc_Ltree_Method_tree_Method (s : (List tree_Method)) (p1_f : (tree_Method → Option Bool)) : Option Bool :=
  (slices_IndexFunc_Ltree_Method_tree_Method s p1_f).bind fun v1 =>
  some (decide ((0 : Int) ≤ v1))
def tree_Class_may_2 (m : tree_Method) : Option Bool :=
  (tree_Check m).bind fun v1 =>
  some v1.isSome
def tree_Class_may (c : tree_Class) : Option Bool :=
  (
    (tree_named c.Name [65, 66, 67, 68, 69, 70, 71, 72, 73, 74, 75, 76, 77, 78, 79, 80, 81, 82, 83, 84, 85, 86, 87, 88, 89, 90]).bind fun v3 =>
    if (!v3) then
      some true
    else
      (tree_named c.Super [65, 66, 67, 68, 69, 70, 71, 72, 73, 74, 75, 76, 77, 78, 79, 80, 81, 82, 83, 84, 85, 86, 87, 88, 89, 90]).bind fun v5 =>
      if (!v5) then
        some true
      else
        if (decide ((16 : Int) < (c.Vars.length : Int))) then
          some true
        else
          some (decide ((256 : Int) < (c.Methods.length : Int)))
  ).bind fun y1 =>
  if y1 then
    some false
  else
    (
      (slices_ContainsFunc_Lstring_string c.Vars tree_Class_may_1).bind fun v10 =>
      if (!v10) then
        (slices_ContainsFunc_Ltree_Method_tree_Method c.Methods tree_Class_may_2).bind fun v12 =>
        some (!v12)
      else
        some false
    ).bind fun y8 =>
    some y8
def tree_CheckAll_1 (c : tree_Class) : Option Bool :=
  (tree_Class_may c).bind fun v1 =>
  some (!v1)
def tree_CheckAll (l : (List tree_Class)) : Option (Option Int) :=
  (
    if (decide ((64 : Int) < (l.length : Int))) then
      some true
    else
      (slices_ContainsFunc_Ltree_Class_tree_Class l tree_CheckAll_1).bind fun v4 =>
      some v4
  ).bind fun y1 =>
  if y1 then
    some (some 1)
  else
    some none
def law14_sure  : Option Bool :=
  (
    (tree_Check (tree_Method.mk [97, 116, 58] ([[105]] : List Str) ([[116]] : List Str) ([(tree_Node.mk 7 [120] 0 [] []), (tree_Node.mk 7 [121] 0 [] []), (tree_Node.mk 9 [102, 111, 111] 0 [] ([1] : List Int)), (tree_Node.mk 12 [] 1 ([[121]] : List Str) ([2] : List Int)), (tree_Node.mk 9 [100, 111, 58] 0 [] ([0, 3] : List Int)), (tree_Node.mk 13 [] 0 [] ([4] : List Int))] : List tree_Node) ([5] : List Int))).bind fun v3 =>
    if v3.isNone then
      (tree_Check (tree_Method.mk [97, 116, 58] ([[105]] : List Str) ([[116]] : List Str) ([(tree_Node.mk 7 [120] 0 [] []), (tree_Node.mk 7 [121] 0 [] []), (tree_Node.mk 9 [102, 111, 111] 0 [] ([1] : List Int)), (tree_Node.mk 12 [] 1 ([[121]] : List Str) ([2] : List Int)), (tree_Node.mk 9 [100, 111, 58] 0 [] ([0, 3] : List Int)), (tree_Node.mk 13 [] 0 [] ([4] : List Int))] : List tree_Node) ([4] : List Int))).bind fun v5 =>
      (law_num v5).bind fun v6 =>
      if (decide (v6 = 1)) then
        (tree_Same (tree_Method.mk [97, 116, 58] ([[105]] : List Str) ([[116]] : List Str) ([(tree_Node.mk 7 [120] 0 [] []), (tree_Node.mk 7 [121] 0 [] []), (tree_Node.mk 9 [102, 111, 111] 0 [] ([1] : List Int)), (tree_Node.mk 12 [] 1 ([[121]] : List Str) ([2] : List Int)), (tree_Node.mk 9 [100, 111, 58] 0 [] ([0, 3] : List Int)), (tree_Node.mk 13 [] 0 [] ([4] : List Int))] : List tree_Node) ([5] : List Int)) (tree_Method.mk [97, 116, 58] ([[105]] : List Str) ([[116]] : List Str) ([(tree_Node.mk 7 [120] 0 [] []), (tree_Node.mk 7 [121] 0 [] []), (tree_Node.mk 9 [102, 111, 111] 0 [] ([1] : List Int)), (tree_Node.mk 12 [] 1 ([[121]] : List Str) ([2] : List Int)), (tree_Node.mk 9 [100, 111, 58] 0 [] ([0, 3] : List Int)), (tree_Node.mk 13 [] 0 [] ([4] : List Int))] : List tree_Node) ([5] : List Int))).bind fun v8 =>
        if v8 then
          (tree_Same (tree_Method.mk [97, 116, 58] ([[105]] : List Str) ([[116]] : List Str) ([(tree_Node.mk 7 [120] 0 [] []), (tree_Node.mk 7 [121] 0 [] []), (tree_Node.mk 9 [102, 111, 111] 0 [] ([1] : List Int)), (tree_Node.mk 12 [] 1 ([[121]] : List Str) ([2] : List Int)), (tree_Node.mk 9 [100, 111, 58] 0 [] ([0, 3] : List Int)), (tree_Node.mk 13 [] 0 [] ([4] : List Int))] : List tree_Node) ([5] : List Int)) (tree_Method.mk [97, 116, 58] ([[105]] : List Str) ([[116]] : List Str) ([(tree_Node.mk 7 [120] 0 [] []), (tree_Node.mk 7 [121] 0 [] []), (tree_Node.mk 9 [102, 111, 111] 0 [] ([1] : List Int)), (tree_Node.mk 12 [] 1 ([[121]] : List Str) ([2] : List Int)), (tree_Node.mk 9 [100, 111, 58] 0 [] ([0, 3] : List Int)), (tree_Node.mk 13 [] 0 [] ([4] : List Int))] : List tree_Node) ([4] : List Int))).bind fun v10 =>
          if (!v10) then
            (tree_Free (tree_Method.mk [97, 116, 58] ([[105]] : List Str) ([[116]] : List Str) ([(tree_Node.mk 7 [120] 0 [] []), (tree_Node.mk 7 [121] 0 [] []), (tree_Node.mk 9 [102, 111, 111] 0 [] ([1] : List Int)), (tree_Node.mk 12 [] 1 ([[121]] : List Str) ([2] : List Int)), (tree_Node.mk 9 [100, 111, 58] 0 [] ([0, 3] : List Int)), (tree_Node.mk 13 [] 0 [] ([4] : List Int))] : List tree_Node) ([5] : List Int))).bind fun v12 =>
            (law14_texts v12 ([[120]] : List Str)).bind fun v13 =>
            if v13 then
              (tree_Sent (tree_Method.mk [97, 116, 58] ([[105]] : List Str) ([[116]] : List Str) ([(tree_Node.mk 7 [120] 0 [] []), (tree_Node.mk 7 [121] 0 [] []), (tree_Node.mk 9 [102, 111, 111] 0 [] ([1] : List Int)), (tree_Node.mk 12 [] 1 ([[121]] : List Str) ([2] : List Int)), (tree_Node.mk 9 [100, 111, 58] 0 [] ([0, 3] : List Int)), (tree_Node.mk 13 [] 0 [] ([4] : List Int))] : List tree_Node) ([5] : List Int))).bind fun v15 =>
              (law14_texts v15 ([[100, 111, 58], [102, 111, 111]] : List Str)).bind fun v16 =>
              if v16 then
                (tree_CheckAll ([(tree_Class.mk [65] [79, 98, 106, 101, 99, 116] [] ([(tree_Method.mk [97, 116, 58] ([[105]] : List Str) ([[116]] : List Str) ([(tree_Node.mk 7 [120] 0 [] []), (tree_Node.mk 7 [121] 0 [] []), (tree_Node.mk 9 [102, 111, 111] 0 [] ([1] : List Int)), (tree_Node.mk 12 [] 1 ([[121]] : List Str) ([2] : List Int)), (tree_Node.mk 9 [100, 111, 58] 0 [] ([0, 3] : List Int)), (tree_Node.mk 13 [] 0 [] ([4] : List Int))] : List tree_Node) ([5] : List Int))] : List tree_Method))] : List tree_Class)).bind fun v18 =>
                if v18.isNone then
                  (tree_CheckAll ([(tree_Class.mk [97] [79, 98, 106, 101, 99, 116] [] [])] : List tree_Class)).bind fun v20 =>
                  (law_num v20).bind fun v21 =>
                  some (decide (v21 = 1))
                else
                  some false
              else
                some false
            else
              some false
          else
            some false
        else
          some false
      else
        some false
    else
      some false
  ).bind fun y1 =>
  some y1
def law14_giveMethod_l1 (m : ref14_Method) : Nat → Int → (List tree_Node) → Option (List tree_Node)
  | 0, _, _ => none
  | q1+1, v27, v28 =>
    if (decide (v27 < (m.Nodes.length : Int))) then
      (lAt m.Nodes v27).bind fun v31 =>
      (app 16 ([] : List Str) v31.L).bind fun v34 =>
      (app 8 ([] : List Int) v31.Kids).bind fun v37 =>
      (app 80 v28 ([(tree_Node.mk v31.K v31.S v31.N v34 v37)] : List tree_Node)).bind fun v40 =>
      (ck (v27 + 1)).bind fun v42 =>
      law14_giveMethod_l1 m q1 v42 v40
    else
      some v28
def law14_giveMethod (m : ref14_Method) : Option tree_Method :=
  (app 16 ([] : List Str) m.Args).bind fun v3 =>
  (app 16 ([] : List Str) m.Temps).bind fun v6 =>
  (app 8 ([] : List Int) m.Body).bind fun v9 =>
  (
    law14_giveMethod_l1 m fuel 0 []
  ).bind fun y10 =>
  some (tree_Method.mk m.Sel v3 v6 y10 v9)
def law14_TreeOrder_l3 (v92 : Int) (v96 : tree_Node) (K98 : ((List Int) → Option Bool)) : Nat → Int → (List Int) → Option Bool
  | 0, _, _ => none
  | q3+1, v134, v135 =>
    if (decide (v134 < (v96.Kids.length : Int))) then
      (
        (lAt v96.Kids v134).bind fun v140 =>
        if (decide (v140 < 0)) then
          some true
        else
          if (decide (v92 ≤ v140)) then
            some true
          else
            if (decide ((0 : Int) < v134)) then
              (ck (v134 - 1)).bind fun v149 =>
              (lAt v96.Kids v149).bind fun v152 =>
              some (decide (v140 ≤ v152))
            else
              some false
      ).bind fun y136 =>
      if y136 then
        some false
      else
        (lAt v96.Kids v134).bind fun v155 =>
        (lAt v135 v155).bind fun v162 =>
        (ck (v162 + 1)).bind fun v164 =>
        (stAt v135 v155 v164).bind fun v167 =>
        (ck (v134 + 1)).bind fun v169 =>
        law14_TreeOrder_l3 v92 v96 K98 q3 v169 v167
    else
      K98 v135
def law14_TreeOrder_l1 (v1 : tree_Method) (K11 : ((List Int) → Option Bool)) : Nat → Int → (List Int) → Option Bool
  | 0, _, _ => none
  | q1+1, v92, v93 =>
    if (decide (v92 < (v1.Nodes.length : Int))) then
      (lAt v1.Nodes v92).bind fun v96 =>
      letK (fun (v170 : (List Int)) =>
        (ck (v92 + 1)).bind fun v172 =>
        law14_TreeOrder_l1 v1 K11 q1 v172 v170
      ) fun (K98 : ((List Int) → Option Bool)) =>
      law14_TreeOrder_l3 v92 v96 K98 fuel 0 v93
    else
      K11 v93
def law14_TreeOrder_l4 (v1 : tree_Method) : Nat → Int → (List Int) → Option (List Int)
  | 0, _, _ => none
  | q4+1, v194, v195 =>
    if (decide (v194 < (v1.Body.length : Int))) then
      (lAt v1.Body v194).bind fun v198 =>
      (lAt v195 v198).bind fun v205 =>
      (ck (v205 + 1)).bind fun v207 =>
      (stAt v195 v198 v207).bind fun v210 =>
      (ck (v194 + 1)).bind fun v212 =>
      law14_TreeOrder_l4 v1 q4 v212 v210
    else
      some v195
def law14_TreeOrder_l5 (y174 : (List Int)) (K214 : (Unit → Option Bool)) : Nat → Int → Option Bool
  | 0, _ => none
  | q5+1, v215 =>
    if (decide (v215 < (y174.length : Int))) then
      (lAt y174 v215).bind fun v222 =>
      if (!decide (v222 = 1)) then
        some false
      else
        (ck (v215 + 1)).bind fun v224 =>
        law14_TreeOrder_l5 y174 K214 q5 v224
    else
      K214 ()
def law14_TreeOrder (m : ref14_Method) : Option Bool :=
  (law14_giveMethod m).bind fun v1 =>
  (
    (law14_bigTree m).bind fun v4 =>
    if v4 then
      some true
    else
      (tree_Check v1).bind fun v6 =>
      some v6.isSome
  ).bind fun y2 =>
  if y2 then
    (law14_sure).bind fun v7 =>
    some v7
  else
    (mkL 8 (0 : Int) (v1.Nodes.length : Int)).bind fun v9 =>
    letK (fun (v173 : (List Int)) =>
      (
        law14_TreeOrder_l4 v1 fuel 0 v173
      ).bind fun y174 =>
      letK (fun (_ : Unit) =>
        if (decide ((v1.Body.length : Int) = 0)) then
          (
            if (decide ((v1.Nodes.length : Int) = 0)) then
              (law14_sure).bind fun v228 =>
              some v228
            else
              some false
          ).bind fun y225 =>
          some y225
        else
          (ck ((v1.Nodes.length : Int) - 1)).bind fun v230 =>
          (sub v1.Nodes 0 v230).bind fun v233 =>
          (ck ((v1.Body.length : Int) - 1)).bind fun v235 =>
          (sub v1.Body 0 v235).bind fun v238 =>
          (
            (tree_Check (tree_Method.mk v1.Sel v1.Args v1.Temps v233 v1.Body)).bind fun v241 =>
            (law_num v241).bind fun v242 =>
            if (decide (v242 = 1)) then
              (tree_Check (tree_Method.mk v1.Sel v1.Args v1.Temps v1.Nodes v238)).bind fun v244 =>
              (law_num v244).bind fun v245 =>
              if (decide (v245 = 1)) then
                (law14_sure).bind fun v247 =>
                some v247
              else
                some false
            else
              some false
          ).bind fun y239 =>
          some y239
      ) fun (K214 : (Unit → Option Bool)) =>
      law14_TreeOrder_l5 y174 K214 fuel 0
    ) fun (K11 : ((List Int) → Option Bool)) =>
    law14_TreeOrder_l1 v1 K11 fuel 0 v9
end Go.Cq

