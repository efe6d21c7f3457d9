import Derived.Test.YtphdekcijjgbeaaGreatDoorBu
import Derived.Test.YtphdekcijjgbeaaGreatDoorHa8
import Derived.Test.YtphdekcijjgbeaaGreatDoorEx6
set_option linter.unusedSectionVars false
set_option linter.unusedVariables false
set_option linter.unusedSimpArgs false
set_option linter.unnecessarySimpa false
set_option maxRecDepth 100000
set_option maxHeartbeats 4000000
namespace Go.Cq
open Go Go.Av
abbrev Str := List UInt8
structure ref14_Node where
 K : Int
 S : Str
 N : Int
 L : (List Str)
 Kids : (List Int)
deriving Inhabited, DecidableEq
structure ref14_Method where
 Sel : Str
 Args : (List Str)
 Temps : (List Str)
 Nodes : (List ref14_Node)
 Body : (List Int)
deriving Inhabited, DecidableEq
structure tree_Node where
 K : Int
 S : Str
 N : Int
 L : (List Str)
 Kids : (List Int)
deriving Inhabited, DecidableEq
structure large_Num where
 Neg : Bool
 Mag : (List Int)
deriving Inhabited, DecidableEq
structure tree_walk where
 l : (List tree_Node)
 next : Int
deriving Inhabited, DecidableEq
structure tree_Method where
 Sel : Str
 Args : (List Str)
 Temps : (List Str)
 Nodes : (List tree_Node)
 Body : (List Int)
deriving Inhabited, DecidableEq
structure tree_Class where
 Name : Str
 Super : Str
 Vars : (List Str)
 Methods : (List tree_Method)
deriving Inhabited, DecidableEq
structure ref03_Num where
 Neg : Bool
 Mag : (List Int)
deriving Inhabited, DecidableEq
def bytealg_idx (s : Str) (c : Int) : Option Int := some (idxB s (UInt8.ofNat c.toNat))
def law_num (e : Option Int) : Option Int := some (match e with | none => 0 | some n => n)
def strings_Split (s sep : Str) : Option (List Str) := splitS s sep
def strings_Trim (s cs : Str) : Option Str := trimAS s cs
def slices_Grow (n : Int) : Option (List Str) := growNil n
def tree_sorted (l : List Str) : Option (List Str) := some (Lib.compact (l.mergeSort fun x y => decide (x ≤ y)))
def law14_bigTexts_l1 (l : (List Str)) (K2 : (Unit → Option Bool)) : Nat → Int → Option Bool
 | 0, _ => none
 | q1+1, v3 =>
  if ((decide (v3 < (l.length : Int))) && (decide (v3 < 40))) then
   (lAt l v3).bind fun v7 =>
   if (decide ((1100 : Int) < (v7.length : Int))) then
    some true
   else
    (ck (v3 + 1)).bind fun v9 =>
    law14_bigTexts_l1 l K2 q1 v9
  else
   K2 ()
def law14_bigTexts (l : (List Str)) : Option Bool :=
 letK (fun (_ : Unit) =>
  some (decide ((40 : Int) < (l.length : Int)))
 ) fun (K2 : (Unit → Option Bool)) =>
 law14_bigTexts_l1 l K2 fuel 0
def law14_bigTree_l1 (m : ref14_Method) (K10 : (Unit → Option Bool)) : Nat → Int → Option Bool
 | 0, _ => none
 | q1+1, v11 =>
  if (decide (v11 < (m.Nodes.length : Int))) then
   (lAt m.Nodes v11).bind fun v14 =>
   (
    if (decide ((1100 : Int) < (v14.S.length : Int))) then
     some true
    else
     (law14_bigTexts v14.L).bind fun v18 =>
     if v18 then
      some true
     else
      some (decide ((520 : Int) < (v14.Kids.length : Int)))
   ).bind fun y15 =>
   if y15 then
    some true
   else
    (ck (v11 + 1)).bind fun v21 =>
    law14_bigTree_l1 m K10 q1 v21
  else
   K10 ()
def law14_bigTree (m : ref14_Method) : Option Bool :=
 (
  if (decide ((1100 : Int) < (m.Sel.length : Int))) then
   some true
  else
   (law14_bigTexts m.Args).bind fun v4 =>
   if v4 then
    some true
   else
    (law14_bigTexts m.Temps).bind fun v6 =>
    if v6 then
     some true
    else
     if (decide ((520 : Int) < (m.Nodes.length : Int))) then
      some true
     else
      some (decide ((520 : Int) < (m.Body.length : Int)))
 ).bind fun y1 =>
 if y1 then
  some true
 else
  letK (fun (_ : Unit) =>
   some false
  ) fun (K10 : (Unit → Option Bool)) =>
  law14_bigTree_l1 m K10 fuel 0
def slices_Concat_Lstring_string_l1 (slices : (List (List Str))) : Nat → Int → Int → Option Int
 | 0, _, _ => none
 | q1+1, v3, v4 =>
  if (decide (v4 < (slices.length : Int))) then
   (lAt slices v4).bind fun v7 =>
   (ck (v3 + (v7.length : Int))).bind fun v9 =>
   (
    if (decide (v9 < 0)) then
     none
    else
     some ()
   ).bind fun y10 =>
   (ck (v4 + 1)).bind fun v13 =>
   slices_Concat_Lstring_string_l1 slices q1 v9 v13
  else
   some v3
def slices_Concat_Lstring_string_l2 (slices : (List (List Str))) : Nat → (List Str) → Int → Option (List Str)
 | 0, _, _ => none
 | q2+1, v17, v18 =>
  if (decide (v18 < (slices.length : Int))) then
   (lAt slices v18).bind fun v21 =>
   (app 16 v17 v21).bind fun v24 =>
   (ck (v18 + 1)).bind fun v26 =>
   slices_Concat_Lstring_string_l2 slices q2 v24 v26
  else
   some v17
def slices_Concat_Lstring_string (slices : (List (List Str))) : Option (List Str) :=
 (
  slices_Concat_Lstring_string_l1 slices fuel 0 0
 ).bind fun y1 =>
 (slices_Grow y1).bind fun v14 =>
 (
  slices_Concat_Lstring_string_l2 slices fuel v14 0
 ).bind fun y15 =>
 some y15
def slices_IndexFunc_Lstring_string_l1 (s : (List Str)) (p1_f : (Str → Option Bool)) (K2 : (Unit → Option Int)) : Nat → Int → Option Int
 | 0, _ => none
 | q1+1, v3 =>
  if (decide (v3 < (s.length : Int))) then
   (lAt s v3).bind fun v6 =>
   (p1_f v6).bind fun v7 =>
   if v7 then
    some v3
   else
    (ck (v3 + 1)).bind fun v9 =>
    slices_IndexFunc_Lstring_string_l1 s p1_f K2 q1 v9
  else
   K2 ()
def slices_IndexFunc_Lstring_string (s : (List Str)) (p1_f : (Str → Option Bool)) : Option Int :=
 letK (fun (_ : Unit) =>
  some (-1)
 ) fun (K2 : (Unit → Option Int)) =>
 slices_IndexFunc_Lstring_string_l1 s p1_f K2 fuel 0
def slices_ContainsFunc_Lstring_string (s : (List Str)) (p1_f : (Str → Option Bool)) : Option Bool :=
 (slices_IndexFunc_Lstring_string s p1_f).bind fun v1 =>
 some (decide ((0 : Int) ≤ v1))
def slices_IndexFunc_Lbyte_byte_l1 (s : (List Int)) (p1_f : (Int → Option Bool)) (K2 : (Unit → Option Int)) : Nat → Int → Option Int
 | 0, _ => none
 | q1+1, v3 =>
  if (decide (v3 < (s.length : Int))) then
   (lAt s v3).bind fun v6 =>
   (p1_f v6).bind fun v7 =>
   if v7 then
    some v3
   else
    (ck (v3 + 1)).bind fun v9 =>
    slices_IndexFunc_Lbyte_byte_l1 s p1_f K2 q1 v9
  else
   K2 ()
def slices_IndexFunc_Lbyte_byte (s : (List Int)) (p1_f : (Int → Option Bool)) : Option Int :=
 letK (fun (_ : Unit) =>
  some (-1)
 ) fun (K2 : (Unit → Option Int)) =>
 slices_IndexFunc_Lbyte_byte_l1 s p1_f K2 fuel 0
def slices_ContainsFunc_Lbyte_byte (s : (List Int)) (p1_f : (Int → Option Bool)) : Option Bool :=
 (slices_IndexFunc_Lbyte_byte s p1_f).bind fun v1 =>
 some (decide ((0 : Int) ≤ v1))
def method_letter (c : Int) : Option Bool :=
 some ((((decide ((97 : Int) ≤ c)) && (decide (c ≤ 122))) || ((decide ((65 : Int) ≤ c)) && (decide (c ≤ 90)))) || ((decide ((48 : Int) ≤ c)) && (decide (c ≤ 57))))
def method_name_1 (c : Int) : Option Bool :=
 (method_letter c).bind fun v1 =>
 some (!v1)
def method_name (s : Str) : Option Bool :=
 (
  if (s == []) then
   some true
  else
   (sIdx s 0).bind fun v6 =>
   if (decide (v6 < 97)) then
    some true
   else
    some (decide ((122 : Int) < v6))
 ).bind fun y1 =>
 if y1 then
  some false
 else
  (slices_ContainsFunc_Lbyte_byte (toInts s) method_name_1).bind fun v10 =>
  some (!v10)
def internal_stringslite_HasSuffix (s : Str) (suffix : Str) : Option Bool :=
 (
  if (decide ((suffix.length : Int) ≤ (s.length : Int))) then
   (ck ((s.length : Int) - (suffix.length : Int))).bind fun v5 =>
   (sub s v5 (s.length : Int)).bind fun v8 =>
   some (v8 == suffix)
  else
   some false
 ).bind fun y1 =>
 some y1
def strings_HasSuffix (s : Str) (suffix : Str) : Option Bool :=
 (internal_stringslite_HasSuffix s suffix).bind fun v1 =>
 some v1
def internal_stringslite_TrimSuffix (s : Str) (suffix : Str) : Option Str :=
 (internal_stringslite_HasSuffix s suffix).bind fun v1 =>
 if v1 then
  (ck ((s.length : Int) - (suffix.length : Int))).bind fun v3 =>
  (sub s 0 v3).bind fun v6 =>
  some v6
 else
  some s
def strings_TrimSuffix (s : Str) (suffix : Str) : Option Str :=
 (internal_stringslite_TrimSuffix s suffix).bind fun v1 =>
 some v1
def method_Arity_1 (s : Str) : Option Bool :=
 (method_name s).bind fun v1 =>
 some (!v1)
def method_Arity (sel : Str) : Option (Int × Bool) :=
 if ((sel == []) || (decide ((64 : Int) < (sel.length : Int)))) then
  some (0, false)
 else
  (method_name sel).bind fun v2 =>
  if v2 then
   some (0, true)
  else
   (
    (strings_Trim sel [43, 45, 42, 47, 92, 60, 62, 61, 126, 44]).bind fun v5 =>
    if (v5 == []) then
     some (decide ((sel.length : Int) ≤ 2))
    else
     some false
   ).bind fun y3 =>
   if y3 then
    some (1, true)
   else
    (strings_HasSuffix sel [58]).bind fun v7 =>
    if (!v7) then
     some (0, false)
    else
     (strings_TrimSuffix sel [58]).bind fun v8 =>
     (strings_Split v8 [58]).bind fun v9 =>
     (
      if (decide ((8 : Int) < (v9.length : Int))) then
       some true
      else
       (slices_ContainsFunc_Lstring_string v9 method_Arity_1).bind fun v13 =>
       some v13
     ).bind fun y10 =>
     if y10 then
      some (0, false)
     else
      some ((v9.length : Int), true)
def tree_sends (sel : Str) (n : Int) : Option Bool :=
 (method_Arity sel).bind fun v1 =>
 some (v1.2 && (decide (v1.1 = n)))
def slices_Index_Lstring_string_l1 (s : (List Str)) (p1_v : Str) (K2 : (Unit → Option Int)) : Nat → Int → Option Int
 | 0, _ => none
 | q1+1, v3 =>
  if (decide (v3 < (s.length : Int))) then
   (lAt s v3).bind fun v6 =>
   if (p1_v == v6) then
    some v3
   else
    (ck (v3 + 1)).bind fun v8 =>
    slices_Index_Lstring_string_l1 s p1_v K2 q1 v8
  else
   K2 ()
def slices_Index_Lstring_string (s : (List Str)) (p1_v : Str) : Option Int :=
 letK (fun (_ : Unit) =>
  some (-1)
 ) fun (K2 : (Unit → Option Int)) =>
 slices_Index_Lstring_string_l1 s p1_v K2 fuel 0
def slices_Contains_Lstring_string (s : (List Str)) (p1_v : Str) : Option Bool :=
 (slices_Index_Lstring_string s p1_v).bind fun v1 =>
 some (decide ((0 : Int) ≤ v1))
def internal_stringslite_IndexByte (s : Str) (c : Int) : Option Int :=
 (bytealg_idx s c).bind fun v1 =>
 some v1
def strings_IndexByte (s : Str) (c : Int) : Option Int :=
 (internal_stringslite_IndexByte s c).bind fun v1 =>
 some v1
def tree_named (s : Str) (first : Str) : Option Bool :=
 (
  if (!(s == [])) then
   if (decide ((s.length : Int) ≤ 32)) then
    (sIdx s 0).bind fun v7 =>
    (strings_IndexByte first v7).bind fun v8 =>
    if (decide ((0 : Int) ≤ v8)) then
     (strings_Trim s [97, 98, 99, 100, 101, 102, 103, 104, 105, 106, 107, 108, 109, 110, 111, 112, 113, 114, 115, 116, 117, 118, 119, 120, 121, 122, 65, 66, 67, 68, 69, 70, 71, 72, 73, 74, 75, 76, 77, 78, 79, 80, 81, 82, 83, 84, 85, 86, 87, 88, 89, 90, 48, 49, 50, 51, 52, 53, 54, 55, 56, 57]).bind fun v10 =>
     some (v10 == [])
    else
     some false
   else
    some false
  else
   some false
 ).bind fun y1 =>
 some y1
def tree_variable (s : Str) : Option Bool :=
 (
  (tree_named s [97, 98, 99, 100, 101, 102, 103, 104, 105, 106, 107, 108, 109, 110, 111, 112, 113, 114, 115, 116, 117, 118, 119, 120, 121, 122]).bind fun v3 =>
  if v3 then
   (slices_Contains_Lstring_string ([[115, 101, 108, 102], [115, 117, 112, 101, 114], [110, 105, 108], [116, 114, 117, 101], [102, 97, 108, 115, 101]] : List Str) s).bind fun v5 =>
   some (!v5)
  else
   some false
 ).bind fun y1 =>
 some y1
def tree_unlike_l1 (l : (List Str)) (K2 : (Unit → Option Bool)) : Nat → Int → Option Bool
 | 0, _ => none
 | q1+1, v3 =>
  if (decide (v3 < (l.length : Int))) then
   (lAt l v3).bind fun v6 =>
   (
    (tree_variable v6).bind fun v9 =>
    if (!v9) then
     some true
    else
     (sub l 0 v3).bind fun v13 =>
     (slices_Contains_Lstring_string v13 v6).bind fun v14 =>
     some v14
   ).bind fun y7 =>
   if y7 then
    some false
   else
    (ck (v3 + 1)).bind fun v16 =>
    tree_unlike_l1 l K2 q1 v16
  else
   K2 ()
def tree_unlike (l : (List Str)) : Option Bool :=
 letK (fun (_ : Unit) =>
  some true
 ) fun (K2 : (Unit → Option Bool)) =>
 tree_unlike_l1 l K2 fuel 0
def tree_Node_bare (n : tree_Node) (text : Bool) (names : Bool) (kids : Bool) : Option Bool :=
 some (((text || (n.S == [])) && (names || ((decide (n.N = 0)) && (decide ((n.L.length : Int) = 0))))) && (kids || (decide ((n.Kids.length : Int) = 0))))
def internal_stringslite_HasPrefix (s : Str) (prefix_ : Str) : Option Bool :=
 (
  if (decide ((prefix_.length : Int) ≤ (s.length : Int))) then
   (sub s 0 (prefix_.length : Int)).bind fun v6 =>
   some (v6 == prefix_)
  else
   some false
 ).bind fun y1 =>
 some y1
def internal_stringslite_CutPrefix (s : Str) (prefix_ : Str) : Option (Str × Bool) :=
 (internal_stringslite_HasPrefix s prefix_).bind fun v1 =>
 if (!v1) then
  some (s, false)
 else
  (sub s (prefix_.length : Int) (s.length : Int)).bind fun v4 =>
  some (v4, true)
def strings_CutPrefix (s : Str) (prefix_ : Str) : Option (Str × Bool) :=
 (internal_stringslite_CutPrefix s prefix_).bind fun v1 =>
 some (v1.1, v1.2)
def large_digits (s : Str) : Option (Str × Bool × Bool) :=
 (strings_CutPrefix s [45]).bind fun v1 =>
 (
  if (v1.1 == []) then
   some true
  else
   if (decide ((700 : Int) < (v1.1.length : Int))) then
    some true
   else
    if (decide ((1 : Int) < (v1.1.length : Int))) then
     (sIdx v1.1 0).bind fun v9 =>
     if (decide (v9 = 48)) then
      some true
     else
      if v1.2 then
       if (v1.1 == [48]) then
        some true
       else
        (strings_Trim v1.1 [48, 49, 50, 51, 52, 53, 54, 55, 56, 57]).bind fun v13 =>
        some (!(v13 == []))
      else
       (strings_Trim v1.1 [48, 49, 50, 51, 52, 53, 54, 55, 56, 57]).bind fun v14 =>
       some (!(v14 == []))
    else
     if v1.2 then
      if (v1.1 == [48]) then
       some true
      else
       (strings_Trim v1.1 [48, 49, 50, 51, 52, 53, 54, 55, 56, 57]).bind fun v17 =>
       some (!(v17 == []))
     else
      (strings_Trim v1.1 [48, 49, 50, 51, 52, 53, 54, 55, 56, 57]).bind fun v18 =>
      some (!(v18 == []))
 ).bind fun y2 =>
 if y2 then
  some ([], false, false)
 else
  some (v1.1, v1.2, true)
def large_cut_l1  : Nat → (List Int) → Option (List Int)
 | 0, _ => none
 | q1+1, v3 =>
  (
   if (decide ((0 : Int) < (v3.length : Int))) then
    (ck ((v3.length : Int) - 1)).bind fun v8 =>
    (lAt v3 v8).bind fun v11 =>
    some (decide (v11 = 0))
   else
    some false
  ).bind fun y4 =>
  if y4 then
   (ck ((v3.length : Int) - 1)).bind fun v13 =>
   (sub v3 0 v13).bind fun v16 =>
   large_cut_l1  q1 v16
  else
   some v3
def large_cut (m : (List Int)) : Option (List Int) :=
 (
  large_cut_l1  fuel m
 ).bind fun y1 =>
 some y1
def large_made (neg : Bool) (m : (List Int)) : Option (large_Num × (Option Int)) :=
 (large_cut m).bind fun v1 =>
 if (decide ((64 : Int) < (v1.length : Int))) then
  some ((large_Num.mk false []), (some 4))
 else
  (
   if neg then
    some (decide ((0 : Int) < (v1.length : Int)))
   else
    some false
  ).bind fun y2 =>
  some ((large_Num.mk y2 v1), none)
def large_Parse_l3 (v54 : (List Int)) : Nat → Int → Int → (List Int) → Option (Int × (List Int))
 | 0, _, _, _ => none
 | q3+1, v77, v78, v79 =>
  if (decide (v78 < (v54.length : Int))) then
   (lAt v79 v78).bind fun v86 =>
   (stAt v79 v78 (IntKind.wrap .u32 (IntKind.wrap .u64 (v77 + (IntKind.wrap .u64 ((IntKind.wrap .u64 v86) * 10)))))).bind fun v89 =>
   (shr .u64 (IntKind.wrap .u64 (v77 + (IntKind.wrap .u64 ((IntKind.wrap .u64 v86) * 10)))) 32).bind fun v92 =>
   (ck (v78 + 1)).bind fun v94 =>
   large_Parse_l3 v54 q3 v92 v94 v89
  else
   some (v77, v79)
def large_Parse_l1 (v1 : (Str × Bool × Bool)) : Nat → Int → (List Int) → Option (List Int)
 | 0, _, _ => none
 | q1+1, v53, v54 =>
  if (decide (v53 < ((toInts v1.1).length : Int))) then
   (lAt (toInts v1.1) v53).bind fun v57 =>
   (
    large_Parse_l3 v54 fuel (IntKind.wrap .u64 (IntKind.wrap .u8 (v57 - 48))) 0 v54
   ).bind fun y58 =>
   (
    if (decide ((0 : Int) < y58.1)) then
     (app 4 y58.2 ([(IntKind.wrap .u32 y58.1)] : List Int)).bind fun v100 =>
     some v100
    else
     some y58.2
   ).bind fun y95 =>
   (ck (v53 + 1)).bind fun v102 =>
   large_Parse_l1 v1 q1 v102 y95
  else
   some v54
def large_Parse (s : Str) : Option (large_Num × (Option Int)) :=
 (large_digits s).bind fun v1 =>
 if (!v1.2.2) then
  some ((large_Num.mk false []), (some 2))
 else
  (
   large_Parse_l1 v1 fuel 0 []
  ).bind fun y2 =>
  (large_made v1.2.1 y2).bind fun v103 =>
  some (v103.1, v103.2)
def tree_number (s : Str) : Option Bool :=
 (large_Parse s).bind fun v1 =>
 some v1.2.isNone
def tree_Node_may (n : tree_Node) : Option Bool :=
 (
  if (decide (n.K = 0)) then
   some (decide (n.K = 0))
  else
   (
    if (decide (n.K = 1)) then
     some (decide (n.K = 1))
    else
     (
      if (decide (n.K = 2)) then
       some (decide (n.K = 2))
      else
       (
        if (decide (n.K = 3)) then
         some (decide (n.K = 3))
        else
         some (decide (n.K = 4))
       ).bind fun y7 =>
       some y7
     ).bind fun y5 =>
     some y5
   ).bind fun y3 =>
   some y3
 ).bind fun y1 =>
 if y1 then
  (tree_Node_bare n false false false).bind fun v9 =>
  some v9
 else
  if (decide (n.K = 5)) then
   (
    (tree_Node_bare n true false false).bind fun v12 =>
    if v12 then
     (tree_number n.S).bind fun v14 =>
     some v14
    else
     some false
   ).bind fun y10 =>
   some y10
  else
   if (decide (n.K = 6)) then
    (
     (tree_Node_bare n true false false).bind fun v17 =>
     if v17 then
      some (decide ((n.S.length : Int) ≤ 1024))
     else
      some false
    ).bind fun y15 =>
    some y15
   else
    if (decide (n.K = 7)) then
     (
      (tree_Node_bare n true false false).bind fun v21 =>
      if v21 then
       (tree_variable n.S).bind fun v23 =>
       if v23 then
        some true
       else
        (tree_named n.S [65, 66, 67, 68, 69, 70, 71, 72, 73, 74, 75, 76, 77, 78, 79, 80, 81, 82, 83, 84, 85, 86, 87, 88, 89, 90]).bind fun v25 =>
        some v25
      else
       some false
     ).bind fun y19 =>
     some y19
    else
     if (decide (n.K = 8)) then
      (
       (tree_Node_bare n true false true).bind fun v28 =>
       if v28 then
        (tree_variable n.S).bind fun v30 =>
        if v30 then
         some (decide ((n.Kids.length : Int) = 1))
        else
         some false
       else
        some false
      ).bind fun y26 =>
      some y26
     else
      if (decide (n.K = 9)) then
       (
        (tree_Node_bare n true false true).bind fun v34 =>
        if v34 then
         (ck ((n.Kids.length : Int) - 1)).bind fun v37 =>
         (tree_sends n.S v37).bind fun v38 =>
         some v38
        else
         some false
       ).bind fun y32 =>
       some y32
      else
       if (decide (n.K = 10)) then
        (
         (tree_Node_bare n false false true).bind fun v41 =>
         if v41 then
          if (decide ((2 : Int) < (n.Kids.length : Int))) then
           some (decide ((n.Kids.length : Int) ≤ 17))
          else
           some false
         else
          some false
        ).bind fun y39 =>
        some y39
       else
        if (decide (n.K = 11)) then
         (
          (tree_Node_bare n true false true).bind fun v46 =>
          if v46 then
           (tree_sends n.S (n.Kids.length : Int)).bind fun v48 =>
           some v48
          else
           some false
         ).bind fun y44 =>
         some y44
        else
         if (decide (n.K = 12)) then
          (
           (tree_Node_bare n false true true).bind fun v51 =>
           if v51 then
            if (decide ((0 : Int) ≤ n.N)) then
             if (decide (n.N ≤ 8)) then
              if (decide (n.N ≤ (n.L.length : Int))) then
               if (decide ((n.L.length : Int) ≤ 16)) then
                (tree_unlike n.L).bind fun v57 =>
                some v57
               else
                some false
              else
               some false
             else
              some false
            else
             some false
           else
            some false
          ).bind fun y49 =>
          some y49
         else
          if (decide (n.K = 13)) then
           (
            (tree_Node_bare n false false true).bind fun v60 =>
            if v60 then
             some (decide ((n.Kids.length : Int) = 1))
            else
             some false
           ).bind fun y58 =>
           some y58
          else
           some false
def tree_stands (k : Int) (super : Bool) (msg : Bool) (up : Bool) : Option Bool :=
 if (decide (k = 1)) then
  some super
 else
  if (decide (k = 11)) then
   some msg
  else
   if (decide (k = 13)) then
    some up
   else
    some (!msg)
def tree_Node_places (n : tree_Node) (i : Int) : Option (Bool × Bool × Bool) :=
 if (decide (n.K = 9)) then
  some ((decide (i = 0)), false, false)
 else
  if (decide (n.K = 10)) then
   some ((decide (i = 0)), (decide ((0 : Int) < i)), false)
  else
   if (decide (n.K = 12)) then
    (ck ((n.Kids.length : Int) - 1)).bind fun v2 =>
    some (false, false, (decide (i = v2)))
   else
    some (false, false, false)
structure R_tree_walk_come where
 tree_walk_come : tree_walk → Int → Int → Bool → Bool → Bool → Option (Bool × tree_walk)
def tree_walk_come_l1 (i : Int) (above : Int) (rec : R_tree_walk_come) (v16 : tree_Node) (K18 : (tree_walk → Option (Bool × tree_walk))) : Nat → Int → tree_walk → Option (Bool × tree_walk)
 | 0, _, _ => none
 | q1+1, v32, v33 =>
  if (decide (v32 < (v16.Kids.length : Int))) then
   (lAt v16.Kids v32).bind fun v36 =>
   (tree_Node_places v16 v32).bind fun v37 =>
   (
    if (decide (i ≤ v36)) then
     some (true, v33)
    else
     (ck (above + 1)).bind fun v42 =>
     (rec.tree_walk_come v33 v36 v42 v37.1 v37.2.1 v37.2.2).bind fun v43 =>
     some ((!v43.1), v43.2)
   ).bind fun y38 =>
   if y38.1 then
    some (false, y38.2)
   else
    (ck (v32 + 1)).bind fun v45 =>
    tree_walk_come_l1 i above rec v16 K18 q1 v45 y38.2
  else
   K18 v33
def tree_walk_come_b (rec : R_tree_walk_come) (p0_w : tree_walk) (i : Int) (above : Int) (super : Bool) (msg : Bool) (up : Bool) : Option (Bool × tree_walk) :=
 (
  if (decide (i < p0_w.next)) then
   some true
  else
   if (decide ((p0_w.l.length : Int) ≤ i)) then
    some true
   else
    if (decide ((64 : Int) ≤ above)) then
     some true
    else
     (lAt p0_w.l i).bind fun v8 =>
     (tree_Node_may v8).bind fun v9 =>
     if (!v9) then
      some true
     else
      (tree_stands v8.K super msg up).bind fun v13 =>
      some (!v13)
 ).bind fun y1 =>
 if y1 then
  some (false, p0_w)
 else
  (lAt p0_w.l i).bind fun v16 =>
  letK (fun (v46 : tree_walk) =>
   (ck (v46.next + 1)).bind fun v48 =>
   (ck (v48 - 1)).bind fun v50 =>
   some ((decide (i = v50)), (tree_walk.mk v46.l v48))
  ) fun (K18 : (tree_walk → Option (Bool × tree_walk))) =>
  tree_walk_come_l1 i above rec v16 K18 fuel 0 p0_w
def R_tree_walk_come_n : Nat → R_tree_walk_come
 | 0 => ⟨fun _ _ _ _ _ _ => none⟩
 | n+1 => ⟨tree_walk_come_b (R_tree_walk_come_n n)⟩
def tree_walk_come (p0_w : tree_walk) (i : Int) (above : Int) (super : Bool) (msg : Bool) (up : Bool) : Option (Bool × tree_walk) := (R_tree_walk_come_n fuel).tree_walk_come p0_w i above super msg up
def tree_Check_l1 (m : tree_Method) (K11 : (tree_walk → Option (Option Int))) : Nat → Int → tree_walk → Option (Option Int)
 | 0, _, _ => none
 | q1+1, v21, v22 =>
  if (decide (v21 < (m.Body.length : Int))) then
   (lAt m.Body v21).bind fun v25 =>
   (ck ((m.Body.length : Int) - 1)).bind fun v27 =>
   (tree_walk_come v22 v25 0 false false (decide (v21 = v27))).bind fun v28 =>
   if (!v28.1) then
    some (some 1)
   else
    (ck (v21 + 1)).bind fun v30 =>
    tree_Check_l1 m K11 q1 v30 v28.2
  else
   K11 v22
def tree_Check (m : tree_Method) : Option (Option Int) :=
 (slices_Concat_Lstring_string ([m.Args, m.Temps] : List (List Str))).bind fun v1 =>
 (
  (tree_sends m.Sel (m.Args.length : Int)).bind fun v4 =>
  if (!v4) then
   some true
  else
   if (decide ((16 : Int) < (v1.length : Int))) then
    some true
   else
    (tree_unlike v1).bind fun v7 =>
    if (!v7) then
     some true
    else
     if (decide ((500 : Int) < (m.Nodes.length : Int))) then
      some true
     else
      some (decide ((500 : Int) < (m.Body.length : Int)))
 ).bind fun y2 =>
 if y2 then
  some (some 1)
 else
  letK (fun (v31 : tree_walk) =>
   if (!decide (v31.next = (m.Nodes.length : Int))) then
    some (some 1)
   else
    some none
  ) fun (K11 : (tree_walk → Option (Option Int))) =>
  tree_Check_l1 m K11 fuel 0 (tree_walk.mk m.Nodes 0)
def slices_Equal_Lstring_string_l1 (s1 : (List Str)) (s2 : (List Str)) (K2 : (Unit → Option Bool)) : Nat → Int → Option Bool
 | 0, _ => none
 | q1+1, v3 =>
  if (decide (v3 < (s1.length : Int))) then
   (lAt s1 v3).bind fun v6 =>
   (lAt s2 v3).bind fun v9 =>
   if (!(v6 == v9)) then
    some false
   else
    (ck (v3 + 1)).bind fun v11 =>
    slices_Equal_Lstring_string_l1 s1 s2 K2 q1 v11
  else
   K2 ()
def slices_Equal_Lstring_string (s1 : (List Str)) (s2 : (List Str)) : Option Bool :=
 if (!decide ((s1.length : Int) = (s2.length : Int))) then
  some false
 else
  letK (fun (_ : Unit) =>
   some true
  ) fun (K2 : (Unit → Option Bool)) =>
  slices_Equal_Lstring_string_l1 s1 s2 K2 fuel 0
def slices_EqualFunc_Ltree_Node_Ltree_Node_tree_Node_tree_Node_l1 (s1 : (List tree_Node)) (s2 : (List tree_Node)) (eq : (tree_Node → tree_Node → Option Bool)) (K2 : (Unit → Option Bool)) : Nat → Int → Option Bool
 | 0, _ => none
 | q1+1, v3 =>
  if (decide (v3 < (s1.length : Int))) then
   (lAt s1 v3).bind fun v6 =>
   (lAt s2 v3).bind fun v9 =>
   (eq v6 v9).bind fun v10 =>
   if (!v10) then
    some false
   else
    (ck (v3 + 1)).bind fun v12 =>
    slices_EqualFunc_Ltree_Node_Ltree_Node_tree_Node_tree_Node_l1 s1 s2 eq K2 q1 v12
  else
   K2 ()
def slices_EqualFunc_Ltree_Node_Ltree_Node_tree_Node_tree_Node (s1 : (List tree_Node)) (s2 : (List tree_Node)) (eq : (tree_Node → tree_Node → Option Bool)) : Option Bool :=
 if (!decide ((s1.length : Int) = (s2.length : Int))) then
  some false
 else
  letK (fun (_ : Unit) =>
   some true
  ) fun (K2 : (Unit → Option Bool)) =>
  slices_EqualFunc_Ltree_Node_Ltree_Node_tree_Node_tree_Node_l1 s1 s2 eq K2 fuel 0
def slices_Equal_Lint_int_l1 (s1 : (List Int)) (s2 : (List Int)) (K2 : (Unit → Option Bool)) : Nat → Int → Option Bool
 | 0, _ => none
 | q1+1, v3 =>
  if (decide (v3 < (s1.length : Int))) then
   (lAt s1 v3).bind fun v6 =>
   (lAt s2 v3).bind fun v9 =>
   if (!decide (v6 = v9)) then
    some false
   else
    (ck (v3 + 1)).bind fun v11 =>
    slices_Equal_Lint_int_l1 s1 s2 K2 q1 v11
  else
   K2 ()
def slices_Equal_Lint_int (s1 : (List Int)) (s2 : (List Int)) : Option Bool :=
 if (!decide ((s1.length : Int) = (s2.length : Int))) then
  some false
 else
  letK (fun (_ : Unit) =>
   some true
  ) fun (K2 : (Unit → Option Bool)) =>
  slices_Equal_Lint_int_l1 s1 s2 K2 fuel 0
def tree_Node_same (n : tree_Node) (o : tree_Node) : Option Bool :=
 (
  if (decide (n.K = o.K)) then
   if (n.S == o.S) then
    if (decide (n.N = o.N)) then
     (slices_Equal_Lstring_string n.L o.L).bind fun v6 =>
     if v6 then
      (slices_Equal_Lint_int n.Kids o.Kids).bind fun v8 =>
      some v8
     else
      some false
    else
     some false
   else
    some false
  else
   some false
 ).bind fun y1 =>
 some y1
def tree_Same (a : tree_Method) (p1_b : tree_Method) : Option Bool :=
 (
  if (a.Sel == p1_b.Sel) then
   (slices_Equal_Lstring_string a.Args p1_b.Args).bind fun v4 =>
   if v4 then
    (slices_Equal_Lstring_string a.Temps p1_b.Temps).bind fun v6 =>
    if v6 then
     (slices_EqualFunc_Ltree_Node_Ltree_Node_tree_Node_tree_Node a.Nodes p1_b.Nodes tree_Node_same).bind fun v8 =>
     if v8 then
      (slices_Equal_Lint_int a.Body p1_b.Body).bind fun v10 =>
      some v10
     else
      some false
    else
     some false
   else
    some false
  else
   some false
 ).bind fun y1 =>
 some y1
def law14_texts_l1 (a : (List Str)) (p1_b : (List Str)) (K2 : (Unit → Option Bool)) : Nat → Int → Option Bool
 | 0, _ => none
 | q1+1, v3 =>
  if (decide (v3 < (a.length : Int))) then
   (lAt a v3).bind fun v6 =>
   (lAt p1_b v3).bind fun v9 =>
   if (!(v6 == v9)) then
    some false
   else
    (ck (v3 + 1)).bind fun v11 =>
    law14_texts_l1 a p1_b K2 q1 v11
  else
   K2 ()
def law14_texts (a : (List Str)) (p1_b : (List Str)) : Option Bool :=
 if (!decide ((a.length : Int) = (p1_b.length : Int))) then
  some false
 else
  letK (fun (_ : Unit) =>
   some true
  ) fun (K2 : (Unit → Option Bool)) =>
  law14_texts_l1 a p1_b K2 fuel 0
structure R_tree_Method_free where
 tree_Method_free : tree_Method → Int → (List Str) → Option (List Str)
def tree_Method_free_l1 (m : tree_Method) (rec : R_tree_Method_free) (v3 : tree_Node) (y4 : (List Str)) : Nat → (List Str) → Int → Option (List Str)
 | 0, _, _ => none
 | q1+1, v20, v21 =>
  if (decide (v21 < (v3.Kids.length : Int))) then
   (lAt v3.Kids v21).bind fun v24 =>
   (rec.tree_Method_free m v24 y4).bind fun v25 =>
   (app 16 v20 v25).bind fun v28 =>
   (ck (v21 + 1)).bind fun v30 =>
   tree_Method_free_l1 m rec v3 y4 q1 v28 v30
  else
   some v20
def tree_Method_free_b (rec : R_tree_Method_free) (m : tree_Method) (i : Int) (own : (List Str)) : Option (List Str) :=
 (lAt m.Nodes i).bind fun v3 =>
 (
  if (decide (v3.K = 12)) then
   (slices_Concat_Lstring_string ([own, v3.L] : List (List Str))).bind fun v6 =>
   some v6
  else
   some own
 ).bind fun y4 =>
 (
  if (decide (v3.K = 7)) then
   (slices_Contains_Lstring_string y4 v3.S).bind fun v12 =>
   some (!v12)
  else
   if (decide (v3.K = 8)) then
    (slices_Contains_Lstring_string y4 v3.S).bind fun v11 =>
    some (!v11)
   else
    some false
 ).bind fun y7 =>
 (
  if y7 then
   (app 16 ([] : List Str) ([v3.S] : List Str)).bind fun v17 =>
   some v17
  else
   some []
 ).bind fun y13 =>
 (
  tree_Method_free_l1 m rec v3 y4 fuel y13 0
 ).bind fun y18 =>
 some y18
def R_tree_Method_free_n : Nat → R_tree_Method_free
 | 0 => ⟨fun _ _ _ => none⟩
 | n+1 => ⟨tree_Method_free_b (R_tree_Method_free_n n)⟩
def tree_Method_free (m : tree_Method) (i : Int) (own : (List Str)) : Option (List Str) := (R_tree_Method_free_n fuel).tree_Method_free m i own
def tree_Free_l1 (m : tree_Method) : Nat → Int → (List Str) → Option (List Str)
 | 0, _, _ => none
 | q1+1, v16, v17 =>
  if (decide (v16 < (m.Body.length : Int))) then
   (lAt m.Body v16).bind fun v20 =>
   (slices_Concat_Lstring_string ([m.Args, m.Temps] : List (List Str))).bind fun v21 =>
   (tree_Method_free m v20 v21).bind fun v22 =>
   (app 16 v17 v22).bind fun v26 =>
   (ck (v16 + 1)).bind fun v28 =>
   tree_Free_l1 m q1 v28 v26
  else
   some v17
def tree_Free (m : tree_Method) : Option (List Str) :=
 (tree_Check m).bind fun v1 =>
 if v1.isSome then
  some []
 else
  (
   tree_Free_l1 m fuel 0 []
  ).bind fun y2 =>
  (tree_sorted y2).bind fun v29 =>
  some v29
def tree_Sent_l1 (m : tree_Method) : Nat → Int → (List Str) → Option (List Str)
 | 0, _, _ => none
 | q1+1, v18, v19 =>
  if (decide (v18 < (m.Nodes.length : Int))) then
   (lAt m.Nodes v18).bind fun v22 =>
   (
    if ((decide (v22.K = 9)) || (decide (v22.K = 11))) then
     (app 16 v19 ([v22.S] : List Str)).bind fun v29 =>
     some v29
    else
     some v19
   ).bind fun y24 =>
   (ck (v18 + 1)).bind fun v31 =>
   tree_Sent_l1 m q1 v31 y24
  else
   some v19
def tree_Sent (m : tree_Method) : Option (List Str) :=
 (tree_Check m).bind fun v1 =>
 if v1.isSome then
  some []
 else
  (
   tree_Sent_l1 m fuel 0 []
  ).bind fun y2 =>
  (tree_sorted y2).bind fun v33 =>
  some v33
def slices_IndexFunc_Ltree_Class_tree_Class_l1 (s : (List tree_Class)) (p1_f : (tree_Class → Option Bool)) (K2 : (Unit → Option Int)) : Nat → Int → Option Int
 | 0, _ => none
 | q1+1, v3 =>
  if (decide (v3 < (s.length : Int))) then
   (lAt s v3).bind fun v6 =>
   (p1_f v6).bind fun v7 =>
   if v7 then
    some v3
   else
    (ck (v3 + 1)).bind fun v9 =>
    slices_IndexFunc_Ltree_Class_tree_Class_l1 s p1_f K2 q1 v9
  else
   K2 ()
def slices_IndexFunc_Ltree_Class_tree_Class (s : (List tree_Class)) (p1_f : (tree_Class → Option Bool)) : Option Int :=
 letK (fun (_ : Unit) =>
  some (-1)
 ) fun (K2 : (Unit → Option Int)) =>
 slices_IndexFunc_Ltree_Class_tree_Class_l1 s p1_f K2 fuel 0
def slices_ContainsFunc_Ltree_Class_tree_Class (s : (List tree_Class)) (p1_f : (tree_Class → Option Bool)) : Option Bool :=
 (slices_IndexFunc_Ltree_Class_tree_Class s p1_f).bind fun v1 =>
 some (decide ((0 : Int) ≤ v1))
def tree_Class_may_1 (s : Str) : Option Bool :=
 (tree_variable s).bind fun v1 =>
 some (!v1)
def slices_IndexFunc_Ltree_Method_tree_Method_l1 (s : (List tree_Method)) (p1_f : (tree_Method → Option Bool)) (K2 : (Unit → Option Int)) : Nat → Int → Option Int
 | 0, _ => none
 | q1+1, v3 =>
  if (decide (v3 < (s.length : Int))) then
   (lAt s v3).bind fun v6 =>
   (p1_f v6).bind fun v7 =>
   if v7 then
    some v3
   else
    (ck (v3 + 1)).bind fun v9 =>
    slices_IndexFunc_Ltree_Method_tree_Method_l1 s p1_f K2 q1 v9
  else
   K2 ()
def slices_IndexFunc_Ltree_Method_tree_Method (s : (List tree_Method)) (p1_f : (tree_Method → Option Bool)) : Option Int :=
 letK (fun (_ : Unit) =>
  some (-1)
 ) fun (K2 : (Unit → Option Int)) =>
 slices_IndexFunc_Ltree_Method_tree_Method_l1 s p1_f K2 fuel 0
def slices_ContainsFunc_Ltree_Method_tree_Method (s : (List tree_Method)) (p1_f : (tree_Method → Option Bool)) : Option Bool :=
 (slices_IndexFunc_Ltree_Method_tree_Method s p1_f).bind fun v1 =>
 some (decide ((0 : Int) ≤ v1))
def tree_Class_may_2 (m : tree_Method) : Option Bool :=
 (tree_Check m).bind fun v1 =>
 some v1.isSome
def tree_Class_may (c : tree_Class) : Option Bool :=
 (
  (tree_named c.Name [65, 66, 67, 68, 69, 70, 71, 72, 73, 74, 75, 76, 77, 78, 79, 80, 81, 82, 83, 84, 85, 86, 87, 88, 89, 90]).bind fun v3 =>
  if (!v3) then
   some true
  else
   (tree_named c.Super [65, 66, 67, 68, 69, 70, 71, 72, 73, 74, 75, 76, 77, 78, 79, 80, 81, 82, 83, 84, 85, 86, 87, 88, 89, 90]).bind fun v5 =>
   if (!v5) then
    some true
   else
    if (decide ((16 : Int) < (c.Vars.length : Int))) then
     some true
    else
     some (decide ((256 : Int) < (c.Methods.length : Int)))
 ).bind fun y1 =>
 if y1 then
  some false
 else
  (
   (slices_ContainsFunc_Lstring_string c.Vars tree_Class_may_1).bind fun v10 =>
   if (!v10) then
    (slices_ContainsFunc_Ltree_Method_tree_Method c.Methods tree_Class_may_2).bind fun v12 =>
    some (!v12)
   else
    some false
  ).bind fun y8 =>
  some y8
def tree_CheckAll_1 (c : tree_Class) : Option Bool :=
 (tree_Class_may c).bind fun v1 =>
 some (!v1)
def tree_CheckAll (l : (List tree_Class)) : Option (Option Int) :=
 (
  if (decide ((64 : Int) < (l.length : Int))) then
   some true
  else
   (slices_ContainsFunc_Ltree_Class_tree_Class l tree_CheckAll_1).bind fun v4 =>
   some v4
 ).bind fun y1 =>
 if y1 then
  some (some 1)
 else
  some none
def law14_sure  : Option Bool :=
 (
  (tree_Check (tree_Method.mk [97, 116, 58] ([[105]] : List Str) ([[116]] : List Str) ([(tree_Node.mk 7 [120] 0 [] []), (tree_Node.mk 7 [121] 0 [] []), (tree_Node.mk 9 [102, 111, 111] 0 [] ([1] : List Int)), (tree_Node.mk 12 [] 1 ([[121]] : List Str) ([2] : List Int)), (tree_Node.mk 9 [100, 111, 58] 0 [] ([0, 3] : List Int)), (tree_Node.mk 13 [] 0 [] ([4] : List Int))] : List tree_Node) ([5] : List Int))).bind fun v3 =>
  if v3.isNone then
   (tree_Check (tree_Method.mk [97, 116, 58] ([[105]] : List Str) ([[116]] : List Str) ([(tree_Node.mk 7 [120] 0 [] []), (tree_Node.mk 7 [121] 0 [] []), (tree_Node.mk 9 [102, 111, 111] 0 [] ([1] : List Int)), (tree_Node.mk 12 [] 1 ([[121]] : List Str) ([2] : List Int)), (tree_Node.mk 9 [100, 111, 58] 0 [] ([0, 3] : List Int)), (tree_Node.mk 13 [] 0 [] ([4] : List Int))] : List tree_Node) ([4] : List Int))).bind fun v5 =>
   (law_num v5).bind fun v6 =>
   if (decide (v6 = 1)) then
    (tree_Same (tree_Method.mk [97, 116, 58] ([[105]] : List Str) ([[116]] : List Str) ([(tree_Node.mk 7 [120] 0 [] []), (tree_Node.mk 7 [121] 0 [] []), (tree_Node.mk 9 [102, 111, 111] 0 [] ([1] : List Int)), (tree_Node.mk 12 [] 1 ([[121]] : List Str) ([2] : List Int)), (tree_Node.mk 9 [100, 111, 58] 0 [] ([0, 3] : List Int)), (tree_Node.mk 13 [] 0 [] ([4] : List Int))] : List tree_Node) ([5] : List Int)) (tree_Method.mk [97, 116, 58] ([[105]] : List Str) ([[116]] : List Str) ([(tree_Node.mk 7 [120] 0 [] []), (tree_Node.mk 7 [121] 0 [] []), (tree_Node.mk 9 [102, 111, 111] 0 [] ([1] : List Int)), (tree_Node.mk 12 [] 1 ([[121]] : List Str) ([2] : List Int)), (tree_Node.mk 9 [100, 111, 58] 0 [] ([0, 3] : List Int)), (tree_Node.mk 13 [] 0 [] ([4] : List Int))] : List tree_Node) ([5] : List Int))).bind fun v8 =>
    if v8 then
     (tree_Same (tree_Method.mk [97, 116, 58] ([[105]] : List Str) ([[116]] : List Str) ([(tree_Node.mk 7 [120] 0 [] []), (tree_Node.mk 7 [121] 0 [] []), (tree_Node.mk 9 [102, 111, 111] 0 [] ([1] : List Int)), (tree_Node.mk 12 [] 1 ([[121]] : List Str) ([2] : List Int)), (tree_Node.mk 9 [100, 111, 58] 0 [] ([0, 3] : List Int)), (tree_Node.mk 13 [] 0 [] ([4] : List Int))] : List tree_Node) ([5] : List Int)) (tree_Method.mk [97, 116, 58] ([[105]] : List Str) ([[116]] : List Str) ([(tree_Node.mk 7 [120] 0 [] []), (tree_Node.mk 7 [121] 0 [] []), (tree_Node.mk 9 [102, 111, 111] 0 [] ([1] : List Int)), (tree_Node.mk 12 [] 1 ([[121]] : List Str) ([2] : List Int)), (tree_Node.mk 9 [100, 111, 58] 0 [] ([0, 3] : List Int)), (tree_Node.mk 13 [] 0 [] ([4] : List Int))] : List tree_Node) ([4] : List Int))).bind fun v10 =>
     if (!v10) then
      (tree_Free (tree_Method.mk [97, 116, 58] ([[105]] : List Str) ([[116]] : List Str) ([(tree_Node.mk 7 [120] 0 [] []), (tree_Node.mk 7 [121] 0 [] []), (tree_Node.mk 9 [102, 111, 111] 0 [] ([1] : List Int)), (tree_Node.mk 12 [] 1 ([[121]] : List Str) ([2] : List Int)), (tree_Node.mk 9 [100, 111, 58] 0 [] ([0, 3] : List Int)), (tree_Node.mk 13 [] 0 [] ([4] : List Int))] : List tree_Node) ([5] : List Int))).bind fun v12 =>
      (law14_texts v12 ([[120]] : List Str)).bind fun v13 =>
      if v13 then
       (tree_Sent (tree_Method.mk [97, 116, 58] ([[105]] : List Str) ([[116]] : List Str) ([(tree_Node.mk 7 [120] 0 [] []), (tree_Node.mk 7 [121] 0 [] []), (tree_Node.mk 9 [102, 111, 111] 0 [] ([1] : List Int)), (tree_Node.mk 12 [] 1 ([[121]] : List Str) ([2] : List Int)), (tree_Node.mk 9 [100, 111, 58] 0 [] ([0, 3] : List Int)), (tree_Node.mk 13 [] 0 [] ([4] : List Int))] : List tree_Node) ([5] : List Int))).bind fun v15 =>
       (law14_texts v15 ([[100, 111, 58], [102, 111, 111]] : List Str)).bind fun v16 =>
       if v16 then
        (tree_CheckAll ([(tree_Class.mk [65] [79, 98, 106, 101, 99, 116] [] ([(tree_Method.mk [97, 116, 58] ([[105]] : List Str) ([[116]] : List Str) ([(tree_Node.mk 7 [120] 0 [] []), (tree_Node.mk 7 [121] 0 [] []), (tree_Node.mk 9 [102, 111, 111] 0 [] ([1] : List Int)), (tree_Node.mk 12 [] 1 ([[121]] : List Str) ([2] : List Int)), (tree_Node.mk 9 [100, 111, 58] 0 [] ([0, 3] : List Int)), (tree_Node.mk 13 [] 0 [] ([4] : List Int))] : List tree_Node) ([5] : List Int))] : List tree_Method))] : List tree_Class)).bind fun v18 =>
        if v18.isNone then
         (tree_CheckAll ([(tree_Class.mk [97] [79, 98, 106, 101, 99, 116] [] [])] : List tree_Class)).bind fun v20 =>
         (law_num v20).bind fun v21 =>
         some (decide (v21 = 1))
        else
         some false
       else
        some false
      else
       some false
     else
      some false
    else
     some false
   else
    some false
  else
   some false
 ).bind fun y1 =>
 some y1
def law14_giveMethod_l1 (m : ref14_Method) : Nat → Int → (List tree_Node) → Option (List tree_Node)
 | 0, _, _ => none
 | q1+1, v27, v28 =>
  if (decide (v27 < (m.Nodes.length : Int))) then
   (lAt m.Nodes v27).bind fun v31 =>
   (app 16 ([] : List Str) v31.L).bind fun v34 =>
   (app 8 ([] : List Int) v31.Kids).bind fun v37 =>
   (app 80 v28 ([(tree_Node.mk v31.K v31.S v31.N v34 v37)] : List tree_Node)).bind fun v40 =>
   (ck (v27 + 1)).bind fun v42 =>
   law14_giveMethod_l1 m q1 v42 v40
  else
   some v28
def law14_giveMethod (m : ref14_Method) : Option tree_Method :=
 (app 16 ([] : List Str) m.Args).bind fun v3 =>
 (app 16 ([] : List Str) m.Temps).bind fun v6 =>
 (app 8 ([] : List Int) m.Body).bind fun v9 =>
 (
  law14_giveMethod_l1 m fuel 0 []
 ).bind fun y10 =>
 some (tree_Method.mk m.Sel v3 v6 y10 v9)
def ref09_sign_l1 (c : Int) (K2 : (Unit → Option Bool)) : Nat → Int → Option Bool
 | 0, _ => none
 | q1+1, v3 =>
  if (decide (v3 < 10)) then
   (sIdx [43, 45, 42, 47, 92, 60, 62, 61, 126, 44] v3).bind fun v6 =>
   if (decide (v6 = c)) then
    some true
   else
    (ck (v3 + 1)).bind fun v8 =>
    ref09_sign_l1 c K2 q1 v8
  else
   K2 ()
def ref09_sign (c : Int) : Option Bool :=
 letK (fun (_ : Unit) =>
  some false
 ) fun (K2 : (Unit → Option Bool)) =>
 ref09_sign_l1 c K2 fuel 0
def ref09_small (c : Int) : Option Bool :=
 some ((decide ((97 : Int) ≤ c)) && (decide (c ≤ 122)))
def ref09_Arity_l1 (s : Str) (K15 : (Int → Bool → Option (Int × Bool))) : Nat → Int → Bool → Int → Option (Int × Bool)
 | 0, _, _, _ => none
 | q1+1, v16, v17, v18 =>
  if (decide (v18 < (s.length : Int))) then
   letK (fun (v35 : Int) (v36 : Bool) =>
    (ck (v18 + 1)).bind fun v38 =>
    ref09_Arity_l1 s K15 q1 v35 v36 v38
   ) fun (K20 : (Int → Bool → Option (Int × Bool))) =>
   (sIdx s v18).bind fun v23 =>
   if v17 then
    (ref09_small v23).bind fun v24 =>
    if (!v24) then
     some (0, false)
    else
     K20 v16 false
   else
    if (decide (v23 = 58)) then
     (ck (v16 + 1)).bind fun v26 =>
     K20 v26 true
    else
     (
      (ref09_small v23).bind fun v29 =>
      if (!v29) then
       if (decide (v23 < 65)) then
        if (decide (v23 < 48)) then
         some true
        else
         some (decide ((57 : Int) < v23))
       else
        if (decide ((90 : Int) < v23)) then
         if (decide (v23 < 48)) then
          some true
         else
          some (decide ((57 : Int) < v23))
        else
         some false
      else
       some false
     ).bind fun y27 =>
     if y27 then
      some (0, false)
     else
      K20 v16 v17
  else
   K15 v16 v17
def ref09_Arity (s : Str) : Option (Int × Bool) :=
 if ((decide ((s.length : Int) < 1)) || (decide ((64 : Int) < (s.length : Int)))) then
  some (0, false)
 else
  (sIdx s 0).bind fun v4 =>
  (ref09_sign v4).bind fun v5 =>
  if v5 then
   (
    if (decide ((s.length : Int) = 1)) then
     some true
    else
     if (decide ((s.length : Int) = 2)) then
      (sIdx s 1).bind fun v12 =>
      (ref09_sign v12).bind fun v13 =>
      some v13
     else
      some false
   ).bind fun y6 =>
   if y6 then
    some (1, true)
   else
    some (0, false)
  else
   letK (fun (v39 : Int) (v40 : Bool) =>
    if (decide (v39 = 0)) then
     some (0, true)
    else
     if ((!v40) || (decide ((8 : Int) < v39))) then
      some (0, false)
     else
      some (v39, true)
   ) fun (K15 : (Int → Bool → Option (Int × Bool))) =>
   ref09_Arity_l1 s K15 fuel 0 true 0
def ref14_takes (sel : Str) (n : Int) : Option Bool :=
 (ref09_Arity sel).bind fun v1 =>
 some (v1.2 && (decide (v1.1 = n)))
def ref10_Name_l1 (s : Str) (K12 : (Unit → Option Bool)) : Nat → Int → Option Bool
 | 0, _ => none
 | q1+1, v13 =>
  if (decide (v13 < (s.length : Int))) then
   (
    (sIdx s v13).bind fun v18 =>
    if (decide (v18 < 97)) then
     if (decide (v18 < 65)) then
      if (decide (v18 < 48)) then
       some true
      else
       some (decide ((57 : Int) < v18))
     else
      if (decide ((90 : Int) < v18)) then
       if (decide (v18 < 48)) then
        some true
       else
        some (decide ((57 : Int) < v18))
      else
       some false
    else
     if (decide ((122 : Int) < v18)) then
      if (decide (v18 < 65)) then
       if (decide (v18 < 48)) then
        some true
       else
        some (decide ((57 : Int) < v18))
      else
       if (decide ((90 : Int) < v18)) then
        if (decide (v18 < 48)) then
         some true
        else
         some (decide ((57 : Int) < v18))
       else
        some false
     else
      some false
   ).bind fun y14 =>
   if y14 then
    some false
   else
    (ck (v13 + 1)).bind fun v56 =>
    ref10_Name_l1 s K12 q1 v56
  else
   K12 ()
def ref10_Name (s : Str) (lo : Int) (hi : Int) : Option Bool :=
 (
  if (decide ((s.length : Int) < 1)) then
   some true
  else
   if (decide ((32 : Int) < (s.length : Int))) then
    some true
   else
    (sIdx s 0).bind fun v7 =>
    if (decide (v7 < lo)) then
     some true
    else
     some (decide (hi < v7))
 ).bind fun y1 =>
 if y1 then
  some false
 else
  letK (fun (_ : Unit) =>
   some true
  ) fun (K12 : (Unit → Option Bool)) =>
  ref10_Name_l1 s K12 fuel 0
def ref10_Var (s : Str) : Option Bool :=
 (
  (ref10_Name s 97 122).bind fun v3 =>
  if v3 then
   if (!(s == [115, 101, 108, 102])) then
    if (!(s == [115, 117, 112, 101, 114])) then
     if (!(s == [110, 105, 108])) then
      if (!(s == [116, 114, 117, 101])) then
       some (!(s == [102, 97, 108, 115, 101]))
      else
       some false
     else
      some false
    else
     some false
   else
    some false
  else
   some false
 ).bind fun y1 =>
 some y1
def ref14_Vars_l2 (l : (List Str)) (v3 : Int) (v6 : Str) (K9 : (Unit → Option Bool)) : Nat → Int → Option Bool
 | 0, _ => none
 | q2+1, v10 =>
  if (decide (v10 < v3)) then
   (lAt l v10).bind fun v13 =>
   if (v13 == v6) then
    some false
   else
    (ck (v10 + 1)).bind fun v17 =>
    ref14_Vars_l2 l v3 v6 K9 q2 v17
  else
   K9 ()
def ref14_Vars_l1 (l : (List Str)) (K2 : (Unit → Option Bool)) : Nat → Int → Option Bool
 | 0, _ => none
 | q1+1, v3 =>
  if (decide (v3 < (l.length : Int))) then
   (lAt l v3).bind fun v6 =>
   (ref10_Var v6).bind fun v7 =>
   if (!v7) then
    some false
   else
    letK (fun (_ : Unit) =>
     (ck (v3 + 1)).bind fun v19 =>
     ref14_Vars_l1 l K2 q1 v19
    ) fun (K9 : (Unit → Option Bool)) =>
    ref14_Vars_l2 l v3 v6 K9 fuel 0
  else
   K2 ()
def ref14_Vars (l : (List Str)) (most : Int) : Option Bool :=
 if (decide (most < (l.length : Int))) then
  some false
 else
  letK (fun (_ : Unit) =>
   some true
  ) fun (K2 : (Unit → Option Bool)) =>
  ref14_Vars_l1 l K2 fuel 0
def ref03_cut_l1  : Nat → (List Int) → Option (List Int)
 | 0, _ => none
 | q1+1, v3 =>
  (
   if (decide ((0 : Int) < (v3.length : Int))) then
    (ck ((v3.length : Int) - 1)).bind fun v8 =>
    (lAt v3 v8).bind fun v11 =>
    some (decide (v11 = 0))
   else
    some false
  ).bind fun y4 =>
  if y4 then
   (ck ((v3.length : Int) - 1)).bind fun v13 =>
   (sub v3 0 v13).bind fun v16 =>
   ref03_cut_l1  q1 v16
  else
   some v3
def ref03_cut (p0_b : (List Int)) : Option (List Int) :=
 (
  ref03_cut_l1  fuel p0_b
 ).bind fun y1 =>
 some y1
def ref03_words_l1 (p0_b : (List Int)) : Nat → Int → (List Int) → Option (List Int)
 | 0, _, _ => none
 | q1+1, v38, v39 =>
  if (decide (v38 < (p0_b.length : Int))) then
   (rem v38 32).bind fun v42 =>
   (
    if (decide (v42 = 0)) then
     (app 4 v39 ([0] : List Int)).bind fun v48 =>
     some v48
    else
     some v39
   ).bind fun y43 =>
   (quo .i64 v38 32).bind fun v51 =>
   (lAt y43 v51).bind fun v60 =>
   (lAt p0_b v38).bind fun v63 =>
   (shl .u32 (IntKind.wrap .u32 v63) (IntKind.wrap .u64 v42)).bind fun v68 =>
   (stAt y43 v51 (IntKind.wrap .u32 (v60 + v68))).bind fun v71 =>
   (ck (v38 + 1)).bind fun v73 =>
   ref03_words_l1 p0_b q1 v73 v71
  else
   some v39
def ref03_words (p0_b : (List Int)) : Option (List Int) :=
 (
  ref03_words_l1 p0_b fuel 0 []
 ).bind fun y1 =>
 some y1
def ref03_made (neg : Bool) (p1_b : (List Int)) : Option (ref03_Num × Int) :=
 (ref03_cut p1_b).bind fun v1 =>
 (ref03_words v1).bind fun v2 =>
 if (decide ((64 : Int) < (v2.length : Int))) then
  some ((ref03_Num.mk false []), 4)
 else
  (
   if neg then
    some (decide ((0 : Int) < (v2.length : Int)))
   else
    some false
  ).bind fun y3 =>
  some ((ref03_Num.mk y3 v2), 0)
def ref03_Parse_l1 (y7 : Str) (K24 : ((List Int) → Option (ref03_Num × Int))) : Nat → (List Int) → Int → Option (ref03_Num × Int)
 | 0, _, _ => none
 | q1+1, v25, v26 =>
  if (decide (v26 < (y7.length : Int))) then
   (
    (sIdx y7 v26).bind fun v31 =>
    if (decide (v31 < 48)) then
     some true
    else
     some (decide ((57 : Int) < v31))
   ).bind fun y27 =>
   if y27 then
    some ((ref03_Num.mk false []), 2)
   else
    (sIdx y7 v26).bind fun v37 =>
    (app 1 v25 ([(IntKind.wrap .u8 (v37 - 48))] : List Int)).bind fun v40 =>
    (ck (v26 + 1)).bind fun v42 =>
    ref03_Parse_l1 y7 K24 q1 v40 v42
  else
   K24 v25
def ref03_Parse_l4 (v78 : (List Int)) : Nat → Int → (List Int) → Int → Option (Int × (List Int))
 | 0, _, _, _ => none
 | q4+1, v82, v83, v84 =>
  if (decide (v84 < (v78.length : Int))) then
   (lAt v78 v84).bind fun v87 =>
   (
    if (decide ((0 : Int) < (v83.length : Int))) then
     some true
    else
     (quo .u8 (IntKind.wrap .u8 ((IntKind.wrap .u8 (10 * v82)) + v87)) 2).bind fun v93 =>
     some (decide ((0 : Int) < v93))
   ).bind fun y88 =>
   (
    if y88 then
     (quo .u8 (IntKind.wrap .u8 ((IntKind.wrap .u8 (10 * v82)) + v87)) 2).bind fun v98 =>
     (app 1 v83 ([v98] : List Int)).bind fun v101 =>
     some v101
    else
     some v83
   ).bind fun y94 =>
   (rem (IntKind.wrap .u8 ((IntKind.wrap .u8 (10 * v82)) + v87)) 2).bind fun v104 =>
   (ck (v84 + 1)).bind fun v106 =>
   ref03_Parse_l4 v78 q4 v104 y94 v106
  else
   some (v82, v83)
def ref03_Parse_l2  : Nat → (List Int) → (List Int) → Option (List Int)
 | 0, _, _ => none
 | q2+1, v78, v79 =>
  if (decide ((0 : Int) < (v78.length : Int))) then
   (
    ref03_Parse_l4 v78 fuel 0 [] 0
   ).bind fun y80 =>
   (app 1 v79 ([y80.1] : List Int)).bind fun v109 =>
   ref03_Parse_l2  q2 y80.2 v109
  else
   some v79
def ref03_Parse (s : Str) : Option (ref03_Num × Int) :=
 (
  if (decide ((0 : Int) < (s.length : Int))) then
   (sIdx s 0).bind fun v6 =>
   some (decide (v6 = 45))
  else
   some false
 ).bind fun y1 =>
 (
  if y1 then
   (sub s 1 (s.length : Int)).bind fun v11 =>
   some v11
  else
   some s
 ).bind fun y7 =>
 (
  if (decide ((y7.length : Int) < 1)) then
   some true
  else
   if (decide ((700 : Int) < (y7.length : Int))) then
    some true
   else
    if (decide ((1 : Int) < (y7.length : Int))) then
     (sIdx y7 0).bind fun v19 =>
     if (decide (v19 = 48)) then
      some true
     else
      if y1 then
       some (y7 == [48])
      else
       some false
    else
     if y1 then
      some (y7 == [48])
     else
      some false
 ).bind fun y12 =>
 if y12 then
  some ((ref03_Num.mk false []), 2)
 else
  letK (fun (v43 : (List Int)) =>
   (
    ref03_Parse_l2  fuel v43 []
   ).bind fun y44 =>
   (ref03_made y1 y44).bind fun v110 =>
   some (v110.1, v110.2)
  ) fun (K24 : ((List Int) → Option (ref03_Num × Int))) =>
  ref03_Parse_l1 y7 K24 fuel [] 0
def ref14_shape (n : ref14_Node) : Option Bool :=
 if (((!decide (n.K = 12)) && ((!decide (n.N = 0)) || (decide ((0 : Int) < (n.L.length : Int))))) || (decide ((13 : Int) < n.K))) then
  some false
 else
  letK (fun (_ : Unit) =>
   if ((decide (n.K < 8)) && (decide ((0 : Int) < (n.Kids.length : Int)))) then
    some false
   else
    if (decide (n.K = 5)) then
     (ref03_Parse n.S).bind fun v6 =>
     some (decide (v6.2 = 0))
    else
     if (decide (n.K = 6)) then
      some (decide ((n.S.length : Int) ≤ 1024))
     else
      if (decide (n.K = 7)) then
       (
        (ref10_Var n.S).bind fun v9 =>
        if v9 then
         some true
        else
         (ref10_Name n.S 65 90).bind fun v11 =>
         some v11
       ).bind fun y7 =>
       some y7
      else
       if (decide (n.K = 8)) then
        (
         if (decide ((n.Kids.length : Int) = 1)) then
          (ref10_Var n.S).bind fun v15 =>
          some v15
         else
          some false
        ).bind fun y12 =>
        some y12
       else
        if (decide (n.K = 9)) then
         (ck ((n.Kids.length : Int) - 1)).bind fun v17 =>
         (ref14_takes n.S v17).bind fun v18 =>
         some v18
        else
         if (decide (n.K = 10)) then
          some ((decide ((3 : Int) ≤ (n.Kids.length : Int))) && (decide ((n.Kids.length : Int) ≤ 17)))
         else
          if (decide (n.K = 11)) then
           (ref14_takes n.S (n.Kids.length : Int)).bind fun v21 =>
           some v21
          else
           if (decide (n.K = 12)) then
            (
             if (decide ((0 : Int) ≤ n.N)) then
              if (decide (n.N ≤ 8)) then
               if (decide (n.N ≤ (n.L.length : Int))) then
                (ref14_Vars n.L 16).bind fun v27 =>
                some v27
               else
                some false
              else
               some false
             else
              some false
            ).bind fun y22 =>
            some y22
           else
            some ((decide (n.K < 8)) || (decide ((n.Kids.length : Int) = 1)))
  ) fun (K4 : (Unit → Option Bool)) =>
  if (((decide (n.K < 5)) || (decide (n.K = 10))) || (decide ((12 : Int) ≤ n.K))) then
   if (!(n.S == [])) then
    some false
   else
    K4 ()
  else
   K4 ()
def ref14_stands (k : Int) (above : Int) (at_ : Int) (of : Int) : Option Bool :=
 if (decide (k = 1)) then
  some (((decide (above = 9)) || (decide (above = 10))) && (decide (at_ = 0)))
 else
  if (decide (k = 13)) then
   (
    if (decide ((12 : Int) ≤ above)) then
     if (!decide (above = 13)) then
      (ck (of - 1)).bind fun v9 =>
      some (decide (at_ = v9))
     else
      some false
    else
     some false
   ).bind fun y4 =>
   some y4
  else
   some ((decide (k = 11)) == ((decide (above = 10)) && (decide ((0 : Int) < at_))))
def ref14_May_l2 (m : ref14_Method) (v16 : (List Int)) (v17 : (List Int)) (v21 : ref14_Node) (K27 : (Int → Option Bool)) : Nat → Int → Int → Option Bool
 | 0, _, _ => none
 | q2+1, v28, v29 =>
  if (decide (v29 < (v21.Kids.length : Int))) then
   (ck ((v16.length : Int) - (v21.Kids.length : Int))).bind fun v31 =>
   (ck (v31 + v29)).bind fun v33 =>
   (lAt v16 v33).bind fun v36 =>
   (
    (lAt v21.Kids v29).bind fun v41 =>
    if (!decide (v41 = v36)) then
     some true
    else
     (lAt m.Nodes v36).bind fun v45 =>
     (ref14_stands v45.K v21.K v29 (v21.Kids.length : Int)).bind fun v46 =>
     some (!v46)
   ).bind fun y37 =>
   if y37 then
    some false
   else
    (lAt v17 v36).bind fun v49 =>
    (ck (v29 + 1)).bind fun v51 =>
    ref14_May_l2 m v16 v17 v21 K27 q2 (max v28 v49) v51
  else
   K27 v28
def ref14_May_l1 (m : ref14_Method) (K15 : ((List Int) → Option Bool)) : Nat → (List Int) → (List Int) → Int → Option Bool
 | 0, _, _, _ => none
 | q1+1, v16, v17, v18 =>
  if (decide (v18 < (m.Nodes.length : Int))) then
   (lAt m.Nodes v18).bind fun v21 =>
   (
    (ref14_shape v21).bind fun v24 =>
    if (!v24) then
     some true
    else
     some (decide ((v16.length : Int) < (v21.Kids.length : Int)))
   ).bind fun y22 =>
   if y22 then
    some false
   else
    letK (fun (v52 : Int) =>
     if (decide ((64 : Int) ≤ v52)) then
      some false
     else
      (ck (v52 + 1)).bind fun v54 =>
      (app 8 v17 ([v54] : List Int)).bind fun v57 =>
      (ck ((v16.length : Int) - (v21.Kids.length : Int))).bind fun v59 =>
      (sub v16 0 v59).bind fun v62 =>
      (app 8 ([] : List Int) v62).bind fun v65 =>
      (app 8 v65 ([v18] : List Int)).bind fun v68 =>
      (ck (v18 + 1)).bind fun v70 =>
      ref14_May_l1 m K15 q1 v68 v57 v70
    ) fun (K27 : (Int → Option Bool)) =>
    ref14_May_l2 m v16 v17 v21 K27 fuel 0 0
  else
   K15 v16
def ref14_May_l3 (m : ref14_Method) (v71 : (List Int)) (K73 : (Unit → Option Bool)) : Nat → Int → Option Bool
 | 0, _ => none
 | q3+1, v74 =>
  if (decide (v74 < (v71.length : Int))) then
   (
    (lAt m.Body v74).bind fun v79 =>
    (lAt v71 v74).bind fun v82 =>
    if (!decide (v79 = v82)) then
     some true
    else
     (lAt m.Nodes v82).bind fun v88 =>
     (ref14_stands v88.K 99 v74 (v71.length : Int)).bind fun v89 =>
     some (!v89)
   ).bind fun y75 =>
   if y75 then
    some false
   else
    (ck (v74 + 1)).bind fun v91 =>
    ref14_May_l3 m v71 K73 q3 v91
  else
   K73 ()
def ref14_May (m : ref14_Method) : Option Bool :=
 (app 16 ([] : List Str) m.Args).bind fun v3 =>
 (app 16 v3 m.Temps).bind fun v6 =>
 (
  (ref14_takes m.Sel (m.Args.length : Int)).bind fun v9 =>
  if (!v9) then
   some true
  else
   (ref14_Vars v6 16).bind fun v11 =>
   if (!v11) then
    some true
   else
    if (decide ((500 : Int) < (m.Nodes.length : Int))) then
     some true
    else
     some (decide ((500 : Int) < (m.Body.length : Int)))
 ).bind fun y7 =>
 if y7 then
  some false
 else
  letK (fun (v71 : (List Int)) =>
   if (!decide ((v71.length : Int) = (m.Body.length : Int))) then
    some false
   else
    letK (fun (_ : Unit) =>
     some true
    ) fun (K73 : (Unit → Option Bool)) =>
    ref14_May_l3 m v71 K73 fuel 0
  ) fun (K15 : ((List Int) → Option Bool)) =>
  ref14_May_l1 m K15 fuel [] [] 0
def ref14_texts_l1 (a : (List Str)) (p1_b : (List Str)) (K2 : (Unit → Option Bool)) : Nat → Int → Option Bool
 | 0, _ => none
 | q1+1, v3 =>
  if (decide (v3 < (a.length : Int))) then
   (lAt a v3).bind fun v6 =>
   (lAt p1_b v3).bind fun v9 =>
   if (!(v6 == v9)) then
    some false
   else
    (ck (v3 + 1)).bind fun v11 =>
    ref14_texts_l1 a p1_b K2 q1 v11
  else
   K2 ()
def ref14_texts (a : (List Str)) (p1_b : (List Str)) : Option Bool :=
 if (!decide ((a.length : Int) = (p1_b.length : Int))) then
  some false
 else
  letK (fun (_ : Unit) =>
   some true
  ) fun (K2 : (Unit → Option Bool)) =>
  ref14_texts_l1 a p1_b K2 fuel 0
def ref14_ints_l1 (a : (List Int)) (p1_b : (List Int)) (K2 : (Unit → Option Bool)) : Nat → Int → Option Bool
 | 0, _ => none
 | q1+1, v3 =>
  if (decide (v3 < (a.length : Int))) then
   (lAt a v3).bind fun v6 =>
   (lAt p1_b v3).bind fun v9 =>
   if (!decide (v6 = v9)) then
    some false
   else
    (ck (v3 + 1)).bind fun v11 =>
    ref14_ints_l1 a p1_b K2 q1 v11
  else
   K2 ()
def ref14_ints (a : (List Int)) (p1_b : (List Int)) : Option Bool :=
 if (!decide ((a.length : Int) = (p1_b.length : Int))) then
  some false
 else
  letK (fun (_ : Unit) =>
   some true
  ) fun (K2 : (Unit → Option Bool)) =>
  ref14_ints_l1 a p1_b K2 fuel 0
def ref14_Same_l1 (a : ref14_Method) (p1_b : ref14_Method) (K11 : (Unit → Option Bool)) : Nat → Int → Option Bool
 | 0, _ => none
 | q1+1, v12 =>
  if (decide (v12 < (a.Nodes.length : Int))) then
   (
    (lAt a.Nodes v12).bind fun v17 =>
    (lAt p1_b.Nodes v12).bind fun v20 =>
    some (v17, v20)
   ).bind fun y13 =>
   (
    if (!decide (y13.1.K = y13.2.K)) then
     some true
    else
     if (!(y13.1.S == y13.2.S)) then
      some true
     else
      if (!decide (y13.1.N = y13.2.N)) then
       some true
      else
       (ref14_texts y13.1.L y13.2.L).bind fun v26 =>
       if (!v26) then
        some true
       else
        (ref14_ints y13.1.Kids y13.2.Kids).bind fun v28 =>
        some (!v28)
   ).bind fun y21 =>
   if y21 then
    some false
   else
    (ck (v12 + 1)).bind fun v30 =>
    ref14_Same_l1 a p1_b K11 q1 v30
  else
   K11 ()
def ref14_Same (a : ref14_Method) (p1_b : ref14_Method) : Option Bool :=
 (
  if (!(a.Sel == p1_b.Sel)) then
   some true
  else
   (ref14_texts a.Args p1_b.Args).bind fun v4 =>
   if (!v4) then
    some true
   else
    (ref14_texts a.Temps p1_b.Temps).bind fun v6 =>
    if (!v6) then
     some true
    else
     (ref14_ints a.Body p1_b.Body).bind fun v8 =>
     if (!v8) then
      some true
     else
      some (!decide ((a.Nodes.length : Int) = (p1_b.Nodes.length : Int)))
 ).bind fun y1 =>
 if y1 then
  some false
 else
  letK (fun (_ : Unit) =>
   some true
  ) fun (K11 : (Unit → Option Bool)) =>
  ref14_Same_l1 a p1_b K11 fuel 0
def ref14_Above_l1 (m : ref14_Method) : Nat → Int → (List Int) → Option (List Int)
 | 0, _, _ => none
 | q1+1, v18, v19 =>
  if (decide (v18 < (m.Nodes.length : Int))) then
   (lAt v19 v18).bind fun v26 =>
   (stAt v19 v18 (-1)).bind fun v29 =>
   (ck (v18 + 1)).bind fun v31 =>
   ref14_Above_l1 m q1 v31 v29
  else
   some v19
def ref14_Above_l4 (m : ref14_Method) (v82 : Int) : Nat → Int → (List Int) → Option (List Int)
 | 0, _, _ => none
 | q4+1, v107, v108 =>
  (lAt m.Nodes v82).bind fun v111 =>
  if (decide (v107 < (v111.Kids.length : Int))) then
   (lAt v111.Kids v107).bind fun v116 =>
   (lAt v108 v116).bind fun v123 =>
   (stAt v108 v116 v82).bind fun v126 =>
   (ck (v107 + 1)).bind fun v128 =>
   ref14_Above_l4 m v82 q4 v128 v126
  else
   some v108
def ref14_Above_l2 (m : ref14_Method) : Nat → Int → (List Int) → Option (List Int)
 | 0, _, _ => none
 | q2+1, v82, v83 =>
  if (decide (v82 < (m.Nodes.length : Int))) then
   (
    ref14_Above_l4 m v82 fuel 0 v83
   ).bind fun y84 =>
   (ck (v82 + 1)).bind fun v130 =>
   ref14_Above_l2 m q2 v130 y84
  else
   some v83
def ref14_Above (m : ref14_Method) : Option (List Int) :=
 (mkL 8 (0 : Int) (m.Nodes.length : Int)).bind fun v2 =>
 (
  ref14_Above_l1 m fuel 0 v2
 ).bind fun y3 =>
 (
  ref14_Above_l2 m fuel 0 y3
 ).bind fun y32 =>
 some y32
def ref14_In_l1 (l : (List Str)) (s : Str) (K2 : (Unit → Option Bool)) : Nat → Int → Option Bool
 | 0, _ => none
 | q1+1, v3 =>
  if (decide (v3 < (l.length : Int))) then
   (lAt l v3).bind fun v6 =>
   if (v6 == s) then
    some true
   else
    (ck (v3 + 1)).bind fun v8 =>
    ref14_In_l1 l s K2 q1 v8
  else
   K2 ()
def ref14_In (l : (List Str)) (s : Str) : Option Bool :=
 letK (fun (_ : Unit) =>
  some false
 ) fun (K2 : (Unit → Option Bool)) =>
 ref14_In_l1 l s K2 fuel 0
def ref14_Insert_l1 (l : (List Str)) (s : Str) : Nat → (List Str) → Bool → Int → Option ((List Str) × Bool)
 | 0, _, _, _ => none
 | q1+1, v4, v5, v6 =>
  if (decide (v6 < (l.length : Int))) then
   (
    if (!v5) then
     (lAt l v6).bind fun v12 =>
     some (Op.bytesLess s v12)
    else
     some false
   ).bind fun y7 =>
   (
    if y7 then
     (app 16 v4 ([s] : List Str)).bind fun v17 =>
     some (v17, true)
    else
     some (v4, v5)
   ).bind fun y13 =>
   (lAt l v6).bind fun v20 =>
   (app 16 y13.1 ([v20] : List Str)).bind fun v23 =>
   (ck (v6 + 1)).bind fun v25 =>
   ref14_Insert_l1 l s q1 v23 y13.2 v25
  else
   some (v4, v5)
def ref14_Insert (l : (List Str)) (s : Str) : Option (List Str) :=
 (ref14_In l s).bind fun v1 =>
 (
  ref14_Insert_l1 l s fuel [] v1 0
 ).bind fun y2 =>
 (
  if (!y2.2) then
   (app 16 y2.1 ([s] : List Str)).bind fun v30 =>
   some v30
  else
   some y2.1
 ).bind fun y26 =>
 some y26
def ref14_Free_l3 (m : ref14_Method) (v2 : (List Int)) (v61 : ref14_Node) : Nat → Bool → Int → Option Bool
 | 0, _, _ => none
 | q3+1, v72, v73 =>
  if (decide ((0 : Int) ≤ v73)) then
   (
    if v72 then
     some true
    else
     (lAt m.Nodes v73).bind fun v79 =>
     (ref14_In v79.L v61.S).bind fun v80 =>
     some v80
   ).bind fun y74 =>
   (lAt v2 v73).bind fun v83 =>
   ref14_Free_l3 m v2 v61 q3 y74 v83
  else
   some v72
def ref14_Free_l1 (m : ref14_Method) (v2 : (List Int)) : Nat → (List Str) → Int → Option (List Str)
 | 0, _, _ => none
 | q1+1, v47, v48 =>
  if (decide (v48 < (m.Nodes.length : Int))) then
   (
    (
     (lAt m.Nodes v48).bind fun v55 =>
     if (!decide (v55.K = 7)) then
      some (!decide (v55.K = 8))
     else
      some false
    ).bind fun y51 =>
    if y51 then
     some v47
    else
     (lAt m.Nodes v48).bind fun v61 =>
     (
      (ref14_In m.Args v61.S).bind fun v64 =>
      if v64 then
       some true
      else
       (ref14_In m.Temps v61.S).bind fun v66 =>
       some v66
     ).bind fun y62 =>
     (lAt v2 v48).bind fun v69 =>
     (
      ref14_Free_l3 m v2 v61 fuel y62 v69
     ).bind fun y70 =>
     (
      if (!y70) then
       (ref14_Insert v47 v61.S).bind fun v86 =>
       some v86
      else
       some v47
     ).bind fun y84 =>
     some y84
   ).bind fun y49 =>
   (ck (v48 + 1)).bind fun v88 =>
   ref14_Free_l1 m v2 q1 y49 v88
  else
   some v47
def ref14_Free (m : ref14_Method) : Option (List Str) :=
 (ref14_May m).bind fun v1 =>
 if (!v1) then
  some []
 else
  (ref14_Above m).bind fun v2 =>
  (
   ref14_Free_l1 m v2 fuel [] 0
  ).bind fun y3 =>
  some y3
def ref14_Sent_l1 (m : ref14_Method) : Nat → (List Str) → Int → Option (List Str)
 | 0, _, _ => none
 | q1+1, v22, v23 =>
  if (decide (v23 < (m.Nodes.length : Int))) then
   (
    (lAt m.Nodes v23).bind fun v28 =>
    if (decide (v28.K = 9)) then
     some true
    else
     some (decide (v28.K = 11))
   ).bind fun y24 =>
   (
    if y24 then
     (lAt m.Nodes v23).bind fun v36 =>
     (ref14_Insert v22 v36.S).bind fun v37 =>
     some v37
    else
     some v22
   ).bind fun y32 =>
   (ck (v23 + 1)).bind fun v39 =>
   ref14_Sent_l1 m q1 y32 v39
  else
   some v22
def ref14_Sent (m : ref14_Method) : Option (List Str) :=
 (ref14_May m).bind fun v1 =>
 if (!v1) then
  some []
 else
  (
   ref14_Sent_l1 m fuel [] 0
  ).bind fun y2 =>
  some y2
def law14_TreeTells (m : ref14_Method) (o : ref14_Method) : Option Bool :=
 (
  (law14_bigTree m).bind fun v3 =>
  if v3 then
   some true
  else
   (law14_bigTree o).bind fun v5 =>
   some v5
 ).bind fun y1 =>
 if y1 then
  (law14_sure).bind fun v6 =>
  some v6
 else
  (
   (law14_giveMethod m).bind fun v9 =>
   (law14_giveMethod o).bind fun v10 =>
   some (v9, v10)
  ).bind fun y7 =>
  (tree_Check y7.1).bind fun v11 =>
  (ref14_May m).bind fun v12 =>
  (
   if (v11.isNone == v12) then
    if v12 then
     (tree_Same y7.1 y7.2).bind fun v31 =>
     (ref14_Same m o).bind fun v32 =>
     if (v31 == v32) then
      (tree_Free y7.1).bind fun v34 =>
      (ref14_Free m).bind fun v35 =>
      (law14_texts v34 v35).bind fun v36 =>
      if v36 then
       (tree_Sent y7.1).bind fun v38 =>
       (ref14_Sent m).bind fun v39 =>
       (law14_texts v38 v39).bind fun v40 =>
       if v40 then
        (law14_sure).bind fun v42 =>
        some v42
       else
        some false
      else
       some false
     else
      some false
    else
     (law_num v11).bind fun v17 =>
     if (decide (v17 = 1)) then
      (tree_Same y7.1 y7.2).bind fun v19 =>
      (ref14_Same m o).bind fun v20 =>
      if (v19 == v20) then
       (tree_Free y7.1).bind fun v22 =>
       (ref14_Free m).bind fun v23 =>
       (law14_texts v22 v23).bind fun v24 =>
       if v24 then
        (tree_Sent y7.1).bind fun v26 =>
        (ref14_Sent m).bind fun v27 =>
        (law14_texts v26 v27).bind fun v28 =>
        if v28 then
         (law14_sure).bind fun v30 =>
         some v30
        else
         some false
       else
        some false
      else
       some false
     else
      some false
   else
    some false
  ).bind fun y13 =>
  some y13
end Go.Cq

