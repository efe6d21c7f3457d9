import Derived.Test.YtmedpledgchipaaGreatDoorHaA
import Derived.Test.YtmedpledgchipaaGreatDoorEx9
set_option linter.unusedSectionVars false
set_option linter.unusedVariables false
set_option linter.unusedSimpArgs false
set_option linter.unnecessarySimpa false
set_option maxRecDepth 100000
set_option maxHeartbeats 4000000
namespace Go.Cq
open Go Go.Av
abbrev Str := List UInt8
structure method_Lit where
 K : Int
 S : Str
deriving Inhabited, DecidableEq
structure large_Num where
 Neg : Bool
 Mag : (List Int)
deriving Inhabited, DecidableEq
structure op_known where
 name : Str
 form : Str
deriving Inhabited, DecidableEq
structure op_Op where
 Code : Int
 A : Int
 B : Int
deriving Inhabited, DecidableEq
structure flow_code where
 l : (List op_Op)
 at_ : (List Int)
deriving Inhabited, DecidableEq
structure method_Part where
 Outer : Int
 Args : Int
 Temps : Int
 Code : (List Int)
deriving Inhabited, DecidableEq
structure method_Method where
 Sel : Str
 Lits : (List method_Lit)
 Parts : (List method_Part)
deriving Inhabited, DecidableEq
structure pack_Writer where
 b : (List Int)
deriving Inhabited, DecidableEq
structure pack_Reader where
 b : (List Int)
 wrong : Bool
deriving Inhabited, DecidableEq
structure ref09_Lit where
 K : Int
 S : Str
deriving Inhabited, DecidableEq
structure ref09_Part where
 Outer : Int
 Args : Int
 Temps : Int
 Code : (List Int)
deriving Inhabited, DecidableEq
structure ref09_Method where
 Sel : Str
 Lits : (List ref09_Lit)
 Parts : (List ref09_Part)
deriving Inhabited, DecidableEq
structure St53 where
 e0 : Int
 e1 : Int
deriving Inhabited, DecidableEq
structure law09_Ask where
 Vars : Int
 Classes : Int
 B : (List Int)
deriving Inhabited, DecidableEq
def law_num (e : Option Int) : Option Int := some (match e with | none => 0 | some n => n)
def strings_Split (s sep : Str) : Option (List Str) := splitS s sep
def strings_Trim (s cs : Str) : Option Str := trimAS s cs
def slices_Clone_byte (l : List Int) : Option (List Int) := some l
def slices_Repeat_int (l : List Int) (n : Int) : Option (List Int) := if l.length = 1 ∧ 0 ≤ n ∧ n * 8 ≤ maxB then some (List.replicate n.toNat (l.getD 0 0)) else none
def slices_IndexFunc_Lbyte_byte_l1 (s : (List Int)) (p1_f : (Int → Option Bool)) (K2 : (Unit → Option Int)) : Nat → Int → Option Int
 | 0, _ => none
 | q1+1, v3 =>
  if (decide (v3 < (s.length : Int))) then
   (lAt s v3).bind fun v6 =>
   (p1_f v6).bind fun v7 =>
   if v7 then
    some v3
   else
    (ck (v3 + 1)).bind fun v9 =>
    slices_IndexFunc_Lbyte_byte_l1 s p1_f K2 q1 v9
  else
   K2 ()
def slices_IndexFunc_Lbyte_byte (s : (List Int)) (p1_f : (Int → Option Bool)) : Option Int :=
 letK (fun (_ : Unit) =>
  some (-1)
 ) fun (K2 : (Unit → Option Int)) =>
 slices_IndexFunc_Lbyte_byte_l1 s p1_f K2 fuel 0
def slices_ContainsFunc_Lbyte_byte (s : (List Int)) (p1_f : (Int → Option Bool)) : Option Bool :=
 (slices_IndexFunc_Lbyte_byte s p1_f).bind fun v1 =>
 some (decide ((0 : Int) ≤ v1))
def method_letter (c : Int) : Option Bool :=
 some ((((decide ((97 : Int) ≤ c)) && (decide (c ≤ 122))) || ((decide ((65 : Int) ≤ c)) && (decide (c ≤ 90)))) || ((decide ((48 : Int) ≤ c)) && (decide (c ≤ 57))))
def method_name_1 (c : Int) : Option Bool :=
 (method_letter c).bind fun v1 =>
 some (!v1)
def method_name (s : Str) : Option Bool :=
 (
  if (s == []) then
   some true
  else
   (sIdx s 0).bind fun v6 =>
   if (decide (v6 < 97)) then
    some true
   else
    some (decide ((122 : Int) < v6))
 ).bind fun y1 =>
 if y1 then
  some false
 else
  (slices_ContainsFunc_Lbyte_byte (toInts s) method_name_1).bind fun v10 =>
  some (!v10)
def internal_stringslite_HasSuffix (s : Str) (suffix : Str) : Option Bool :=
 (
  if (decide ((suffix.length : Int) ≤ (s.length : Int))) then
   (ck ((s.length : Int) - (suffix.length : Int))).bind fun v5 =>
   (sub s v5 (s.length : Int)).bind fun v8 =>
   some (v8 == suffix)
  else
   some false
 ).bind fun y1 =>
 some y1
def strings_HasSuffix (s : Str) (suffix : Str) : Option Bool :=
 (internal_stringslite_HasSuffix s suffix).bind fun v1 =>
 some v1
def internal_stringslite_TrimSuffix (s : Str) (suffix : Str) : Option Str :=
 (internal_stringslite_HasSuffix s suffix).bind fun v1 =>
 if v1 then
  (ck ((s.length : Int) - (suffix.length : Int))).bind fun v3 =>
  (sub s 0 v3).bind fun v6 =>
  some v6
 else
  some s
def strings_TrimSuffix (s : Str) (suffix : Str) : Option Str :=
 (internal_stringslite_TrimSuffix s suffix).bind fun v1 =>
 some v1
def slices_IndexFunc_Lstring_string_l1 (s : (List Str)) (p1_f : (Str → Option Bool)) (K2 : (Unit → Option Int)) : Nat → Int → Option Int
 | 0, _ => none
 | q1+1, v3 =>
  if (decide (v3 < (s.length : Int))) then
   (lAt s v3).bind fun v6 =>
   (p1_f v6).bind fun v7 =>
   if v7 then
    some v3
   else
    (ck (v3 + 1)).bind fun v9 =>
    slices_IndexFunc_Lstring_string_l1 s p1_f K2 q1 v9
  else
   K2 ()
def slices_IndexFunc_Lstring_string (s : (List Str)) (p1_f : (Str → Option Bool)) : Option Int :=
 letK (fun (_ : Unit) =>
  some (-1)
 ) fun (K2 : (Unit → Option Int)) =>
 slices_IndexFunc_Lstring_string_l1 s p1_f K2 fuel 0
def slices_ContainsFunc_Lstring_string (s : (List Str)) (p1_f : (Str → Option Bool)) : Option Bool :=
 (slices_IndexFunc_Lstring_string s p1_f).bind fun v1 =>
 some (decide ((0 : Int) ≤ v1))
def method_Arity_1 (s : Str) : Option Bool :=
 (method_name s).bind fun v1 =>
 some (!v1)
def method_Arity (sel : Str) : Option (Int × Bool) :=
 if ((sel == []) || (decide ((64 : Int) < (sel.length : Int)))) then
  some (0, false)
 else
  (method_name sel).bind fun v2 =>
  if v2 then
   some (0, true)
  else
   (
    (strings_Trim sel [43, 45, 42, 47, 92, 60, 62, 61, 126, 44]).bind fun v5 =>
    if (v5 == []) then
     some (decide ((sel.length : Int) ≤ 2))
    else
     some false
   ).bind fun y3 =>
   if y3 then
    some (1, true)
   else
    (strings_HasSuffix sel [58]).bind fun v7 =>
    if (!v7) then
     some (0, false)
    else
     (strings_TrimSuffix sel [58]).bind fun v8 =>
     (strings_Split v8 [58]).bind fun v9 =>
     (
      if (decide ((8 : Int) < (v9.length : Int))) then
       some true
      else
       (slices_ContainsFunc_Lstring_string v9 method_Arity_1).bind fun v13 =>
       some v13
     ).bind fun y10 =>
     if y10 then
      some (0, false)
     else
      some ((v9.length : Int), true)
def slices_IndexFunc_Lmethod_Lit_method_Lit_l1 (s : (List method_Lit)) (p1_f : (method_Lit → Option Bool)) (K2 : (Unit → Option Int)) : Nat → Int → Option Int
 | 0, _ => none
 | q1+1, v3 =>
  if (decide (v3 < (s.length : Int))) then
   (lAt s v3).bind fun v6 =>
   (p1_f v6).bind fun v7 =>
   if v7 then
    some v3
   else
    (ck (v3 + 1)).bind fun v9 =>
    slices_IndexFunc_Lmethod_Lit_method_Lit_l1 s p1_f K2 q1 v9
  else
   K2 ()
def slices_IndexFunc_Lmethod_Lit_method_Lit (s : (List method_Lit)) (p1_f : (method_Lit → Option Bool)) : Option Int :=
 letK (fun (_ : Unit) =>
  some (-1)
 ) fun (K2 : (Unit → Option Int)) =>
 slices_IndexFunc_Lmethod_Lit_method_Lit_l1 s p1_f K2 fuel 0
def slices_ContainsFunc_Lmethod_Lit_method_Lit (s : (List method_Lit)) (p1_f : (method_Lit → Option Bool)) : Option Bool :=
 (slices_IndexFunc_Lmethod_Lit_method_Lit s p1_f).bind fun v1 =>
 some (decide ((0 : Int) ≤ v1))
def internal_stringslite_HasPrefix (s : Str) (prefix_ : Str) : Option Bool :=
 (
  if (decide ((prefix_.length : Int) ≤ (s.length : Int))) then
   (sub s 0 (prefix_.length : Int)).bind fun v6 =>
   some (v6 == prefix_)
  else
   some false
 ).bind fun y1 =>
 some y1
def internal_stringslite_CutPrefix (s : Str) (prefix_ : Str) : Option (Str × Bool) :=
 (internal_stringslite_HasPrefix s prefix_).bind fun v1 =>
 if (!v1) then
  some (s, false)
 else
  (sub s (prefix_.length : Int) (s.length : Int)).bind fun v4 =>
  some (v4, true)
def strings_CutPrefix (s : Str) (prefix_ : Str) : Option (Str × Bool) :=
 (internal_stringslite_CutPrefix s prefix_).bind fun v1 =>
 some (v1.1, v1.2)
def large_digits (s : Str) : Option (Str × Bool × Bool) :=
 (strings_CutPrefix s [45]).bind fun v1 =>
 (
  if (v1.1 == []) then
   some true
  else
   if (decide ((700 : Int) < (v1.1.length : Int))) then
    some true
   else
    if (decide ((1 : Int) < (v1.1.length : Int))) then
     (sIdx v1.1 0).bind fun v9 =>
     if (decide (v9 = 48)) then
      some true
     else
      if v1.2 then
       if (v1.1 == [48]) then
        some true
       else
        (strings_Trim v1.1 [48, 49, 50, 51, 52, 53, 54, 55, 56, 57]).bind fun v13 =>
        some (!(v13 == []))
      else
       (strings_Trim v1.1 [48, 49, 50, 51, 52, 53, 54, 55, 56, 57]).bind fun v14 =>
       some (!(v14 == []))
    else
     if v1.2 then
      if (v1.1 == [48]) then
       some true
      else
       (strings_Trim v1.1 [48, 49, 50, 51, 52, 53, 54, 55, 56, 57]).bind fun v17 =>
       some (!(v17 == []))
     else
      (strings_Trim v1.1 [48, 49, 50, 51, 52, 53, 54, 55, 56, 57]).bind fun v18 =>
      some (!(v18 == []))
 ).bind fun y2 =>
 if y2 then
  some ([], false, false)
 else
  some (v1.1, v1.2, true)
def large_cut_l1  : Nat → (List Int) → Option (List Int)
 | 0, _ => none
 | q1+1, v3 =>
  (
   if (decide ((0 : Int) < (v3.length : Int))) then
    (ck ((v3.length : Int) - 1)).bind fun v8 =>
    (lAt v3 v8).bind fun v11 =>
    some (decide (v11 = 0))
   else
    some false
  ).bind fun y4 =>
  if y4 then
   (ck ((v3.length : Int) - 1)).bind fun v13 =>
   (sub v3 0 v13).bind fun v16 =>
   large_cut_l1  q1 v16
  else
   some v3
def large_cut (m : (List Int)) : Option (List Int) :=
 (
  large_cut_l1  fuel m
 ).bind fun y1 =>
 some y1
def large_made (neg : Bool) (m : (List Int)) : Option (large_Num × (Option Int)) :=
 (large_cut m).bind fun v1 =>
 if (decide ((64 : Int) < (v1.length : Int))) then
  some ((large_Num.mk false []), (some 4))
 else
  (
   if neg then
    some (decide ((0 : Int) < (v1.length : Int)))
   else
    some false
  ).bind fun y2 =>
  some ((large_Num.mk y2 v1), none)
def large_Parse_l3 (v54 : (List Int)) : Nat → Int → Int → (List Int) → Option (Int × (List Int))
 | 0, _, _, _ => none
 | q3+1, v77, v78, v79 =>
  if (decide (v78 < (v54.length : Int))) then
   (lAt v79 v78).bind fun v86 =>
   (stAt v79 v78 (IntKind.wrap .u32 (IntKind.wrap .u64 (v77 + (IntKind.wrap .u64 ((IntKind.wrap .u64 v86) * 10)))))).bind fun v89 =>
   (shr .u64 (IntKind.wrap .u64 (v77 + (IntKind.wrap .u64 ((IntKind.wrap .u64 v86) * 10)))) 32).bind fun v92 =>
   (ck (v78 + 1)).bind fun v94 =>
   large_Parse_l3 v54 q3 v92 v94 v89
  else
   some (v77, v79)
def large_Parse_l1 (v1 : (Str × Bool × Bool)) : Nat → Int → (List Int) → Option (List Int)
 | 0, _, _ => none
 | q1+1, v53, v54 =>
  if (decide (v53 < ((toInts v1.1).length : Int))) then
   (lAt (toInts v1.1) v53).bind fun v57 =>
   (
    large_Parse_l3 v54 fuel (IntKind.wrap .u64 (IntKind.wrap .u8 (v57 - 48))) 0 v54
   ).bind fun y58 =>
   (
    if (decide ((0 : Int) < y58.1)) then
     (app 4 y58.2 ([(IntKind.wrap .u32 y58.1)] : List Int)).bind fun v100 =>
     some v100
    else
     some y58.2
   ).bind fun y95 =>
   (ck (v53 + 1)).bind fun v102 =>
   large_Parse_l1 v1 q1 v102 y95
  else
   some v54
def large_Parse (s : Str) : Option (large_Num × (Option Int)) :=
 (large_digits s).bind fun v1 =>
 if (!v1.2.2) then
  some ((large_Num.mk false []), (some 2))
 else
  (
   large_Parse_l1 v1 fuel 0 []
  ).bind fun y2 =>
  (large_made v1.2.1 y2).bind fun v103 =>
  some (v103.1, v103.2)
def method_Lit_may (l : method_Lit) : Option Bool :=
 if (decide (l.K = 0)) then
  (large_Parse l.S).bind fun v1 =>
  some v1.2.isNone
 else
  if (decide (l.K = 1)) then
   some (decide ((l.S.length : Int) ≤ 1024))
  else
   if (decide (l.K = 2)) then
    (method_Arity l.S).bind fun v2 =>
    some v2.2
   else
    some false
def method_Check_1 (l : method_Lit) : Option Bool :=
 (method_Lit_may l).bind fun v1 =>
 some (!v1)
def op_of (code : Int) : Option (op_known × Bool) :=
 if code = 0 then
  some ((op_known.mk [115, 101, 108, 102] []), true)
 else
 if code = 1 then
  some ((op_known.mk [110, 105, 108] []), true)
 else
 if code = 2 then
  some ((op_known.mk [116, 114, 117, 101] []), true)
 else
 if code = 3 then
  some ((op_known.mk [102, 97, 108, 115, 101] []), true)
 else
 if code = 4 then
  some ((op_known.mk [108, 105, 116] [49]), true)
 else
 if code = 5 then
  some ((op_known.mk [116, 101, 109, 112] [49, 49]), true)
 else
 if code = 6 then
  some ((op_known.mk [115, 101, 116] [49, 49]), true)
 else
 if code = 7 then
  some ((op_known.mk [118, 97, 114] [49]), true)
 else
 if code = 8 then
  some ((op_known.mk [112, 117, 116] [49]), true)
 else
 if code = 9 then
  some ((op_known.mk [112, 111, 112] []), true)
 else
 if code = 10 then
  some ((op_known.mk [100, 117, 112] []), true)
 else
 if code = 11 then
  some ((op_known.mk [115, 101, 110, 100] [49, 49]), true)
 else
 if code = 12 then
  some ((op_known.mk [115, 117, 112, 101, 114] [49, 49]), true)
 else
 if code = 13 then
  some ((op_known.mk [106, 117, 109, 112] [50]), true)
 else
 if code = 14 then
  some ((op_known.mk [101, 108, 115, 101] [50, 50]), true)
 else
 if code = 15 then
  some ((op_known.mk [106, 111, 105, 110] []), true)
 else
 if code = 16 then
  some ((op_known.mk [98, 108, 111, 99, 107] [49]), true)
 else
 if code = 17 then
  some ((op_known.mk [97, 110, 115, 119, 101, 114] []), true)
 else
 if code = 18 then
  some ((op_known.mk [109, 101] []), true)
 else
 if code = 19 then
  some ((op_known.mk [104, 111, 109, 101] []), true)
 else
 if code = 20 then
  some ((op_known.mk [99, 108, 97, 115, 115] [49]), true)
 else
 (ck code).bind fun v2 =>
 if (decide ((21 : Int) ≤ v2)) then
  some ((op_known.mk [] []), false)
 else
  none
def op_Form (code : Int) : Option (Str × Bool) :=
 (op_of code).bind fun v1 =>
 some (v1.1.form, v1.2)
def op_width (form : Str) (i : Int) : Option Int :=
 if (decide ((form.length : Int) ≤ i)) then
  some 0
 else
  (sIdx form i).bind fun v3 =>
  (ck (IntKind.wrap .u8 (v3 - 48))).bind fun v5 =>
  some v5
def op_Size (code : Int) : Option Int :=
 (op_Form code).bind fun v1 =>
 if (!v1.2) then
  some 0
 else
  (op_width v1.1 0).bind fun v2 =>
  (ck (1 + v2)).bind fun v4 =>
  (op_width v1.1 1).bind fun v5 =>
  (ck (v4 + v5)).bind fun v7 =>
  some v7
def op_number_l1 (p0_b : (List Int)) : Nat → Int → Int → Option Int
 | 0, _, _ => none
 | q1+1, v3, v4 =>
  if (decide (v4 < (p0_b.length : Int))) then
   (lAt p0_b v4).bind fun v7 =>
   (shl .i64 v3 8).bind fun v10 =>
   (ck v7).bind fun v12 =>
   (ck (v4 + 1)).bind fun v14 =>
   op_number_l1 p0_b q1 (bitv .or .i64 v10 v12) v14
  else
   some v3
def op_number (p0_b : (List Int)) : Option Int :=
 (
  op_number_l1 p0_b fuel 0 0
 ).bind fun y1 =>
 some y1
def op_Decode_l1 (p0_b : (List Int)) (K2 : ((List op_Op) → (List Int) → Option ((List op_Op) × (List Int) × (Option Int)))) : Nat → (List op_Op) → (List Int) → Int → Option ((List op_Op) × (List Int) × (Option Int))
 | 0, _, _, _ => none
 | q1+1, v3, v4, v5 =>
  if (decide (v5 < (p0_b.length : Int))) then
   (lAt p0_b v5).bind fun v8 =>
   (op_Size v8).bind fun v9 =>
   (
    if (decide (v9 = 0)) then
     some true
    else
     (ck ((p0_b.length : Int) - v5)).bind fun v14 =>
     some (decide (v14 < v9))
   ).bind fun y10 =>
   if y10 then
    some ([], [], (some 8))
   else
    (op_Form v8).bind fun v17 =>
    (ck (v5 + 1)).bind fun v19 =>
    (op_width v17.1 0).bind fun v20 =>
    (ck (v19 + v20)).bind fun v22 =>
    (sub p0_b v19 v22).bind fun v28 =>
    (op_number v28).bind fun v29 =>
    (ck (v5 + v9)).bind fun v31 =>
    (sub p0_b v22 v31).bind fun v34 =>
    (op_number v34).bind fun v35 =>
    (app 24 v3 ([(op_Op.mk v8 v29 v35)] : List op_Op)).bind fun v38 =>
    (app 8 v4 ([v5] : List Int)).bind fun v41 =>
    op_Decode_l1 p0_b K2 q1 v38 v41 v31
  else
   K2 v3 v4
def op_Decode (p0_b : (List Int)) : Option ((List op_Op) × (List Int) × (Option Int)) :=
 if (decide ((512 : Int) < (p0_b.length : Int))) then
  some ([], [], (some 4))
 else
  letK (fun (v43 : (List op_Op)) (v44 : (List Int)) =>
   some (v43, v44, none)
  ) fun (K2 : ((List op_Op) → (List Int) → Option ((List op_Op) × (List Int) × (Option Int)))) =>
  op_Decode_l1 p0_b K2 fuel [] [] 0
def flow_read (p0_b : (List Int)) : Option (flow_code × (Option Int)) :=
 (op_Decode p0_b).bind fun v1 =>
 some ((flow_code.mk v1.1 v1.2.1), v1.2.2)
def cmp_isNaN_int (p0_x : Int) : Option Bool :=
 some (!decide (p0_x = p0_x))
def cmp_Less_int (p0_x : Int) (p1_y : Int) : Option Bool :=
 (
  (cmp_isNaN_int p0_x).bind fun v3 =>
  if v3 then
   (cmp_isNaN_int p1_y).bind fun v5 =>
   if (!v5) then
    some true
   else
    some (decide (p0_x < p1_y))
  else
   some (decide (p0_x < p1_y))
 ).bind fun y1 =>
 some y1
def slices_isNaN_int (p0_x : Int) : Option Bool :=
 some (!decide (p0_x = p0_x))
def slices_BinarySearch_Lint_int_l1 (p0_x : (List Int)) (target : Int) : Nat → Int → Int → Option Int
 | 0, _, _ => none
 | q1+1, v3, v4 =>
  if (decide (v3 < v4)) then
   (ck (v3 + v4)).bind fun v6 =>
   (shr .u64 (IntKind.wrap .u64 v6) 1).bind fun v9 =>
   (lAt p0_x (IntKind.wrap .i64 v9)).bind fun v12 =>
   (cmp_Less_int v12 target).bind fun v13 =>
   (
    if v13 then
     (ck ((IntKind.wrap .i64 v9) + 1)).bind fun v17 =>
     some (v17, v4)
    else
     some (v3, (IntKind.wrap .i64 v9))
   ).bind fun y14 =>
   slices_BinarySearch_Lint_int_l1 p0_x target q1 y14.1 y14.2
  else
   some v3
def slices_BinarySearch_Lint_int (p0_x : (List Int)) (target : Int) : Option (Int × Bool) :=
 (
  slices_BinarySearch_Lint_int_l1 p0_x target fuel 0 (p0_x.length : Int)
 ).bind fun y1 =>
 (
  if (decide (y1 < (p0_x.length : Int))) then
   (lAt p0_x y1).bind fun v23 =>
   if (decide (v23 = target)) then
    some true
   else
    (slices_isNaN_int v23).bind fun v27 =>
    if v27 then
     (slices_isNaN_int target).bind fun v29 =>
     some v29
    else
     some false
  else
   some false
 ).bind fun y18 =>
 some (y1, y18)
def flow_code_place (c : flow_code) (at_ : Int) : Option (Int × Bool) :=
 (slices_BinarySearch_Lint_int c.at_ at_).bind fun v1 =>
 some (v1.1, v1.2)
def flow_ends (k : Int) : Option Bool :=
 some (((decide (k = 17)) || (decide (k = 18))) || (decide (k = 19)))
def flow_code_next (c : flow_code) (i : Int) : Option ((List Int) × Bool) :=
 (lAt c.l i).bind fun v3 =>
 (flow_ends v3.Code).bind fun v4 =>
 if v4 then
  some ([], true)
 else
  (
   if (!decide (v3.Code = 13)) then
    (ck (i + 1)).bind fun v8 =>
    (app 8 ([] : List Int) ([v8] : List Int)).bind fun v12 =>
    some v12
   else
    some []
  ).bind fun y5 =>
  letK (fun (v21 : (List Int)) =>
   (slices_Sort_int v21).bind fun v22 =>
   (
    (slices_Compact_int v22).bind fun v23 =>
    (ck ((v21.length : Int) - 1)).bind fun v24 =>
    (lAt (zerosI v22) v24).bind fun v25 =>
    (lAt v22 v24).bind fun v26 =>
    if (decide (v25 < (c.l.length : Int)) == decide (v26 < (c.l.length : Int))) then
     some (v23, decide (v25 < (c.l.length : Int)))
    else
     none
   ).bind fun y27 =>
   some (y27.1, y27.2)
  ) fun (K15 : ((List Int) → Option ((List Int) × Bool))) =>
  if ((decide (v3.Code = 13)) || (decide (v3.Code = 14))) then
   (flow_code_place c v3.A).bind fun v16 =>
   if (!v16.2) then
    some ([], false)
   else
    (app 8 y5 ([v16.1] : List Int)).bind fun v20 =>
    K15 v20
  else
   K15 y5
def flow_code_joined_l1 (c : flow_code) (K2 : (Unit → Option Bool)) : Nat → Int → Option Bool
 | 0, _ => none
 | q1+1, v3 =>
  if (decide (v3 < (c.l.length : Int))) then
   (lAt c.l v3).bind fun v6 =>
   (flow_code_next c v3).bind fun v7 =>
   if (!v7.2) then
    some false
   else
    letK (fun (_ : Unit) =>
     (ck (v3 + 1)).bind fun v18 =>
     flow_code_joined_l1 c K2 q1 v18
    ) fun (K9 : (Unit → Option Bool)) =>
    if (decide (v6.Code = 14)) then
     (flow_code_place c v6.B).bind fun v10 =>
     (
      if (!v10.2) then
       some true
      else
       (lAt c.l v10.1).bind fun v16 =>
       some (!decide (v16.Code = 15))
     ).bind fun y11 =>
     if y11 then
      some false
     else
      K9 ()
    else
     K9 ()
  else
   K2 ()
def flow_code_joined (c : flow_code) : Option Bool :=
 letK (fun (_ : Unit) =>
  some (decide ((0 : Int) < (c.l.length : Int)))
 ) fun (K2 : (Unit → Option Bool)) =>
 flow_code_joined_l1 c K2 fuel 0
def flow_moves (o : op_Op) : Option (Int × Int) :=
 (
  if (decide (o.Code = 6)) then
   some (decide (o.Code = 6))
  else
   (
    if (decide (o.Code = 8)) then
     some (decide (o.Code = 8))
    else
     (
      if (decide (o.Code = 9)) then
       some (decide (o.Code = 9))
      else
       (
        if (decide (o.Code = 14)) then
         some (decide (o.Code = 14))
        else
         (
          if (decide (o.Code = 17)) then
           some (decide (o.Code = 17))
          else
           some (decide (o.Code = 19))
         ).bind fun y9 =>
         some y9
       ).bind fun y7 =>
       some y7
     ).bind fun y5 =>
     some y5
   ).bind fun y3 =>
   some y3
 ).bind fun y1 =>
 if y1 then
  some (1, 0)
 else
  (
   if (decide (o.Code = 11)) then
    some (decide (o.Code = 11))
   else
    some (decide (o.Code = 12))
  ).bind fun y11 =>
  if y11 then
   (ck (o.B + 1)).bind fun v14 =>
   some (v14, 1)
  else
   (
    if (decide (o.Code = 13)) then
     some (decide (o.Code = 13))
    else
     (
      if (decide (o.Code = 15)) then
       some (decide (o.Code = 15))
      else
       some (decide (o.Code = 18))
     ).bind fun y17 =>
     some y17
   ).bind fun y15 =>
   if y15 then
    some (0, 0)
   else
    if (decide (o.Code = 10)) then
     some (1, 2)
    else
     some (0, 1)
def flow_code_depths_l3 (v133 : Int) (v135 : ((List Int) × Bool)) (K137 : ((List Int) → (List Int) → Option ((List Int) × Bool))) : Nat → Int → (List Int) → (List Int) → Option ((List Int) × Bool)
 | 0, _, _, _ => none
 | q3+1, v162, v163, v164 =>
  if (decide (v162 < (v135.1.length : Int))) then
   (lAt v135.1 v162).bind fun v167 =>
   (lAt v163 v167).bind fun v174 =>
   letK (fun (v184 : (List Int)) (v185 : (List Int)) =>
    (ck (v162 + 1)).bind fun v187 =>
    flow_code_depths_l3 v133 v135 K137 q3 v187 v184 v185
   ) fun (K176 : ((List Int) → (List Int) → Option ((List Int) × Bool))) =>
   if (decide (v174 = (-1))) then
    (app 8 v164 ([v167] : List Int)).bind fun v180 =>
    (stAt v163 v167 v133).bind fun v183 =>
    K176 v183 v180
   else
    if (decide (v174 = v133)) then
     K176 v163 v164
    else
     some ([], false)
  else
   K137 v163 v164
def flow_code_depths_l1 (c : flow_code) (K16 : ((List Int) → (List Int) → Option ((List Int) × Bool))) : Nat → (List Int) → (List Int) → Option ((List Int) × Bool)
 | 0, _, _ => none
 | q1+1, v103, v104 =>
  if (decide ((0 : Int) < (v104.length : Int))) then
   (ck ((v104.length : Int) - 1)).bind fun v106 =>
   (lAt v104 v106).bind fun v113 =>
   (sub v104 0 v106).bind fun v118 =>
   (lAt c.l v113).bind fun v121 =>
   (flow_moves v121).bind fun v122 =>
   (lAt v103 v113).bind fun v129 =>
   (ck (v129 - v122.1)).bind fun v131 =>
   (ck (v131 + v122.2)).bind fun v133 =>
   if ((decide (v129 < v122.1)) || (decide ((32 : Int) < v133))) then
    some ([], false)
   else
    (flow_code_next c v113).bind fun v135 =>
    letK (fun (v188 : (List Int)) (v189 : (List Int)) =>
     flow_code_depths_l1 c K16 q1 v188 v189
    ) fun (K137 : ((List Int) → (List Int) → Option ((List Int) × Bool))) =>
    flow_code_depths_l3 v133 v135 K137 fuel 0 v103 v118
  else
   K16 v103 v104
def flow_code_depths (c : flow_code) : Option ((List Int) × Bool) :=
 (flow_code_joined c).bind fun v1 =>
 if (!v1) then
  some ([], false)
 else
  (slices_Repeat_int ([(-1)] : List Int) (c.l.length : Int)).bind fun v2 =>
  (lAt v2 0).bind fun v9 =>
  (stAt v2 0 0).bind fun v12 =>
  (lit1 (0 : Int)).bind fun v14 =>
  letK (fun (v191 : (List Int)) (v192 : (List Int)) =>
   some (v191, true)
  ) fun (K16 : ((List Int) → (List Int) → Option ((List Int) × Bool))) =>
  flow_code_depths_l1 c K16 fuel v12 v14
def flow_Depths (p0_b : (List Int)) : Option ((List Int) × (Option Int)) :=
 (flow_read p0_b).bind fun v1 =>
 if v1.2.isSome then
  some ([], v1.2)
 else
  (flow_code_depths v1.1).bind fun v2 =>
  if (!v2.2) then
   some ([], (some 8))
  else
   some (v2.1, none)
def flow_Check (p0_b : (List Int)) : Option (Option Int) :=
 (flow_Depths p0_b).bind fun v1 =>
 some v1.2
def method_Method_lit (m : method_Method) (i : Int) (sel : Bool) : Option Bool :=
 (
  if (decide (i < (m.Lits.length : Int))) then
   (lAt m.Lits i).bind fun v6 =>
   some ((decide (v6.K = 2)) == sel)
  else
   some false
 ).bind fun y1 =>
 some y1
def method_Method_temp_l1 (m : method_Method) : Nat → Int → Int → Option Int
 | 0, _, _ => none
 | q1+1, v3, v4 =>
  if ((decide ((0 : Int) < v4)) && (decide ((0 : Int) ≤ v3))) then
   (lAt m.Parts v3).bind fun v8 =>
   (ck (v4 - 1)).bind fun v10 =>
   method_Method_temp_l1 m q1 v8.Outer v10
  else
   some v3
def method_Method_temp (m : method_Method) (p : Int) (out : Int) (i : Int) : Option Bool :=
 (
  method_Method_temp_l1 m fuel p out
 ).bind fun y1 =>
 (
  if (decide ((0 : Int) ≤ y1)) then
   (lAt m.Parts y1).bind fun v17 =>
   some (decide (i < v17.Temps))
  else
   some false
 ).bind fun y12 =>
 some y12
def method_Method_fits (m : method_Method) (p : Int) (o : op_Op) (vars : Int) (classes : Int) : Option Bool :=
 if (decide (o.Code = 4)) then
  (method_Method_lit m o.A false).bind fun v1 =>
  some v1
 else
  (
   if (decide (o.Code = 11)) then
    some (decide (o.Code = 11))
   else
    some (decide (o.Code = 12))
  ).bind fun y2 =>
  if y2 then
   (method_Method_lit m o.A true).bind fun v4 =>
   if (!v4) then
    some false
   else
    (lAt m.Lits o.A).bind fun v7 =>
    (method_Arity v7.S).bind fun v8 =>
    some (v8.2 && (decide (v8.1 = o.B)))
  else
   (
    if (decide (o.Code = 5)) then
     some (decide (o.Code = 5))
    else
     some (decide (o.Code = 6))
   ).bind fun y11 =>
   if y11 then
    (method_Method_temp m p o.A o.B).bind fun v13 =>
    some v13
   else
    (
     if (decide (o.Code = 7)) then
      some (decide (o.Code = 7))
     else
      some (decide (o.Code = 8))
    ).bind fun y14 =>
    if y14 then
     some (decide (o.A < vars))
    else
     if (decide (o.Code = 20)) then
      some (decide (o.A < classes))
     else
      if (decide (o.Code = 16)) then
       (
        if (decide (o.A < (m.Parts.length : Int))) then
         if (decide ((0 : Int) < o.A)) then
          (lAt m.Parts o.A).bind fun v22 =>
          some (decide (v22.Outer = p))
         else
          some false
        else
         some false
       ).bind fun y16 =>
       some y16
      else
       if (decide (o.Code = 19)) then
        some (decide ((0 : Int) < p))
       else
        if (decide (o.Code = 18)) then
         some (decide (p = 0))
        else
         some true
def method_Method_part_1 (o : op_Op) (p1 : method_Method) (p2 : Int) (p3 : Int) (p4 : Int) : Option (Bool × method_Method × Int × Int × Int) :=
 (method_Method_fits p1 p2 o p3 p4).bind fun v1 =>
 some ((!v1), p1, p2, p3, p4)
def slices_IndexFunc_Lop_Op_op_Op_c56_l1 (s : (List op_Op)) (K2 : (method_Method → Int → Int → Int → Option (Int × method_Method × Int × Int × Int))) : Nat → Int → method_Method → Int → Int → Int → Option (Int × method_Method × Int × Int × Int)
 | 0, _, _, _, _, _ => none
 | q1+1, v10, v11, v12, v13, v14 =>
  if (decide (v10 < (s.length : Int))) then
   (lAt s v10).bind fun v17 =>
   (method_Method_part_1 v17 v11 v12 v13 v14).bind fun v18 =>
   if v18.1 then
    some (v10, v18.2.1, v18.2.2.1, v18.2.2.2.1, v18.2.2.2.2)
   else
    (ck (v10 + 1)).bind fun v20 =>
    slices_IndexFunc_Lop_Op_op_Op_c56_l1 s K2 q1 v20 v18.2.1 v18.2.2.1 v18.2.2.2.1 v18.2.2.2.2
  else
   K2 v11 v12 v13 v14
def slices_IndexFunc_Lop_Op_op_Op_c56 (s : (List op_Op)) (p1_f0 : method_Method) (p1_f1 : Int) (p1_f2 : Int) (p1_f3 : Int) : Option (Int × method_Method × Int × Int × Int) :=
 letK (fun (v21 : method_Method) (v22 : Int) (v23 : Int) (v24 : Int) =>
  some ((-1), v21, v22, v23, v24)
 ) fun (K2 : (method_Method → Int → Int → Int → Option (Int × method_Method × Int × Int × Int))) =>
 slices_IndexFunc_Lop_Op_op_Op_c56_l1 s K2 fuel 0 p1_f0 p1_f1 p1_f2 p1_f3
def slices_ContainsFunc_Lop_Op_op_Op_c56 (s : (List op_Op)) (p1_f0 : method_Method) (p1_f1 : Int) (p1_f2 : Int) (p1_f3 : Int) : Option (Bool × method_Method × Int × Int × Int) :=
 (slices_IndexFunc_Lop_Op_op_Op_c56 s p1_f0 p1_f1 p1_f2 p1_f3).bind fun v1 =>
 some ((decide ((0 : Int) ≤ v1.1)), v1.2.1, v1.2.2.1, v1.2.2.2.1, v1.2.2.2.2)
def method_Method_part (m : method_Method) (p : Int) (vars : Int) (classes : Int) : Option Bool :=
 (lAt m.Parts p).bind fun v3 =>
 (
  if (decide (p ≤ v3.Outer)) then
   some true
  else
   if (decide (v3.Outer < (-1))) then
    some true
   else
    if (!((decide (v3.Outer < 0)) == (decide (p = 0)))) then
     some true
    else
     if (decide (v3.Args < 0)) then
      some true
     else
      if (decide ((8 : Int) < v3.Args)) then
       some true
      else
       if (decide (v3.Temps < v3.Args)) then
        some true
       else
        if (decide ((16 : Int) < v3.Temps)) then
         some true
        else
         (flow_Check v3.Code).bind fun v13 =>
         some v13.isSome
 ).bind fun y4 =>
 if y4 then
  some false
 else
  (op_Decode v3.Code).bind fun v14 =>
  (
   if v14.2.2.isNone then
    (slices_ContainsFunc_Lop_Op_op_Op_c56 v14.1 m p vars classes).bind fun v18 =>
    some ((!v18.1), v18.2.1, v18.2.2.1, v18.2.2.2.1, v18.2.2.2.2)
   else
    some (false, m, p, vars, classes)
  ).bind fun y15 =>
  some y15.1
def method_Check_l1 (m : method_Method) (vars : Int) (classes : Int) (K14 : (Unit → Option (Option Int))) : Nat → Int → Option (Option Int)
 | 0, _ => none
 | q1+1, v15 =>
  if (decide (v15 < (m.Parts.length : Int))) then
   (method_Method_part m v15 vars classes).bind fun v16 =>
   if (!v16) then
    some (some 8)
   else
    (ck (v15 + 1)).bind fun v18 =>
    method_Check_l1 m vars classes K14 q1 v18
  else
   K14 ()
def method_Check (m : method_Method) (vars : Int) (classes : Int) : Option (Option Int) :=
 (method_Arity m.Sel).bind fun v1 =>
 (
  if (!v1.2) then
   some true
  else
   if (decide ((64 : Int) < (m.Lits.length : Int))) then
    some true
   else
    (slices_ContainsFunc_Lmethod_Lit_method_Lit m.Lits method_Check_1).bind fun v6 =>
    if v6 then
     some true
    else
     if (decide ((m.Parts.length : Int) < 1)) then
      some true
     else
      if (decide ((64 : Int) < (m.Parts.length : Int))) then
       some true
      else
       (lAt m.Parts 0).bind fun v12 =>
       some (!decide (v12.Args = v1.1))
 ).bind fun y2 =>
 if y2 then
  some (some 8)
 else
  letK (fun (_ : Unit) =>
   some none
  ) fun (K14 : (Unit → Option (Option Int))) =>
  method_Check_l1 m vars classes K14 fuel 0
def method_Method_written_l1 (m : method_Method) (K3 : (Unit → Option Bool)) : Nat → Int → Option Bool
 | 0, _ => none
 | q1+1, v4 =>
  if (decide (v4 < (m.Lits.length : Int))) then
   (lAt m.Lits v4).bind fun v7 =>
   if ((decide ((2 : Int) < v7.K)) || (decide ((1024 : Int) < (v7.S.length : Int)))) then
    some false
   else
    (ck (v4 + 1)).bind fun v10 =>
    method_Method_written_l1 m K3 q1 v10
  else
   K3 ()
def method_Method_written_l2 (m : method_Method) (K13 : (Unit → Option Bool)) : Nat → Int → Option Bool
 | 0, _ => none
 | q2+1, v14 =>
  if (decide (v14 < (m.Parts.length : Int))) then
   (lAt m.Parts v14).bind fun v17 =>
   if (((((((decide (v17.Outer < (-1))) || (decide ((64 : Int) ≤ v17.Outer))) || (decide (v17.Args < 0))) || (decide ((16 : Int) < v17.Args))) || (decide (v17.Temps < 0))) || (decide ((16 : Int) < v17.Temps))) || (decide ((512 : Int) < (v17.Code.length : Int)))) then
    some false
   else
    (ck (v14 + 1)).bind fun v20 =>
    method_Method_written_l2 m K13 q2 v20
  else
   K13 ()
def method_Method_written (m : method_Method) : Option Bool :=
 if (((decide ((1024 : Int) < (m.Sel.length : Int))) || (decide ((64 : Int) < (m.Lits.length : Int)))) || (decide ((64 : Int) < (m.Parts.length : Int)))) then
  some false
 else
  letK (fun (_ : Unit) =>
   letK (fun (_ : Unit) =>
    some true
   ) fun (K13 : (Unit → Option Bool)) =>
   method_Method_written_l2 m K13 fuel 0
  ) fun (K3 : (Unit → Option Bool)) =>
  method_Method_written_l1 m K3 fuel 0
def varint_Put_l1  : Nat → Int → (List Int) → Option (List Int)
 | 0, _, _ => none
 | q1+1, v2, v3 =>
  (shr .i64 v2 7).bind fun v6 =>
  if (((decide (v6 = 0)) && (decide ((bitv .and .u8 (IntKind.wrap .u8 (bitv .and .i64 v2 127)) 64) = 0))) || ((decide (v6 = (-1))) && (!decide ((bitv .and .u8 (IntKind.wrap .u8 (bitv .and .i64 v2 127)) 64) = 0)))) then
   (app 1 v3 ([(IntKind.wrap .u8 (bitv .and .i64 v2 127))] : List Int)).bind fun v10 =>
   some v10
  else
   (app 1 v3 ([(bitv .or .u8 (IntKind.wrap .u8 (bitv .and .i64 v2 127)) 128)] : List Int)).bind fun v13 =>
   varint_Put_l1  q1 v6 v13
def varint_Put (p0_b : (List Int)) (n : Int) : Option (List Int) :=
 (slices_Clone_byte p0_b).bind fun v1 =>
 varint_Put_l1  fuel n v1
def pack_Writer_Int_l1 (l : (List Int)) : Nat → Int → (List Int) → Option (List Int)
 | 0, _, _ => none
 | q1+1, v13, v14 =>
  if (decide (v13 < (l.length : Int))) then
   (lAt l v13).bind fun v17 =>
   (varint_Put [] v17).bind fun v18 =>
   (app 1 v14 v18).bind fun v21 =>
   (ck (v13 + 1)).bind fun v23 =>
   pack_Writer_Int_l1 l q1 v23 v21
  else
   some v14
def pack_Writer_Int (p0_w : pack_Writer) (l : (List Int)) : Option pack_Writer :=
 (
  pack_Writer_Int_l1 l fuel 0 p0_w.b
 ).bind fun y1 =>
 some (pack_Writer.mk y1)
def pack_Writer_Text (p0_w : pack_Writer) (s : Str) : Option pack_Writer :=
 (pack_Writer_Int p0_w ([(s.length : Int)] : List Int)).bind fun v1 =>
 (app 1 v1.b (toInts s)).bind fun v4 =>
 some (pack_Writer.mk v4)
def pack_Writer_All (p0_w : pack_Writer) : Option ((List Int) × pack_Writer) :=
 (slices_Clone_byte p0_w.b).bind fun v1 =>
 some (v1, p0_w)
def method_Encode_l1 (m : method_Method) : Nat → Int → (List Int) → Option (List Int)
 | 0, _, _ => none
 | q1+1, v16, v17 =>
  if (decide (v16 < (m.Lits.length : Int))) then
   (lAt m.Lits v16).bind fun v20 =>
   (ck v20.K).bind fun v22 =>
   (pack_Writer_Int (pack_Writer.mk v17) ([v22] : List Int)).bind fun v23 =>
   (pack_Writer_Text v23 v20.S).bind fun v24 =>
   (ck (v16 + 1)).bind fun v26 =>
   method_Encode_l1 m q1 v26 v24.b
  else
   some v17
def method_Encode_l2 (m : method_Method) : Nat → Int → (List Int) → Option (List Int)
 | 0, _, _ => none
 | q2+1, v38, v39 =>
  if (decide (v38 < (m.Parts.length : Int))) then
   (lAt m.Parts v38).bind fun v42 =>
   (pack_Writer_Int (pack_Writer.mk v39) ([v42.Outer, v42.Args, v42.Temps] : List Int)).bind fun v43 =>
   (pack_Writer_Text v43 (ofInts v42.Code)).bind fun v44 =>
   (ck (v38 + 1)).bind fun v46 =>
   method_Encode_l2 m q2 v46 v44.b
  else
   some v39
def method_Encode (m : method_Method) : Option ((List Int) × (Option Int)) :=
 (method_Method_written m).bind fun v1 =>
 if (!v1) then
  some ([], (some 1))
 else
  (pack_Writer_Text (pack_Writer.mk []) m.Sel).bind fun v2 =>
  (pack_Writer_Int v2 ([(m.Lits.length : Int)] : List Int)).bind fun v3 =>
  (
   method_Encode_l1 m fuel 0 v3.b
  ).bind fun y4 =>
  (pack_Writer_Int (pack_Writer.mk y4) ([(m.Parts.length : Int)] : List Int)).bind fun v27 =>
  (
   method_Encode_l2 m fuel 0 v27.b
  ).bind fun y28 =>
  (pack_Writer_All (pack_Writer.mk y28)).bind fun v47 =>
  some (v47.1, none)
def pack_Read (p0_b : (List Int)) : Option pack_Reader :=
 (slices_Clone_byte p0_b).bind fun v1 =>
 some (pack_Reader.mk v1 false)
def pack_Reader_ok (p0_r : pack_Reader) : Option (Bool × pack_Reader) :=
 some ((!p0_r.wrong), p0_r)
def slices_Equal_Lbyte_byte_l1 (s1 : (List Int)) (s2 : (List Int)) (K2 : (Unit → Option Bool)) : Nat → Int → Option Bool
 | 0, _ => none
 | q1+1, v3 =>
  if (decide (v3 < (s1.length : Int))) then
   (lAt s1 v3).bind fun v6 =>
   (lAt s2 v3).bind fun v9 =>
   if (!decide (v6 = v9)) then
    some false
   else
    (ck (v3 + 1)).bind fun v11 =>
    slices_Equal_Lbyte_byte_l1 s1 s2 K2 q1 v11
  else
   K2 ()
def slices_Equal_Lbyte_byte (s1 : (List Int)) (s2 : (List Int)) : Option Bool :=
 if (!decide ((s1.length : Int) = (s2.length : Int))) then
  some false
 else
  letK (fun (_ : Unit) =>
   some true
  ) fun (K2 : (Unit → Option Bool)) =>
  slices_Equal_Lbyte_byte_l1 s1 s2 K2 fuel 0
def varint_Get_l1 (p0_b : (List Int)) (K2 : (Unit → Option (Int × Int × (Option Int)))) : Nat → Int → Int → Int → Option (Int × Int × (Option Int))
 | 0, _, _, _ => none
 | q1+1, v3, v4, v5 =>
  if (decide (v5 < (p0_b.length : Int))) then
   (lAt p0_b v5).bind fun v8 =>
   if (decide ((64 : Int) ≤ v4)) then
    K2 ()
   else
    (ck (bitv .and .u8 v8 127)).bind fun v10 =>
    (shl .i64 v10 v4).bind fun v13 =>
    if (!decide ((bitv .and .u8 v8 128) = 0)) then
     (ck (v5 + 1)).bind fun v15 =>
     varint_Get_l1 p0_b K2 q1 (bitv .or .i64 v3 v13) (IntKind.wrap .u64 (v4 + 7)) v15
    else
     (
      if ((!decide ((bitv .and .u8 v8 64) = 0)) && (decide ((IntKind.wrap .u64 (v4 + 7)) < 64))) then
       (shl .i64 (-1) (IntKind.wrap .u64 (v4 + 7))).bind fun v21 =>
       some (bitv .or .i64 (bitv .or .i64 v3 v13) v21)
      else
       some (bitv .or .i64 v3 v13)
     ).bind fun y17 =>
     (varint_Put [] y17).bind fun v22 =>
     (ck (v5 + 1)).bind fun v24 =>
     (sub p0_b 0 v24).bind fun v27 =>
     (slices_Equal_Lbyte_byte v22 v27).bind fun v28 =>
     if (!v28) then
      K2 ()
     else
      some (y17, v24, none)
  else
   K2 ()
def varint_Get (p0_b : (List Int)) : Option (Int × Int × (Option Int)) :=
 letK (fun (_ : Unit) =>
  some (0, 0, (some 2))
 ) fun (K2 : (Unit → Option (Int × Int × (Option Int)))) =>
 varint_Get_l1 p0_b K2 fuel 0 0 0
def pack_Reader_fail (p0_r : pack_Reader) : Option pack_Reader :=
 some (pack_Reader.mk [] true)
def pack_Reader_Int (p0_r : pack_Reader) (lo : Int) (hi : Int) : Option (Int × pack_Reader) :=
 (pack_Reader_ok p0_r).bind fun v1 =>
 if (!v1.1) then
  some (0, v1.2)
 else
  (varint_Get v1.2.b).bind fun v2 =>
  if ((v2.2.2.isSome || (decide (v2.1 < lo))) || (decide (hi < v2.1))) then
   (pack_Reader_fail v1.2).bind fun v4 =>
   some (0, v4)
  else
   (sub v1.2.b v2.2.1 (v1.2.b.length : Int)).bind fun v7 =>
   some (v2.1, (pack_Reader.mk v7 v1.2.wrong))
def pack_Reader_count (p0_r : pack_Reader) (many : Int) : Option (Int × pack_Reader) :=
 (pack_Reader_Int p0_r 0 many).bind fun v1 =>
 (
  (pack_Reader_ok v1.2).bind fun v4 =>
  if (!v4.1) then
   some (true, v4.2)
  else
   some ((decide ((v4.2.b.length : Int) < v1.1)), v4.2)
 ).bind fun y2 =>
 if y2.1 then
  (pack_Reader_fail y2.2).bind fun v6 =>
  some (0, v6)
 else
  some (v1.1, y2.2)
def pack_Reader_Text (p0_r : pack_Reader) (many : Int) : Option (Str × pack_Reader) :=
 (pack_Reader_count p0_r many).bind fun v1 =>
 (pack_Reader_ok v1.2).bind fun v2 =>
 if (!v2.1) then
  some ([], v2.2)
 else
  (sub v2.2.b 0 v1.1).bind fun v5 =>
  (sub v2.2.b v1.1 (v2.2.b.length : Int)).bind fun v8 =>
  some ((ofInts v5), (pack_Reader.mk v8 v2.2.wrong))
def pack_Reader_Done (p0_r : pack_Reader) : Option ((Option Int) × pack_Reader) :=
 (
  (pack_Reader_ok p0_r).bind fun v3 =>
  if (!v3.1) then
   some (true, v3.2)
  else
   some ((decide ((0 : Int) < (v3.2.b.length : Int))), v3.2)
 ).bind fun y1 =>
 if y1.1 then
  some ((some 2), y1.2)
 else
  some (none, y1.2)
def method_Decode_l1 (v3 : (Int × pack_Reader)) : Nat → Int → pack_Reader → (List method_Lit) → Option (pack_Reader × (List method_Lit))
 | 0, _, _, _ => none
 | q1+1, v14, v15, v16 =>
  if (decide (v14 < v3.1)) then
   (pack_Reader_Int v15 0 2).bind fun v17 =>
   (pack_Reader_Text v17.2 1024).bind fun v18 =>
   (app 24 v16 ([(method_Lit.mk (IntKind.wrap .u8 v17.1) v18.1)] : List method_Lit)).bind fun v21 =>
   (ck (v14 + 1)).bind fun v23 =>
   method_Decode_l1 v3 q1 v23 v18.2 v21
  else
   some (v15, v16)
def method_Decode_l2 (v24 : (Int × pack_Reader)) : Nat → Int → pack_Reader → (List method_Part) → Option (pack_Reader × (List method_Part))
 | 0, _, _, _ => none
 | q2+1, v37, v38, v39 =>
  if (decide (v37 < v24.1)) then
   (pack_Reader_Int v38 (-1) 63).bind fun v40 =>
   (pack_Reader_Int v40.2 0 16).bind fun v41 =>
   (pack_Reader_Int v41.2 0 16).bind fun v42 =>
   (pack_Reader_Text v42.2 512).bind fun v43 =>
   (app 48 v39 ([(method_Part.mk v40.1 v41.1 v42.1 (toInts v43.1))] : List method_Part)).bind fun v46 =>
   (ck (v37 + 1)).bind fun v48 =>
   method_Decode_l2 v24 q2 v48 v43.2 v46
  else
   some (v38, v39)
def method_Decode (p0_b : (List Int)) : Option (method_Method × (Option Int)) :=
 (pack_Read p0_b).bind fun v1 =>
 (pack_Reader_Text v1 1024).bind fun v2 =>
 (pack_Reader_Int v2.2 0 64).bind fun v3 =>
 (
  method_Decode_l1 v3 fuel 0 v3.2 []
 ).bind fun y4 =>
 (pack_Reader_Int y4.1 0 64).bind fun v24 =>
 (
  method_Decode_l2 v24 fuel 0 v24.2 []
 ).bind fun y25 =>
 (pack_Reader_Done y25.1).bind fun v49 =>
 if v49.1.isSome then
  some ((method_Method.mk [] [] []), (some 2))
 else
  some ((method_Method.mk v2.1 y4.2 y25.2), none)
def slices_Equal_Lmethod_Lit_method_Lit_l1 (s1 : (List method_Lit)) (s2 : (List method_Lit)) (K2 : (Unit → Option Bool)) : Nat → Int → Option Bool
 | 0, _ => none
 | q1+1, v3 =>
  if (decide (v3 < (s1.length : Int))) then
   (lAt s1 v3).bind fun v6 =>
   (lAt s2 v3).bind fun v9 =>
   if (!((decide (v6.K = v9.K) && (v6.S == v9.S)))) then
    some false
   else
    (ck (v3 + 1)).bind fun v11 =>
    slices_Equal_Lmethod_Lit_method_Lit_l1 s1 s2 K2 q1 v11
  else
   K2 ()
def slices_Equal_Lmethod_Lit_method_Lit (s1 : (List method_Lit)) (s2 : (List method_Lit)) : Option Bool :=
 if (!decide ((s1.length : Int) = (s2.length : Int))) then
  some false
 else
  letK (fun (_ : Unit) =>
   some true
  ) fun (K2 : (Unit → Option Bool)) =>
  slices_Equal_Lmethod_Lit_method_Lit_l1 s1 s2 K2 fuel 0
def slices_EqualFunc_Lmethod_Part_Lmethod_Part_method_Part_method_Part_l1 (s1 : (List method_Part)) (s2 : (List method_Part)) (eq : (method_Part → method_Part → Option Bool)) (K2 : (Unit → Option Bool)) : Nat → Int → Option Bool
 | 0, _ => none
 | q1+1, v3 =>
  if (decide (v3 < (s1.length : Int))) then
   (lAt s1 v3).bind fun v6 =>
   (lAt s2 v3).bind fun v9 =>
   (eq v6 v9).bind fun v10 =>
   if (!v10) then
    some false
   else
    (ck (v3 + 1)).bind fun v12 =>
    slices_EqualFunc_Lmethod_Part_Lmethod_Part_method_Part_method_Part_l1 s1 s2 eq K2 q1 v12
  else
   K2 ()
def slices_EqualFunc_Lmethod_Part_Lmethod_Part_method_Part_method_Part (s1 : (List method_Part)) (s2 : (List method_Part)) (eq : (method_Part → method_Part → Option Bool)) : Option Bool :=
 if (!decide ((s1.length : Int) = (s2.length : Int))) then
  some false
 else
  letK (fun (_ : Unit) =>
   some true
  ) fun (K2 : (Unit → Option Bool)) =>
  slices_EqualFunc_Lmethod_Part_Lmethod_Part_method_Part_method_Part_l1 s1 s2 eq K2 fuel 0
def method_Part_same (p : method_Part) (p1_q : method_Part) : Option Bool :=
 (
  if (decide (p.Outer = p1_q.Outer)) then
   if (decide (p.Args = p1_q.Args)) then
    if (decide (p.Temps = p1_q.Temps)) then
     (slices_Equal_Lbyte_byte p.Code p1_q.Code).bind fun v6 =>
     some v6
    else
     some false
   else
    some false
  else
   some false
 ).bind fun y1 =>
 some y1
def method_Same (a : method_Method) (p1_b : method_Method) : Option Bool :=
 (
  if (a.Sel == p1_b.Sel) then
   (slices_Equal_Lmethod_Lit_method_Lit a.Lits p1_b.Lits).bind fun v4 =>
   if v4 then
    (slices_EqualFunc_Lmethod_Part_Lmethod_Part_method_Part_method_Part a.Parts p1_b.Parts method_Part_same).bind fun v6 =>
    some v6
   else
    some false
  else
   some false
 ).bind fun y1 =>
 some y1
def law09_sure  : Option Bool :=
 (method_Encode (method_Method.mk [102, 111, 111, 58] ([(method_Lit.mk 0 [53])] : List method_Lit) ([(method_Part.mk (-1) 1 1 ([4, 0, 17] : List Int))] : List method_Part))).bind fun v1 =>
 (method_Decode v1.1).bind fun v2 =>
 (method_Arity [97, 116, 58, 112, 117, 116, 58]).bind fun v3 =>
 (method_Arity [60, 61]).bind fun v4 =>
 (method_Arity [70, 111, 111]).bind fun v5 =>
 (method_Decode []).bind fun v6 =>
 (
  if v1.2.isNone then
   if v2.2.isNone then
    (method_Same (method_Method.mk [102, 111, 111, 58] ([(method_Lit.mk 0 [53])] : List method_Lit) ([(method_Part.mk (-1) 1 1 ([4, 0, 17] : List Int))] : List method_Part)) v2.1).bind fun v11 =>
    if v11 then
     if v3.2 then
      if (decide (v3.1 = 2)) then
       if v4.2 then
        if (decide (v4.1 = 1)) then
         if (!v5.2) then
          (law_num v6.2).bind fun v18 =>
          if (decide (v18 = 2)) then
           (method_Check (method_Method.mk [102, 111, 111, 58] ([(method_Lit.mk 0 [53])] : List method_Lit) ([(method_Part.mk (-1) 1 1 ([4, 0, 17] : List Int))] : List method_Part)) 0 11).bind fun v20 =>
           if v20.isNone then
            (method_Check (method_Method.mk [] [] []) 0 11).bind fun v22 =>
            (law_num v22).bind fun v23 =>
            some (decide (v23 = 8))
           else
            some false
          else
           some false
         else
          some false
        else
         some false
       else
        some false
      else
       some false
     else
      some false
    else
     some false
   else
    some false
  else
   some false
 ).bind fun y7 =>
 some y7
def law09_bigMethod_l1 (m : ref09_Method) (K3 : (Unit → Option Bool)) : Nat → Int → Option Bool
 | 0, _ => none
 | q1+1, v4 =>
  if (decide (v4 < (m.Lits.length : Int))) then
   (lAt m.Lits v4).bind fun v7 =>
   if (decide ((1100 : Int) < (v7.S.length : Int))) then
    some true
   else
    (ck (v4 + 1)).bind fun v9 =>
    law09_bigMethod_l1 m K3 q1 v9
  else
   K3 ()
def law09_bigMethod_l2 (m : ref09_Method) (K11 : (Unit → Option Bool)) : Nat → Int → Option Bool
 | 0, _ => none
 | q2+1, v12 =>
  if (decide (v12 < (m.Parts.length : Int))) then
   (lAt m.Parts v12).bind fun v15 =>
   if (decide ((600 : Int) < (v15.Code.length : Int))) then
    some true
   else
    (ck (v12 + 1)).bind fun v17 =>
    law09_bigMethod_l2 m K11 q2 v17
  else
   K11 ()
def law09_bigMethod (m : ref09_Method) : Option Bool :=
 if (((decide ((1100 : Int) < (m.Sel.length : Int))) || (decide ((70 : Int) < (m.Lits.length : Int)))) || (decide ((70 : Int) < (m.Parts.length : Int)))) then
  some true
 else
  letK (fun (_ : Unit) =>
   letK (fun (_ : Unit) =>
    some false
   ) fun (K11 : (Unit → Option Bool)) =>
   law09_bigMethod_l2 m K11 fuel 0
  ) fun (K3 : (Unit → Option Bool)) =>
  law09_bigMethod_l1 m K3 fuel 0
def law09_giveMethod_l1 (m : ref09_Method) : Nat → Int → (List method_Lit) → Option (List method_Lit)
 | 0, _, _ => none
 | q1+1, v12, v13 =>
  if (decide (v12 < (m.Lits.length : Int))) then
   (lAt m.Lits v12).bind fun v16 =>
   (app 24 v13 ([(method_Lit.mk v16.K v16.S)] : List method_Lit)).bind fun v19 =>
   (ck (v12 + 1)).bind fun v21 =>
   law09_giveMethod_l1 m q1 v21 v19
  else
   some v13
def law09_giveMethod_l2 (m : ref09_Method) : Nat → Int → (List method_Part) → Option (List method_Part)
 | 0, _, _ => none
 | q2+1, v36, v37 =>
  if (decide (v36 < (m.Parts.length : Int))) then
   (lAt m.Parts v36).bind fun v40 =>
   (app 1 ([] : List Int) v40.Code).bind fun v43 =>
   (app 48 v37 ([(method_Part.mk v40.Outer v40.Args v40.Temps v43)] : List method_Part)).bind fun v46 =>
   (ck (v36 + 1)).bind fun v48 =>
   law09_giveMethod_l2 m q2 v48 v46
  else
   some v37
def law09_giveMethod (m : ref09_Method) : Option method_Method :=
 (
  law09_giveMethod_l1 m fuel 0 []
 ).bind fun y1 =>
 (
  law09_giveMethod_l2 m fuel 0 []
 ).bind fun y22 =>
 some (method_Method.mk m.Sel y1 y22)
def law09_MethodMore (m : ref09_Method) (of : St53) (more : St53) : Option Bool :=
 (law09_bigMethod m).bind fun v1 =>
 if v1 then
  (law09_sure).bind fun v2 =>
  some v2
 else
  (law09_giveMethod m).bind fun v3 =>
  (ck of.e0).bind fun v5 =>
  (ck of.e1).bind fun v7 =>
  (method_Check v3 v5 v7).bind fun v8 =>
  if v8.isSome then
   (
    (law_num v8).bind fun v11 =>
    if (decide (v11 = 8)) then
     (law09_sure).bind fun v13 =>
     some v13
    else
     some false
   ).bind fun y9 =>
   some y9
  else
   (
    (ck more.e0).bind fun v17 =>
    (ck (v5 + v17)).bind fun v19 =>
    (ck more.e1).bind fun v21 =>
    (ck (v7 + v21)).bind fun v23 =>
    (method_Check v3 v19 v23).bind fun v24 =>
    if v24.isNone then
     (method_Same v3 v3).bind fun v26 =>
     if v26 then
      (law09_sure).bind fun v28 =>
      some v28
     else
      some false
    else
     some false
   ).bind fun y14 =>
   some y14
end Go.Cq

