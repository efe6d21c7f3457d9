import Derived.Test.YtiboeelbmgnbgaaGreatDoorBu
import Derived.Test.YtiboeelbmgnbgaaGreatDoorHa7
import Derived.Test.YtiboeelbmgnbgaaGreatDoorOwn
set_option linter.unusedSectionVars false
set_option linter.unusedVariables false
set_option linter.unusedSimpArgs false
set_option linter.unnecessarySimpa false
set_option maxRecDepth 100000
set_option maxHeartbeats 4000000
namespace Go.Cq
open Go Go.Av
abbrev Str := List UInt8
structure rNd where
 K : Int
 S : Str
 N : Int
 L : (List Str)
 Kids : (List Int)
deriving Inhabited, DecidableEq
structure rMt where
 Sel : Str
 Args : (List Str)
 Temps : (List Str)
 Nodes : (List rNd)
 Body : (List Int)
deriving Inhabited, DecidableEq
structure tNd where
 K : Int
 S : Str
 N : Int
 L : (List Str)
 Kids : (List Int)
deriving Inhabited, DecidableEq
structure large_Num where
 Neg : Bool
 Mag : (List Int)
deriving Inhabited, DecidableEq
structure tree_walk where
 l : (List tNd)
 next : Int
deriving Inhabited, DecidableEq
structure tMt where
 Sel : Str
 Args : (List Str)
 Temps : (List Str)
 Nodes : (List tNd)
 Body : (List Int)
deriving Inhabited, DecidableEq
structure lWd where
 K : Int
 S : Str
 At : Int
deriving Inhabited, DecidableEq
structure pwr where
 m : tMt
 l : (List lWd)
deriving Inhabited, DecidableEq
structure tCl where
 Name : Str
 Super : Str
 Vars : (List Str)
 Methods : (List tMt)
deriving Inhabited, DecidableEq
structure ref03_Num where
 Neg : Bool
 Mag : (List Int)
deriving Inhabited, DecidableEq
structure rWd where
 K : Int
 S : Str
 At : Int
deriving Inhabited, DecidableEq
structure rCl where
 Name : Str
 Super : Str
 Vars : (List Str)
 Methods : (List rMt)
deriving Inhabited, DecidableEq
def zFF (s : Str) (c : Int) : Option Int := some (idxB s (UInt8.ofNat c.toNat))
def zIY (e : Option Int) : Option Int := some (match e with | none => 0 | some n => n)
def strings_Split (s sep : Str) : Option (List Str) := zNK s sep
def zA2 (s cs : Str) : Option Str := zNs s cs
def zFL (n : Int) : Option (List Str) := zHJ n
def zEQ (n : Int) : Option (List lWd) := zHJ n
def strings_ReplaceAll (s o n : Str) : Option Str := zFI s o n
def strings_Join (xs : List Str) (sep : Str) : Option Str := joinS xs sep
def zA4 (l : (List Str)) (K2 : (Unit → Option Bool)) : Nat → Int → Option Bool
 | 0, _ => none
 | q1+1, v3 =>
  if ((decide (v3 < (l.length : Int))) && (decide (v3 < 40))) then
   (lAt l v3).bind fun v7 =>
   if (decide ((1100 : Int) < (v7.length : Int))) then
    some true
   else
    (ck (v3 + 1)).bind fun v9 =>
    zA4 l K2 q1 v9
  else
   K2 ()
def zBo (l : (List Str)) : Option Bool :=
 letK (fun (_ : Unit) =>
  some (decide ((40 : Int) < (l.length : Int)))
 ) fun (K2 : (Unit → Option Bool)) =>
 zA4 l K2 fuel 0
def zBf (m : rMt) (K10 : (Unit → Option Bool)) : Nat → Int → Option Bool
 | 0, _ => none
 | q1+1, v11 =>
  if (decide (v11 < (m.Nodes.length : Int))) then
   (lAt m.Nodes v11).bind fun v14 =>
   (
    if (decide ((1100 : Int) < (v14.S.length : Int))) then
     some true
    else
     (zBo v14.L).bind fun v18 =>
     if v18 then
      some true
     else
      some (decide ((520 : Int) < (v14.Kids.length : Int)))
   ).bind fun y15 =>
   if y15 then
    some true
   else
    (ck (v11 + 1)).bind fun v21 =>
    zBf m K10 q1 v21
  else
   K10 ()
def zDw (m : rMt) : Option Bool :=
 (
  if (decide ((1100 : Int) < (m.Sel.length : Int))) then
   some true
  else
   (zBo m.Args).bind fun v4 =>
   if v4 then
    some true
   else
    (zBo m.Temps).bind fun v6 =>
    if v6 then
     some true
    else
     if (decide ((520 : Int) < (m.Nodes.length : Int))) then
      some true
     else
      some (decide ((520 : Int) < (m.Body.length : Int)))
 ).bind fun y1 =>
 if y1 then
  some true
 else
  letK (fun (_ : Unit) =>
   some false
  ) fun (K10 : (Unit → Option Bool)) =>
  zBf m K10 fuel 0
def zAJ (slices : (List (List Str))) : Nat → Int → Int → Option Int
 | 0, _, _ => none
 | q1+1, v3, v4 =>
  if (decide (v4 < (slices.length : Int))) then
   (lAt slices v4).bind fun v7 =>
   (ck (v3 + (v7.length : Int))).bind fun v9 =>
   (
    if (decide (v9 < 0)) then
     none
    else
     some ()
   ).bind fun y10 =>
   (ck (v4 + 1)).bind fun v13 =>
   zAJ slices q1 v9 v13
  else
   some v3
def zAH (slices : (List (List Str))) : Nat → (List Str) → Int → Option (List Str)
 | 0, _, _ => none
 | q2+1, v17, v18 =>
  if (decide (v18 < (slices.length : Int))) then
   (lAt slices v18).bind fun v21 =>
   (app 16 v17 v21).bind fun v24 =>
   (ck (v18 + 1)).bind fun v26 =>
   zAH slices q2 v24 v26
  else
   some v17
def zCw (slices : (List (List Str))) : Option (List Str) :=
 (
  zAJ slices fuel 0 0
 ).bind fun y1 =>
 (zFL y1).bind fun v14 =>
 (
  zAH slices fuel v14 0
 ).bind fun y15 =>
 some y15
def zAS (s : (List Str)) (p1_f : (Str → Option Bool)) (K2 : (Unit → Option Int)) : Nat → Int → Option Int
 | 0, _ => none
 | q1+1, v3 =>
  if (decide (v3 < (s.length : Int))) then
   (lAt s v3).bind fun v6 =>
   (p1_f v6).bind fun v7 =>
   if v7 then
    some v3
   else
    (ck (v3 + 1)).bind fun v9 =>
    zAS s p1_f K2 q1 v9
  else
   K2 ()
def zC5 (s : (List Str)) (p1_f : (Str → Option Bool)) : Option Int :=
 letK (fun (_ : Unit) =>
  some (-1)
 ) fun (K2 : (Unit → Option Int)) =>
 zAS s p1_f K2 fuel 0
def zA1 (s : (List Str)) (p1_f : (Str → Option Bool)) : Option Bool :=
 (zC5 s p1_f).bind fun v1 =>
 some (decide ((0 : Int) ≤ v1))
def zAr (s : Str) (suffix : Str) : Option Bool :=
 (
  if (decide ((suffix.length : Int) ≤ (s.length : Int))) then
   (ck ((s.length : Int) - (suffix.length : Int))).bind fun v5 =>
   (sub s v5 (s.length : Int)).bind fun v8 =>
   some (v8 == suffix)
  else
   some false
 ).bind fun y1 =>
 some y1
def zAK (s : Str) (suffix : Str) : Option Str :=
 (zAr s suffix).bind fun v1 =>
 if v1 then
  (ck ((s.length : Int) - (suffix.length : Int))).bind fun v3 =>
  (sub s 0 v3).bind fun v6 =>
  some v6
 else
  some s
def sTSf (s : Str) (suffix : Str) : Option Str :=
 (zAK s suffix).bind fun v1 =>
 some v1
def zBy (s : (List Int)) (p1_f : (Int → Option Bool)) (K2 : (Unit → Option Int)) : Nat → Int → Option Int
 | 0, _ => none
 | q1+1, v3 =>
  if (decide (v3 < (s.length : Int))) then
   (lAt s v3).bind fun v6 =>
   (p1_f v6).bind fun v7 =>
   if v7 then
    some v3
   else
    (ck (v3 + 1)).bind fun v9 =>
    zBy s p1_f K2 q1 v9
  else
   K2 ()
def zED (s : (List Int)) (p1_f : (Int → Option Bool)) : Option Int :=
 letK (fun (_ : Unit) =>
  some (-1)
 ) fun (K2 : (Unit → Option Int)) =>
 zBy s p1_f K2 fuel 0
def zDW (s : (List Int)) (p1_f : (Int → Option Bool)) : Option Bool :=
 (zED s p1_f).bind fun v1 =>
 some (decide ((0 : Int) ≤ v1))
def zDt (c : Int) : Option Bool :=
 some ((((decide ((97 : Int) ≤ c)) && (decide (c ≤ 122))) || ((decide ((65 : Int) ≤ c)) && (decide (c ≤ 90)))) || ((decide ((48 : Int) ≤ c)) && (decide (c ≤ 57))))
def zDm (c : Int) : Option Bool :=
 (zDt c).bind fun v1 =>
 some (!v1)
def zDL (s : Str) : Option Bool :=
 (
  if (s == []) then
   some true
  else
   (sIdx s 0).bind fun v6 =>
   if (decide (v6 < 97)) then
    some true
   else
    some (decide ((122 : Int) < v6))
 ).bind fun y1 =>
 if y1 then
  some false
 else
  (zDW (zAx s) zDm).bind fun v10 =>
  some (!v10)
def sHSf (s : Str) (suffix : Str) : Option Bool :=
 (zAr s suffix).bind fun v1 =>
 some v1
def zCy (s : Str) : Option Bool :=
 (zDL s).bind fun v1 =>
 some (!v1)
def zDj (sel : Str) : Option (Int × Bool) :=
 if ((sel == []) || (decide ((64 : Int) < (sel.length : Int)))) then
  some (0, false)
 else
  (zDL sel).bind fun v2 =>
  if v2 then
   some (0, true)
  else
   (
    (zA2 sel [43, 45, 42, 47, 92, 60, 62, 61, 126, 44]).bind fun v5 =>
    if (v5 == []) then
     some (decide ((sel.length : Int) ≤ 2))
    else
     some false
   ).bind fun y3 =>
   if y3 then
    some (1, true)
   else
    (sHSf sel [58]).bind fun v7 =>
    if (!v7) then
     some (0, false)
    else
     (sTSf sel [58]).bind fun v8 =>
     (strings_Split v8 [58]).bind fun v9 =>
     (
      if (decide ((8 : Int) < (v9.length : Int))) then
       some true
      else
       (zA1 v9 zCy).bind fun v13 =>
       some v13
     ).bind fun y10 =>
     if y10 then
      some (0, false)
     else
      some ((v9.length : Int), true)
def zDE (sel : Str) (n : Int) : Option Bool :=
 (zDj sel).bind fun v1 =>
 some (v1.2 && (decide (v1.1 = n)))
def zAm (s : (List Str)) (p1_v : Str) (K2 : (Unit → Option Int)) : Nat → Int → Option Int
 | 0, _ => none
 | q1+1, v3 =>
  if (decide (v3 < (s.length : Int))) then
   (lAt s v3).bind fun v6 =>
   if (p1_v == v6) then
    some v3
   else
    (ck (v3 + 1)).bind fun v8 =>
    zAm s p1_v K2 q1 v8
  else
   K2 ()
def zAY (s : (List Str)) (p1_v : Str) : Option Int :=
 letK (fun (_ : Unit) =>
  some (-1)
 ) fun (K2 : (Unit → Option Int)) =>
 zAm s p1_v K2 fuel 0
def zAs (s : (List Str)) (p1_v : Str) : Option Bool :=
 (zAY s p1_v).bind fun v1 =>
 some (decide ((0 : Int) ≤ v1))
def zAy (s : Str) (c : Int) : Option Int :=
 (zFF s c).bind fun v1 =>
 some v1
def strings_IndexByte (s : Str) (c : Int) : Option Int :=
 (zAy s c).bind fun v1 =>
 some v1
def zCA (s : Str) (first : Str) : Option Bool :=
 (
  if (!(s == [])) then
   if (decide ((s.length : Int) ≤ 32)) then
    (sIdx s 0).bind fun v7 =>
    (strings_IndexByte first v7).bind fun v8 =>
    if (decide ((0 : Int) ≤ v8)) then
     (zA2 s [97, 98, 99, 100, 101, 102, 103, 104, 105, 106, 107, 108, 109, 110, 111, 112, 113, 114, 115, 116, 117, 118, 119, 120, 121, 122, 65, 66, 67, 68, 69, 70, 71, 72, 73, 74, 75, 76, 77, 78, 79, 80, 81, 82, 83, 84, 85, 86, 87, 88, 89, 90, 48, 49, 50, 51, 52, 53, 54, 55, 56, 57]).bind fun v10 =>
     some (v10 == [])
    else
     some false
   else
    some false
  else
   some false
 ).bind fun y1 =>
 some y1
def zBI (s : Str) : Option Bool :=
 (
  (zCA s [97, 98, 99, 100, 101, 102, 103, 104, 105, 106, 107, 108, 109, 110, 111, 112, 113, 114, 115, 116, 117, 118, 119, 120, 121, 122]).bind fun v3 =>
  if v3 then
   (zAs ([[115, 101, 108, 102], [115, 117, 112, 101, 114], [110, 105, 108], [116, 114, 117, 101], [102, 97, 108, 115, 101]] : List Str) s).bind fun v5 =>
   some (!v5)
  else
   some false
 ).bind fun y1 =>
 some y1
def zBX (l : (List Str)) (K2 : (Unit → Option Bool)) : Nat → Int → Option Bool
 | 0, _ => none
 | q1+1, v3 =>
  if (decide (v3 < (l.length : Int))) then
   (lAt l v3).bind fun v6 =>
   (
    (zBI v6).bind fun v9 =>
    if (!v9) then
     some true
    else
     (sub l 0 v3).bind fun v13 =>
     (zAs v13 v6).bind fun v14 =>
     some v14
   ).bind fun y7 =>
   if y7 then
    some false
   else
    (ck (v3 + 1)).bind fun v16 =>
    zBX l K2 q1 v16
  else
   K2 ()
def zDJ (l : (List Str)) : Option Bool :=
 letK (fun (_ : Unit) =>
  some true
 ) fun (K2 : (Unit → Option Bool)) =>
 zBX l K2 fuel 0
def zCG (n : tNd) (text : Bool) (names : Bool) (kids : Bool) : Option Bool :=
 some (((text || (n.S == [])) && (names || ((decide (n.N = 0)) && (decide ((n.L.length : Int) = 0))))) && (kids || (decide ((n.Kids.length : Int) = 0))))
def zAO (s : Str) (prefix_ : Str) : Option Bool :=
 (
  if (decide ((prefix_.length : Int) ≤ (s.length : Int))) then
   (sub s 0 (prefix_.length : Int)).bind fun v6 =>
   some (v6 == prefix_)
  else
   some false
 ).bind fun y1 =>
 some y1
def zAP (s : Str) (prefix_ : Str) : Option (Str × Bool) :=
 (zAO s prefix_).bind fun v1 =>
 if (!v1) then
  some (s, false)
 else
  (sub s (prefix_.length : Int) (s.length : Int)).bind fun v4 =>
  some (v4, true)
def strings_CutPrefix (s : Str) (prefix_ : Str) : Option (Str × Bool) :=
 (zAP s prefix_).bind fun v1 =>
 some (v1.1, v1.2)
def zDQ (s : Str) : Option (Str × Bool × Bool) :=
 (strings_CutPrefix s [45]).bind fun v1 =>
 (
  if (v1.1 == []) then
   some true
  else
   if (decide ((700 : Int) < (v1.1.length : Int))) then
    some true
   else
    if (decide ((1 : Int) < (v1.1.length : Int))) then
     (sIdx v1.1 0).bind fun v9 =>
     if (decide (v9 = 48)) then
      some true
     else
      if v1.2 then
       if (v1.1 == [48]) then
        some true
       else
        (zA2 v1.1 [48, 49, 50, 51, 52, 53, 54, 55, 56, 57]).bind fun v13 =>
        some (!(v13 == []))
      else
       (zA2 v1.1 [48, 49, 50, 51, 52, 53, 54, 55, 56, 57]).bind fun v14 =>
       some (!(v14 == []))
    else
     if v1.2 then
      if (v1.1 == [48]) then
       some true
      else
       (zA2 v1.1 [48, 49, 50, 51, 52, 53, 54, 55, 56, 57]).bind fun v17 =>
       some (!(v17 == []))
     else
      (zA2 v1.1 [48, 49, 50, 51, 52, 53, 54, 55, 56, 57]).bind fun v18 =>
      some (!(v18 == []))
 ).bind fun y2 =>
 if y2 then
  some ([], false, false)
 else
  some (v1.1, v1.2, true)
def zDk  : Nat → (List Int) → Option (List Int)
 | 0, _ => none
 | q1+1, v3 =>
  (
   if (decide ((0 : Int) < (v3.length : Int))) then
    (ck ((v3.length : Int) - 1)).bind fun v8 =>
    (lAt v3 v8).bind fun v11 =>
    some (decide (v11 = 0))
   else
    some false
  ).bind fun y4 =>
  if y4 then
   (ck ((v3.length : Int) - 1)).bind fun v13 =>
   (sub v3 0 v13).bind fun v16 =>
   zDk  q1 v16
  else
   some v3
def zHc (m : (List Int)) : Option (List Int) :=
 (
  zDk  fuel m
 ).bind fun y1 =>
 some y1
def zGp (neg : Bool) (m : (List Int)) : Option (large_Num × (Option Int)) :=
 (zHc m).bind fun v1 =>
 if (decide ((64 : Int) < (v1.length : Int))) then
  some ((large_Num.mk false []), (some 4))
 else
  (
   if neg then
    some (decide ((0 : Int) < (v1.length : Int)))
   else
    some false
  ).bind fun y2 =>
  some ((large_Num.mk y2 v1), none)
def zBS (v54 : (List Int)) : Nat → Int → Int → (List Int) → Option (Int × (List Int))
 | 0, _, _, _ => none
 | q3+1, v77, v78, v79 =>
  if (decide (v78 < (v54.length : Int))) then
   (lAt v79 v78).bind fun v86 =>
   (stAt v79 v78 (IntKind.wrap .u32 (IntKind.wrap .u64 (v77 + (IntKind.wrap .u64 ((IntKind.wrap .u64 v86) * 10)))))).bind fun v89 =>
   (shr .u64 (IntKind.wrap .u64 (v77 + (IntKind.wrap .u64 ((IntKind.wrap .u64 v86) * 10)))) 32).bind fun v92 =>
   (ck (v78 + 1)).bind fun v94 =>
   zBS v54 q3 v92 v94 v89
  else
   some (v77, v79)
def zBn (v1 : (Str × Bool × Bool)) : Nat → Int → (List Int) → Option (List Int)
 | 0, _, _ => none
 | q1+1, v53, v54 =>
  if (decide (v53 < ((zAx v1.1).length : Int))) then
   (lAt (zAx v1.1) v53).bind fun v57 =>
   (
    zBS v54 fuel (IntKind.wrap .u64 (IntKind.wrap .u8 (v57 - 48))) 0 v54
   ).bind fun y58 =>
   (
    if (decide ((0 : Int) < y58.1)) then
     (app 4 y58.2 ([(IntKind.wrap .u32 y58.1)] : List Int)).bind fun v100 =>
     some v100
    else
     some y58.2
   ).bind fun y95 =>
   (ck (v53 + 1)).bind fun v102 =>
   zBn v1 q1 v102 y95
  else
   some v54
def zFv (s : Str) : Option (large_Num × (Option Int)) :=
 (zDQ s).bind fun v1 =>
 if (!v1.2.2) then
  some ((large_Num.mk false []), (some 2))
 else
  (
   zBn v1 fuel 0 []
  ).bind fun y2 =>
  (zGp v1.2.1 y2).bind fun v103 =>
  some (v103.1, v103.2)
def zEk (s : Str) : Option Bool :=
 (zFv s).bind fun v1 =>
 some v1.2.isNone
def zI4 (n : tNd) : Option Bool :=
 (
  if (decide (n.K = 0)) then
   some (decide (n.K = 0))
  else
   (
    if (decide (n.K = 1)) then
     some (decide (n.K = 1))
    else
     (
      if (decide (n.K = 2)) then
       some (decide (n.K = 2))
      else
       (
        if (decide (n.K = 3)) then
         some (decide (n.K = 3))
        else
         some (decide (n.K = 4))
       ).bind fun y7 =>
       some y7
     ).bind fun y5 =>
     some y5
   ).bind fun y3 =>
   some y3
 ).bind fun y1 =>
 if y1 then
  (zCG n false false false).bind fun v9 =>
  some v9
 else
  if (decide (n.K = 5)) then
   (
    (zCG n true false false).bind fun v12 =>
    if v12 then
     (zEk n.S).bind fun v14 =>
     some v14
    else
     some false
   ).bind fun y10 =>
   some y10
  else
   if (decide (n.K = 6)) then
    (
     (zCG n true false false).bind fun v17 =>
     if v17 then
      some (decide ((n.S.length : Int) ≤ 1024))
     else
      some false
    ).bind fun y15 =>
    some y15
   else
    if (decide (n.K = 7)) then
     (
      (zCG n true false false).bind fun v21 =>
      if v21 then
       (zBI n.S).bind fun v23 =>
       if v23 then
        some true
       else
        (zCA n.S [65, 66, 67, 68, 69, 70, 71, 72, 73, 74, 75, 76, 77, 78, 79, 80, 81, 82, 83, 84, 85, 86, 87, 88, 89, 90]).bind fun v25 =>
        some v25
      else
       some false
     ).bind fun y19 =>
     some y19
    else
     if (decide (n.K = 8)) then
      (
       (zCG n true false true).bind fun v28 =>
       if v28 then
        (zBI n.S).bind fun v30 =>
        if v30 then
         some (decide ((n.Kids.length : Int) = 1))
        else
         some false
       else
        some false
      ).bind fun y26 =>
      some y26
     else
      if (decide (n.K = 9)) then
       (
        (zCG n true false true).bind fun v34 =>
        if v34 then
         (ck ((n.Kids.length : Int) - 1)).bind fun v37 =>
         (zDE n.S v37).bind fun v38 =>
         some v38
        else
         some false
       ).bind fun y32 =>
       some y32
      else
       if (decide (n.K = 10)) then
        (
         (zCG n false false true).bind fun v41 =>
         if v41 then
          if (decide ((2 : Int) < (n.Kids.length : Int))) then
           some (decide ((n.Kids.length : Int) ≤ 17))
          else
           some false
         else
          some false
        ).bind fun y39 =>
        some y39
       else
        if (decide (n.K = 11)) then
         (
          (zCG n true false true).bind fun v46 =>
          if v46 then
           (zDE n.S (n.Kids.length : Int)).bind fun v48 =>
           some v48
          else
           some false
         ).bind fun y44 =>
         some y44
        else
         if (decide (n.K = 12)) then
          (
           (zCG n false true true).bind fun v51 =>
           if v51 then
            if (decide ((0 : Int) ≤ n.N)) then
             if (decide (n.N ≤ 8)) then
              if (decide (n.N ≤ (n.L.length : Int))) then
               if (decide ((n.L.length : Int) ≤ 16)) then
                (zDJ n.L).bind fun v57 =>
                some v57
               else
                some false
              else
               some false
             else
              some false
            else
             some false
           else
            some false
          ).bind fun y49 =>
          some y49
         else
          if (decide (n.K = 13)) then
           (
            (zCG n false false true).bind fun v60 =>
            if v60 then
             some (decide ((n.Kids.length : Int) = 1))
            else
             some false
           ).bind fun y58 =>
           some y58
          else
           some false
def zEp (k : Int) (super : Bool) (msg : Bool) (up : Bool) : Option Bool :=
 if (decide (k = 1)) then
  some super
 else
  if (decide (k = 11)) then
   some msg
  else
   if (decide (k = 13)) then
    some up
   else
    some (!msg)
def zFj (n : tNd) (i : Int) : Option (Bool × Bool × Bool) :=
 if (decide (n.K = 9)) then
  some ((decide (i = 0)), false, false)
 else
  if (decide (n.K = 10)) then
   some ((decide (i = 0)), (decide ((0 : Int) < i)), false)
  else
   if (decide (n.K = 12)) then
    (ck ((n.Kids.length : Int) - 1)).bind fun v2 =>
    some (false, false, (decide (i = v2)))
   else
    some (false, false, false)
structure R_tWc where
 tWc : tree_walk → Int → Int → Bool → Bool → Bool → Option (Bool × tree_walk)
def zIL (i : Int) (above : Int) (rec : R_tWc) (v16 : tNd) (K18 : (tree_walk → Option (Bool × tree_walk))) : Nat → Int → tree_walk → Option (Bool × tree_walk)
 | 0, _, _ => none
 | q1+1, v32, v33 =>
  if (decide (v32 < (v16.Kids.length : Int))) then
   (lAt v16.Kids v32).bind fun v36 =>
   (zFj v16 v32).bind fun v37 =>
   (
    if (decide (i ≤ v36)) then
     some (true, v33)
    else
     (ck (above + 1)).bind fun v42 =>
     (rec.tWc v33 v36 v42 v37.1 v37.2.1 v37.2.2).bind fun v43 =>
     some ((!v43.1), v43.2)
   ).bind fun y38 =>
   if y38.1 then
    some (false, y38.2)
   else
    (ck (v32 + 1)).bind fun v45 =>
    zIL i above rec v16 K18 q1 v45 y38.2
  else
   K18 v33
def zQI (rec : R_tWc) (p0_w : tree_walk) (i : Int) (above : Int) (super : Bool) (msg : Bool) (up : Bool) : Option (Bool × tree_walk) :=
 (
  if (decide (i < p0_w.next)) then
   some true
  else
   if (decide ((p0_w.l.length : Int) ≤ i)) then
    some true
   else
    if (decide ((64 : Int) ≤ above)) then
     some true
    else
     (lAt p0_w.l i).bind fun v8 =>
     (zI4 v8).bind fun v9 =>
     if (!v9) then
      some true
     else
      (zEp v8.K super msg up).bind fun v13 =>
      some (!v13)
 ).bind fun y1 =>
 if y1 then
  some (false, p0_w)
 else
  (lAt p0_w.l i).bind fun v16 =>
  letK (fun (v46 : tree_walk) =>
   (ck (v46.next + 1)).bind fun v48 =>
   (ck (v48 - 1)).bind fun v50 =>
   some ((decide (i = v50)), (tree_walk.mk v46.l v48))
  ) fun (K18 : (tree_walk → Option (Bool × tree_walk))) =>
  zIL i above rec v16 K18 fuel 0 p0_w
def zHH : Nat → R_tWc
 | 0 => ⟨fun _ _ _ _ _ _ => none⟩
 | n+1 => ⟨zQI (zHH n)⟩
def tWc (p0_w : tree_walk) (i : Int) (above : Int) (super : Bool) (msg : Bool) (up : Bool) : Option (Bool × tree_walk) := (zHH fuel).tWc p0_w i above super msg up
def zCr (m : tMt) (K11 : (tree_walk → Option (Option Int))) : Nat → Int → tree_walk → Option (Option Int)
 | 0, _, _ => none
 | q1+1, v21, v22 =>
  if (decide (v21 < (m.Body.length : Int))) then
   (lAt m.Body v21).bind fun v25 =>
   (ck ((m.Body.length : Int) - 1)).bind fun v27 =>
   (tWc v22 v25 0 false false (decide (v21 = v27))).bind fun v28 =>
   if (!v28.1) then
    some (some 1)
   else
    (ck (v21 + 1)).bind fun v30 =>
    zCr m K11 q1 v30 v28.2
  else
   K11 v22
def zCC (m : tMt) : Option (Option Int) :=
 (zCw ([m.Args, m.Temps] : List (List Str))).bind fun v1 =>
 (
  (zDE m.Sel (m.Args.length : Int)).bind fun v4 =>
  if (!v4) then
   some true
  else
   if (decide ((16 : Int) < (v1.length : Int))) then
    some true
   else
    (zDJ v1).bind fun v7 =>
    if (!v7) then
     some true
    else
     if (decide ((500 : Int) < (m.Nodes.length : Int))) then
      some true
     else
      some (decide ((500 : Int) < (m.Body.length : Int)))
 ).bind fun y2 =>
 if y2 then
  some (some 1)
 else
  letK (fun (v31 : tree_walk) =>
   if (!decide (v31.next = (m.Nodes.length : Int))) then
    some (some 1)
   else
    some none
  ) fun (K11 : (tree_walk → Option (Option Int))) =>
  zCr m K11 fuel 0 (tree_walk.mk m.Nodes 0)
def zCP (s : Str) (is : (Int → Option Bool)) : Nat → Int → Option Int
 | 0, _ => none
 | q1+1, v3 =>
  (
   if (decide (v3 < (s.length : Int))) then
    (sIdx s v3).bind fun v9 =>
    (is v9).bind fun v10 =>
    some v10
   else
    some false
  ).bind fun y4 =>
  if y4 then
   (ck (v3 + 1)).bind fun v12 =>
   zCP s is q1 v12
  else
   some v3
def zFA (s : Str) (is : (Int → Option Bool)) : Option Int :=
 (
  zCP s is fuel 0
 ).bind fun y1 =>
 some y1
def zI7 (c : Int) : Option Bool :=
 (strings_IndexByte [43, 45, 42, 47, 92, 60, 62, 61, 126, 44] c).bind fun v1 =>
 some (decide ((0 : Int) ≤ v1))
def zEd (c : Int) : Option Bool :=
 some (((decide ((97 : Int) ≤ c)) && (decide (c ≤ 122))) || ((decide ((65 : Int) ≤ c)) && (decide (c ≤ 90))))
def zFa (c : Int) : Option Bool :=
 some ((decide ((48 : Int) ≤ c)) && (decide (c ≤ 57)))
def zEX (c : Int) : Option Bool :=
 (
  (zFa c).bind fun v3 =>
  if v3 then
   some true
  else
   (zEd c).bind fun v5 =>
   some v5
 ).bind fun y1 =>
 some y1
def zGd (s : Str) : Option Bool :=
 (
  if (!(s == [])) then
   if (decide ((s.length : Int) ≤ 64)) then
    (sIdx s 0).bind fun v7 =>
    (zEd v7).bind fun v8 =>
    if v8 then
     (zFA s zEX).bind fun v10 =>
     some (decide (v10 = (s.length : Int)))
    else
     some false
   else
    some false
  else
   some false
 ).bind fun y1 =>
 some y1
def zFc (s : Str) : Option Bool :=
 (
  if (!(s == [])) then
   if (decide ((s.length : Int) ≤ 700)) then
    (zFA s zFa).bind fun v5 =>
    if (decide (v5 = (s.length : Int))) then
     (sIdx s 0).bind fun v9 =>
     if (!decide (v9 = 48)) then
      some true
     else
      some (decide ((s.length : Int) = 1))
    else
     some false
   else
    some false
  else
   some false
 ).bind fun y1 =>
 some y1
def zIP (p0_w : lWd) : Option Bool :=
 if (decide (p0_w.At < 0)) then
  some false
 else
  (
   if (decide (p0_w.K = 0)) then
    some (decide (p0_w.K = 0))
   else
    (
     if (decide (p0_w.K = 1)) then
      some (decide (p0_w.K = 1))
     else
      some (decide (p0_w.K = 5))
    ).bind fun y3 =>
    some y3
  ).bind fun y1 =>
  if y1 then
   (zGd p0_w.S).bind fun v5 =>
   some v5
  else
   if (decide (p0_w.K = 2)) then
    (
     if (!(p0_w.S == [])) then
      if (decide ((p0_w.S.length : Int) ≤ 2)) then
       (zFA p0_w.S zI7).bind fun v10 =>
       some (decide (v10 = (p0_w.S.length : Int)))
      else
       some false
     else
      some false
    ).bind fun y6 =>
    some y6
   else
    if (decide (p0_w.K = 3)) then
     (zFc p0_w.S).bind fun v11 =>
     some v11
    else
     if (decide (p0_w.K = 4)) then
      some (decide ((p0_w.S.length : Int) ≤ 1024))
     else
      some ((decide (p0_w.K ≤ 16)) && (p0_w.S == []))
def zF4 (p0_w : lWd) : Option Str :=
 if (decide (p0_w.K = 1)) then
  (cat p0_w.S [58]).bind fun v3 =>
  some v3
 else
  if (decide (p0_w.K = 5)) then
   (cat [58] p0_w.S).bind fun v6 =>
   some v6
  else
   if (decide (p0_w.K = 4)) then
    (strings_ReplaceAll p0_w.S [39] [39, 39]).bind fun v7 =>
    (cat [39] v7).bind fun v10 =>
    (cat v10 [39]).bind fun v13 =>
    some v13
   else
    if (decide (p0_w.K = 6)) then
     some [58, 61]
    else
     (
      if (decide (p0_w.K = 0)) then
       some (decide (p0_w.K = 0))
      else
       (
        if (decide (p0_w.K = 2)) then
         some (decide (p0_w.K = 2))
        else
         some (decide (p0_w.K = 3))
       ).bind fun y16 =>
       some y16
     ).bind fun y14 =>
     if y14 then
      some p0_w.S
     else
      (sub ([94, 59, 46, 40, 41, 91, 93, 124, 123, 125] : Str) (IntKind.wrap .u8 (p0_w.K - 7)) (IntKind.wrap .u8 ((IntKind.wrap .u8 (p0_w.K - 7)) + 1))).bind fun v20 =>
      some v20
def zBU (l : (List lWd)) (K2 : (Unit → Option (Str × (Option Int)))) : Nat → Int → Option (Str × (Option Int))
 | 0, _ => none
 | q1+1, v3 =>
  if (decide (v3 < (l.length : Int))) then
   (lAt l v3).bind fun v6 =>
   (zIP v6).bind fun v7 =>
   if (!v7) then
    some ([], (some 1))
   else
    (ck (v3 + 1)).bind fun v9 =>
    zBU l K2 q1 v9
  else
   K2 ()
def zDd (l : (List lWd)) (K11 : ((List Str) → Option (Str × (Option Int)))) : Nat → Int → (List Str) → Int → Option (Str × (Option Int))
 | 0, _, _, _ => none
 | q2+1, v12, v13, v14 =>
  if (decide (v14 < (l.length : Int))) then
   (lAt l v14).bind fun v17 =>
   (zF4 v17).bind fun v18 =>
   (ck ((v18.length : Int) + 1)).bind fun v20 =>
   (ck (v12 + v20)).bind fun v22 =>
   if (decide ((65537 : Int) < v22)) then
    some ([], (some 4))
   else
    (app 16 v13 ([v18] : List Str)).bind fun v25 =>
    (ck (v14 + 1)).bind fun v27 =>
    zDd l K11 q2 v22 v25 v27
  else
   K11 v13
def zD4 (l : (List lWd)) : Option (Str × (Option Int)) :=
 letK (fun (_ : Unit) =>
  letK (fun (v28 : (List Str)) =>
   (strings_Join v28 [32]).bind fun v29 =>
   some (v29, none)
  ) fun (K11 : ((List Str) → Option (Str × (Option Int)))) =>
  zDd l K11 fuel 0 [] 0
 ) fun (K2 : (Unit → Option (Str × (Option Int)))) =>
 zBU l K2 fuel 0
def zAR (p0_w : pwr) (k : Int) (s : Str) : Option pwr :=
 (app 32 p0_w.l ([(lWd.mk k s 0)] : List lWd)).bind fun v3 =>
 some (pwr.mk p0_w.m v3)
def zCV (kinds : (List Int)) : Nat → Int → (List lWd) → Option (List lWd)
 | 0, _, _ => none
 | q1+1, v12, v13 =>
  if (decide (v12 < (kinds.length : Int))) then
   (lAt kinds v12).bind fun v16 =>
   (app 32 v13 ([(lWd.mk v16 [] 0)] : List lWd)).bind fun v19 =>
   (ck (v12 + 1)).bind fun v21 =>
   zCV kinds q1 v21 v19
  else
   some v13
def zBP (p0_w : pwr) (kinds : (List Int)) : Option pwr :=
 (
  zCV kinds fuel 0 p0_w.l
 ).bind fun y1 =>
 some (pwr.mk p0_w.m y1)
def zCm (l : (List Str)) : Nat → Int → pwr → Option pwr
 | 0, _, _ => none
 | q1+1, v11, v12 =>
  if (decide (v11 < (l.length : Int))) then
   (lAt l v11).bind fun v15 =>
   (zAR v12 0 v15).bind fun v16 =>
   (ck (v11 + 1)).bind fun v18 =>
   zCm l q1 v18 v16
  else
   some v12
def zD8 (p0_w : pwr) (l : (List Str)) : Option pwr :=
 if (decide ((l.length : Int) = 0)) then
  some p0_w
 else
  (zBP p0_w ([14] : List Int)).bind fun v1 =>
  (
   zCm l fuel 0 v1
  ).bind fun y2 =>
  (zBP y2 ([14] : List Int)).bind fun v19 =>
  some v19
def zCU (sel : Str) : Option Int :=
 (zDj sel).bind fun v1 =>
 if (decide (v1.1 = 0)) then
  some 3
 else
  (sHSf sel [58]).bind fun v2 =>
  if v2 then
   some 1
  else
   some 2
def zBR (v13 : (List Str)) : Nat → Int → pwr → Option pwr
 | 0, _, _ => none
 | q1+1, v27, v28 =>
  if (decide (v27 < (v13.length : Int))) then
   (lAt v13 v27).bind fun v31 =>
   (zAR v28 1 v31).bind fun v32 =>
   (lAt v32.m.Args v27).bind fun v35 =>
   (zAR v32 0 v35).bind fun v36 =>
   (ck (v27 + 1)).bind fun v38 =>
   zBR v13 q1 v38 v36
  else
   some v28
def zEw (p0_w : pwr) : Option pwr :=
 (zCU p0_w.m.Sel).bind fun v1 =>
 (
  if (decide (v1 = 3)) then
   (zAR p0_w 0 p0_w.m.Sel).bind fun v4 =>
   some v4
  else
   (
    if (decide (v1 = 2)) then
     (zAR p0_w 2 p0_w.m.Sel).bind fun v7 =>
     (lAt v7.m.Args 0).bind fun v10 =>
     (zAR v7 0 v10).bind fun v11 =>
     some v11
    else
     (sTSf p0_w.m.Sel [58]).bind fun v12 =>
     (strings_Split v12 [58]).bind fun v13 =>
     (
      zBR v13 fuel 0 p0_w
     ).bind fun y14 =>
     some y14
   ).bind fun y5 =>
   some y5
 ).bind fun y2 =>
 some y2
def zE1 (p0_w : pwr) (s : Str) : Option pwr :=
 (strings_CutPrefix s [45]).bind fun v1 =>
 (
  if v1.2 then
   (zAR p0_w 2 [45]).bind fun v4 =>
   some v4
  else
   some p0_w
 ).bind fun y2 =>
 (zAR y2 3 v1.1).bind fun v5 =>
 some v5
def zE7 (p0_w : pwr) (i : Int) (least : Int) : Option (Bool × pwr) :=
 (lAt p0_w.m.Nodes i).bind fun v3 =>
 (
  if (decide (v3.K = 8)) then
   some true
  else
   if (decide (v3.K = 10)) then
    some true
   else
    if (decide (v3.K = 9)) then
     (zCU v3.S).bind fun v9 =>
     some (decide (v9 < least))
    else
     some false
 ).bind fun y4 =>
 some (y4, p0_w)
structure R_pwr_stmts where
 pwr_stmts : pwr → (List Int) → Option pwr
 pwr_node : pwr → Int → Option pwr
 pwr_to : pwr → Int → Str → Option pwr
 pwr_message : pwr → Str → (List Int) → Option pwr
 pwr_cascade : pwr → tNd → Option pwr
 pwr_block : pwr → tNd → Option pwr
 pwr_kid : pwr → Int → Int → Option pwr
def zB7 (l : (List Int)) (rec : R_pwr_stmts) : Nat → Int → pwr → Option pwr
 | 0, _, _ => none
 | q1+1, v13, v14 =>
  if (decide (v13 < (l.length : Int))) then
   (lAt l v13).bind fun v17 =>
   (
    if (decide ((0 : Int) < v13)) then
     (zBP v14 ([9] : List Int)).bind fun v20 =>
     some v20
    else
     some v14
   ).bind fun y18 =>
   (rec.pwr_node y18 v17).bind fun v21 =>
   (ck (v13 + 1)).bind fun v23 =>
   zB7 l rec q1 v23 v21
  else
   some v14
def zEr (rec : R_pwr_stmts) (p0_w : pwr) (l : (List Int)) : Option pwr :=
 (
  zB7 l rec fuel 0 p0_w
 ).bind fun y1 =>
 some y1
def zEb (rec : R_pwr_stmts) (p0_w : pwr) (i : Int) : Option pwr :=
 (lAt p0_w.m.Nodes i).bind fun v3 =>
 (
  if (decide (v3.K = 5)) then
   (zE1 p0_w v3.S).bind fun v6 =>
   some v6
  else
   (
    if (decide (v3.K = 6)) then
     (zAR p0_w 4 v3.S).bind fun v9 =>
     some v9
    else
     (
      if (decide (v3.K = 7)) then
       (zAR p0_w 0 v3.S).bind fun v12 =>
       some v12
      else
       (
        if (decide (v3.K = 8)) then
         (zAR p0_w 0 v3.S).bind fun v15 =>
         (zBP v15 ([6] : List Int)).bind fun v16 =>
         (lAt v3.Kids 0).bind fun v19 =>
         (rec.pwr_node v16 v19).bind fun v20 =>
         some v20
        else
         (
          if (decide (v3.K = 9)) then
           (lAt v3.Kids 0).bind fun v25 =>
           (rec.pwr_to p0_w v25 v3.S).bind fun v26 =>
           (sub v3.Kids 1 (v3.Kids.length : Int)).bind fun v29 =>
           (rec.pwr_message v26 v3.S v29).bind fun v30 =>
           some v30
          else
           (
            if (decide (v3.K = 10)) then
             (rec.pwr_cascade p0_w v3).bind fun v33 =>
             some v33
            else
             (
              if (decide (v3.K = 12)) then
               (rec.pwr_block p0_w v3).bind fun v36 =>
               some v36
              else
               (
                if (decide (v3.K = 13)) then
                 (zBP p0_w ([7] : List Int)).bind fun v39 =>
                 (lAt v3.Kids 0).bind fun v42 =>
                 (rec.pwr_node v39 v42).bind fun v43 =>
                 some v43
                else
                 (lAt ([[115, 101, 108, 102], [115, 117, 112, 101, 114], [110, 105, 108], [116, 114, 117, 101], [102, 97, 108, 115, 101]] : List Str) v3.K).bind fun v46 =>
                 (zAR p0_w 0 v46).bind fun v47 =>
                 some v47
               ).bind fun y37 =>
               some y37
             ).bind fun y34 =>
             some y34
           ).bind fun y31 =>
           some y31
         ).bind fun y21 =>
         some y21
       ).bind fun y13 =>
       some y13
     ).bind fun y10 =>
     some y10
   ).bind fun y7 =>
   some y7
 ).bind fun y4 =>
 some y4
def zHn (rec : R_pwr_stmts) (p0_w : pwr) (i : Int) (sel : Str) : Option pwr :=
 (zCU sel).bind fun v1 =>
 (rec.pwr_kid p0_w i (max (2 : Int) v1)).bind fun v2 =>
 some v2
def zBY (kids : (List Int)) (rec : R_pwr_stmts) (v13 : (List Str)) : Nat → Int → pwr → Option pwr
 | 0, _, _ => none
 | q1+1, v27, v28 =>
  if (decide (v27 < (v13.length : Int))) then
   (lAt v13 v27).bind fun v31 =>
   (zAR v28 1 v31).bind fun v32 =>
   (lAt kids v27).bind fun v35 =>
   (rec.pwr_kid v32 v35 2).bind fun v36 =>
   (ck (v27 + 1)).bind fun v38 =>
   zBY kids rec v13 q1 v38 v36
  else
   some v28
def zDs (rec : R_pwr_stmts) (p0_w : pwr) (sel : Str) (kids : (List Int)) : Option pwr :=
 (zCU sel).bind fun v1 =>
 (
  if (decide (v1 = 3)) then
   (zAR p0_w 0 sel).bind fun v4 =>
   some v4
  else
   (
    if (decide (v1 = 2)) then
     (zAR p0_w 2 sel).bind fun v7 =>
     (lAt kids 0).bind fun v10 =>
     (rec.pwr_kid v7 v10 3).bind fun v11 =>
     some v11
    else
     (sTSf sel [58]).bind fun v12 =>
     (strings_Split v12 [58]).bind fun v13 =>
     (
      zBY kids rec v13 fuel 0 p0_w
     ).bind fun y14 =>
     some y14
   ).bind fun y5 =>
   some y5
 ).bind fun y2 =>
 some y2
def zBk (n : tNd) (rec : R_pwr_stmts) (v3 : (List Int)) : Nat → Int → pwr → Option pwr
 | 0, _, _ => none
 | q1+1, v23, v24 =>
  if (decide (v23 < (v3.length : Int))) then
   (lAt v3 v23).bind fun v27 =>
   (lAt v24.m.Nodes v27).bind fun v30 =>
   (
    if (decide (v23 = 0)) then
     (lAt n.Kids 0).bind fun v35 =>
     (rec.pwr_to v24 v35 v30.S).bind fun v36 =>
     some v36
    else
     (zBP v24 ([8] : List Int)).bind fun v37 =>
     some v37
   ).bind fun y31 =>
   (rec.pwr_message y31 v30.S v30.Kids).bind fun v38 =>
   (ck (v23 + 1)).bind fun v40 =>
   zBk n rec v3 q1 v40 v38
  else
   some v24
def zDr (rec : R_pwr_stmts) (p0_w : pwr) (n : tNd) : Option pwr :=
 (sub n.Kids 1 (n.Kids.length : Int)).bind fun v3 =>
 (
  zBk n rec v3 fuel 0 p0_w
 ).bind fun y4 =>
 some y4
def zCK (v4 : (List Str)) : Nat → Int → pwr → Option pwr
 | 0, _, _ => none
 | q1+1, v14, v15 =>
  if (decide (v14 < (v4.length : Int))) then
   (lAt v4 v14).bind fun v18 =>
   (zAR v15 5 v18).bind fun v19 =>
   (ck (v14 + 1)).bind fun v21 =>
   zCK v4 q1 v21 v19
  else
   some v15
def zEj (rec : R_pwr_stmts) (p0_w : pwr) (n : tNd) : Option pwr :=
 (zBP p0_w ([12] : List Int)).bind fun v1 =>
 (sub n.L 0 n.N).bind fun v4 =>
 (
  zCK v4 fuel 0 v1
 ).bind fun y5 =>
 (
  if (decide ((0 : Int) < n.N)) then
   (zBP y5 ([14] : List Int)).bind fun v24 =>
   some v24
  else
   some y5
 ).bind fun y22 =>
 (sub n.L n.N (n.L.length : Int)).bind fun v27 =>
 (zD8 y22 v27).bind fun v28 =>
 (rec.pwr_stmts v28 n.Kids).bind fun v29 =>
 (zBP v29 ([13] : List Int)).bind fun v30 =>
 some v30
def zFX (rec : R_pwr_stmts) (p0_w : pwr) (i : Int) (least : Int) : Option pwr :=
 (zE7 p0_w i least).bind fun v1 =>
 if (!v1.1) then
  (rec.pwr_node v1.2 i).bind fun v2 =>
  some v2
 else
  (zBP v1.2 ([10] : List Int)).bind fun v3 =>
  (rec.pwr_node v3 i).bind fun v4 =>
  (zBP v4 ([11] : List Int)).bind fun v5 =>
  some v5
def zAw : Nat → R_pwr_stmts
 | 0 => ⟨fun _ _ => none, fun _ _ => none, fun _ _ _ => none, fun _ _ _ => none, fun _ _ => none, fun _ _ => none, fun _ _ _ => none⟩
 | n+1 => ⟨zEr (zAw n), zEb (zAw n), zHn (zAw n), zDs (zAw n), zDr (zAw n), zEj (zAw n), zFX (zAw n)⟩
def pwr_stmts (p0_w : pwr) (l : (List Int)) : Option pwr := (zAw fuel).pwr_stmts p0_w l
def pwr_node (p0_w : pwr) (i : Int) : Option pwr := (zAw fuel).pwr_node p0_w i
def pwr_to (p0_w : pwr) (i : Int) (sel : Str) : Option pwr := (zAw fuel).pwr_to p0_w i sel
def pwr_message (p0_w : pwr) (sel : Str) (kids : (List Int)) : Option pwr := (zAw fuel).pwr_message p0_w sel kids
def pwr_cascade (p0_w : pwr) (n : tNd) : Option pwr := (zAw fuel).pwr_cascade p0_w n
def pwr_block (p0_w : pwr) (n : tNd) : Option pwr := (zAw fuel).pwr_block p0_w n
def pwr_kid (p0_w : pwr) (i : Int) (least : Int) : Option pwr := (zAw fuel).pwr_kid p0_w i least
def zDK (m : tMt) : Option (List lWd) :=
 (zEw (pwr.mk m [])).bind fun v1 =>
 (zBP v1 ([15] : List Int)).bind fun v2 =>
 (zD8 v2 m.Temps).bind fun v3 =>
 (pwr_stmts v3 m.Body).bind fun v4 =>
 (zBP v4 ([16] : List Int)).bind fun v5 =>
 some v5.l
def zEI (m : tMt) : Option (Str × (Option Int)) :=
 (zCC m).bind fun v1 =>
 if v1.isSome then
  some ([], v1)
 else
  (zDK m).bind fun v2 =>
  (zD4 v2).bind fun v3 =>
  some (v3.1, v3.2)
def zCp (s : (List tCl)) (p1_f : (tCl → Option Bool)) (K2 : (Unit → Option Int)) : Nat → Int → Option Int
 | 0, _ => none
 | q1+1, v3 =>
  if (decide (v3 < (s.length : Int))) then
   (lAt s v3).bind fun v6 =>
   (p1_f v6).bind fun v7 =>
   if v7 then
    some v3
   else
    (ck (v3 + 1)).bind fun v9 =>
    zCp s p1_f K2 q1 v9
  else
   K2 ()
def zGh (s : (List tCl)) (p1_f : (tCl → Option Bool)) : Option Int :=
 letK (fun (_ : Unit) =>
  some (-1)
 ) fun (K2 : (Unit → Option Int)) =>
 zCp s p1_f K2 fuel 0
def zEY (s : (List tCl)) (p1_f : (tCl → Option Bool)) : Option Bool :=
 (zGh s p1_f).bind fun v1 =>
 some (decide ((0 : Int) ≤ v1))
def zE9 (s : Str) : Option Bool :=
 (zBI s).bind fun v1 =>
 some (!v1)
def zCd (s : (List tMt)) (p1_f : (tMt → Option Bool)) (K2 : (Unit → Option Int)) : Nat → Int → Option Int
 | 0, _ => none
 | q1+1, v3 =>
  if (decide (v3 < (s.length : Int))) then
   (lAt s v3).bind fun v6 =>
   (p1_f v6).bind fun v7 =>
   if v7 then
    some v3
   else
    (ck (v3 + 1)).bind fun v9 =>
    zCd s p1_f K2 q1 v9
  else
   K2 ()
def zGl (s : (List tMt)) (p1_f : (tMt → Option Bool)) : Option Int :=
 letK (fun (_ : Unit) =>
  some (-1)
 ) fun (K2 : (Unit → Option Int)) =>
 zCd s p1_f K2 fuel 0
def zEe (s : (List tMt)) (p1_f : (tMt → Option Bool)) : Option Bool :=
 (zGl s p1_f).bind fun v1 =>
 some (decide ((0 : Int) ≤ v1))
def zE5 (m : tMt) : Option Bool :=
 (zCC m).bind fun v1 =>
 some v1.isSome
def zIX (c : tCl) : Option Bool :=
 (
  (zCA c.Name [65, 66, 67, 68, 69, 70, 71, 72, 73, 74, 75, 76, 77, 78, 79, 80, 81, 82, 83, 84, 85, 86, 87, 88, 89, 90]).bind fun v3 =>
  if (!v3) then
   some true
  else
   (zCA c.Super [65, 66, 67, 68, 69, 70, 71, 72, 73, 74, 75, 76, 77, 78, 79, 80, 81, 82, 83, 84, 85, 86, 87, 88, 89, 90]).bind fun v5 =>
   if (!v5) then
    some true
   else
    if (decide ((16 : Int) < (c.Vars.length : Int))) then
     some true
    else
     some (decide ((256 : Int) < (c.Methods.length : Int)))
 ).bind fun y1 =>
 if y1 then
  some false
 else
  (
   (zA1 c.Vars zE9).bind fun v10 =>
   if (!v10) then
    (zEe c.Methods zE5).bind fun v12 =>
    some (!v12)
   else
    some false
  ).bind fun y8 =>
  some y8
def zCM (c : tCl) : Option Bool :=
 (zIX c).bind fun v1 =>
 some (!v1)
def zCX (l : (List tCl)) : Option (Option Int) :=
 (
  if (decide ((64 : Int) < (l.length : Int))) then
   some true
  else
   (zEY l zCM).bind fun v4 =>
   some v4
 ).bind fun y1 =>
 if y1 then
  some (some 1)
 else
  some none
def zBJ (slices : (List (List lWd))) : Nat → Int → Int → Option Int
 | 0, _, _ => none
 | q1+1, v3, v4 =>
  if (decide (v4 < (slices.length : Int))) then
   (lAt slices v4).bind fun v7 =>
   (ck (v3 + (v7.length : Int))).bind fun v9 =>
   (
    if (decide (v9 < 0)) then
     none
    else
     some ()
   ).bind fun y10 =>
   (ck (v4 + 1)).bind fun v13 =>
   zBJ slices q1 v9 v13
  else
   some v3
def zBN (slices : (List (List lWd))) : Nat → (List lWd) → Int → Option (List lWd)
 | 0, _, _ => none
 | q2+1, v17, v18 =>
  if (decide (v18 < (slices.length : Int))) then
   (lAt slices v18).bind fun v21 =>
   (app 32 v17 v21).bind fun v24 =>
   (ck (v18 + 1)).bind fun v26 =>
   zBN slices q2 v24 v26
  else
   some v17
def zFi (slices : (List (List lWd))) : Option (List lWd) :=
 (
  zBJ slices fuel 0 0
 ).bind fun y1 =>
 (zEQ y1).bind fun v14 =>
 (
  zBN slices fuel v14 0
 ).bind fun y15 =>
 some y15
def zBw (v39 : tCl) : Nat → Int → (List lWd) → Option (List lWd)
 | 0, _, _ => none
 | q3+1, v55, v56 =>
  if (decide (v55 < (v39.Methods.length : Int))) then
   (lAt v39.Methods v55).bind fun v59 =>
   (zDK v59).bind fun v60 =>
   (zFi ([v56, v60] : List (List lWd))).bind fun v61 =>
   (ck (v55 + 1)).bind fun v63 =>
   zBw v39 q3 v63 v61
  else
   some v56
def zA9 (l : (List tCl)) (K3 : (pwr → Option (Str × (Option Int)))) : Nat → Int → pwr → Option (Str × (Option Int))
 | 0, _, _ => none
 | q1+1, v35, v36 =>
  if (decide (v35 < (l.length : Int))) then
   (lAt l v35).bind fun v39 =>
   (zAR v36 0 v39.Name).bind fun v40 =>
   (zAR v40 2 [60]).bind fun v41 =>
   (zAR v41 0 v39.Super).bind fun v42 =>
   (zD8 v42 v39.Vars).bind fun v43 =>
   (zBP v43 ([15] : List Int)).bind fun v44 =>
   (
    zBw v39 fuel 0 v44.l
   ).bind fun y45 =>
   (zBP (pwr.mk v44.m y45) ([16] : List Int)).bind fun v64 =>
   if (decide ((65536 : Int) < (v64.l.length : Int))) then
    some ([], (some 4))
   else
    (ck (v35 + 1)).bind fun v66 =>
    zA9 l K3 q1 v66 v64
  else
   K3 v36
def zDf (l : (List tCl)) : Option (Str × (Option Int)) :=
 (zCX l).bind fun v1 =>
 if v1.isSome then
  some ([], v1)
 else
  letK (fun (v67 : pwr) =>
   (zD4 v67.l).bind fun v68 =>
   some (v68.1, v68.2)
  ) fun (K3 : (pwr → Option (Str × (Option Int)))) =>
  zA9 l K3 fuel 0 (pwr.mk (tMt.mk [] [] [] [] []) [])
def zFh  : Option Bool :=
 (zEI (tMt.mk [102, 111, 111] [] [] ([(tNd.mk 7 [120] 0 [] []), (tNd.mk 5 [49] 0 [] []), (tNd.mk 5 [45, 50] 0 [] []), (tNd.mk 9 [43] 0 [] ([1, 2] : List Int)), (tNd.mk 9 [43] 0 [] ([0, 3] : List Int)), (tNd.mk 13 [] 0 [] ([4] : List Int))] : List tNd) ([5] : List Int))).bind fun v1 =>
 (zEI (tMt.mk [] [] [] [] [])).bind fun v2 =>
 (zDf ([(tCl.mk [70, 111, 111] [66, 97, 114] ([[97]] : List Str) ([(tMt.mk [102, 111, 111] [] [] ([(tNd.mk 7 [120] 0 [] []), (tNd.mk 5 [49] 0 [] []), (tNd.mk 5 [45, 50] 0 [] []), (tNd.mk 9 [43] 0 [] ([1, 2] : List Int)), (tNd.mk 9 [43] 0 [] ([0, 3] : List Int)), (tNd.mk 13 [] 0 [] ([4] : List Int))] : List tNd) ([5] : List Int))] : List tMt))] : List tCl)).bind fun v3 =>
 (
  if v1.2.isNone then
   if (v1.1 == [102, 111, 111, 32, 123, 32, 94, 32, 120, 32, 43, 32, 40, 32, 49, 32, 43, 32, 45, 32, 50, 32, 41, 32, 125]) then
    (zIY v2.2).bind fun v8 =>
    if (decide (v8 = 1)) then
     if v3.2.isNone then
      some (v3.1 == [70, 111, 111, 32, 60, 32, 66, 97, 114, 32, 124, 32, 97, 32, 124, 32, 123, 32, 102, 111, 111, 32, 123, 32, 94, 32, 120, 32, 43, 32, 40, 32, 49, 32, 43, 32, 45, 32, 50, 32, 41, 32, 125, 32, 125])
     else
      some false
    else
     some false
   else
    some false
  else
   some false
 ).bind fun y4 =>
 some y4
def zAT (m : rMt) : Nat → Int → (List tNd) → Option (List tNd)
 | 0, _, _ => none
 | q1+1, v27, v28 =>
  if (decide (v27 < (m.Nodes.length : Int))) then
   (lAt m.Nodes v27).bind fun v31 =>
   (app 16 ([] : List Str) v31.L).bind fun v34 =>
   (app 8 ([] : List Int) v31.Kids).bind fun v37 =>
   (app 80 v28 ([(tNd.mk v31.K v31.S v31.N v34 v37)] : List tNd)).bind fun v40 =>
   (ck (v27 + 1)).bind fun v42 =>
   zAT m q1 v42 v40
  else
   some v28
def zCx (m : rMt) : Option tMt :=
 (app 16 ([] : List Str) m.Args).bind fun v3 =>
 (app 16 ([] : List Str) m.Temps).bind fun v6 =>
 (app 8 ([] : List Int) m.Body).bind fun v9 =>
 (
  zAT m fuel 0 []
 ).bind fun y10 =>
 some (tMt.mk m.Sel v3 v6 y10 v9)
def zD7 (c : Int) (K2 : (Unit → Option Bool)) : Nat → Int → Option Bool
 | 0, _ => none
 | q1+1, v3 =>
  if (decide (v3 < 10)) then
   (sIdx [43, 45, 42, 47, 92, 60, 62, 61, 126, 44] v3).bind fun v6 =>
   if (decide (v6 = c)) then
    some true
   else
    (ck (v3 + 1)).bind fun v8 =>
    zD7 c K2 q1 v8
  else
   K2 ()
def zEa (c : Int) : Option Bool :=
 letK (fun (_ : Unit) =>
  some false
 ) fun (K2 : (Unit → Option Bool)) =>
 zD7 c K2 fuel 0
def zCJ (c : Int) : Option Bool :=
 some ((decide ((97 : Int) ≤ c)) && (decide (c ≤ 122)))
def zBr (s : Str) (K15 : (Int → Bool → Option (Int × Bool))) : Nat → Int → Bool → Int → Option (Int × Bool)
 | 0, _, _, _ => none
 | q1+1, v16, v17, v18 =>
  if (decide (v18 < (s.length : Int))) then
   letK (fun (v35 : Int) (v36 : Bool) =>
    (ck (v18 + 1)).bind fun v38 =>
    zBr s K15 q1 v35 v36 v38
   ) fun (K20 : (Int → Bool → Option (Int × Bool))) =>
   (sIdx s v18).bind fun v23 =>
   if v17 then
    (zCJ v23).bind fun v24 =>
    if (!v24) then
     some (0, false)
    else
     K20 v16 false
   else
    if (decide (v23 = 58)) then
     (ck (v16 + 1)).bind fun v26 =>
     K20 v26 true
    else
     (
      (zCJ v23).bind fun v29 =>
      if (!v29) then
       if (decide (v23 < 65)) then
        if (decide (v23 < 48)) then
         some true
        else
         some (decide ((57 : Int) < v23))
       else
        if (decide ((90 : Int) < v23)) then
         if (decide (v23 < 48)) then
          some true
         else
          some (decide ((57 : Int) < v23))
        else
         some false
      else
       some false
     ).bind fun y27 =>
     if y27 then
      some (0, false)
     else
      K20 v16 v17
  else
   K15 v16 v17
def zDD (s : Str) : Option (Int × Bool) :=
 if ((decide ((s.length : Int) < 1)) || (decide ((64 : Int) < (s.length : Int)))) then
  some (0, false)
 else
  (sIdx s 0).bind fun v4 =>
  (zEa v4).bind fun v5 =>
  if v5 then
   (
    if (decide ((s.length : Int) = 1)) then
     some true
    else
     if (decide ((s.length : Int) = 2)) then
      (sIdx s 1).bind fun v12 =>
      (zEa v12).bind fun v13 =>
      some v13
     else
      some false
   ).bind fun y6 =>
   if y6 then
    some (1, true)
   else
    some (0, false)
  else
   letK (fun (v39 : Int) (v40 : Bool) =>
    if (decide (v39 = 0)) then
     some (0, true)
    else
     if ((!v40) || (decide ((8 : Int) < v39))) then
      some (0, false)
     else
      some (v39, true)
   ) fun (K15 : (Int → Bool → Option (Int × Bool))) =>
   zBr s K15 fuel 0 true 0
def zDa (sel : Str) (n : Int) : Option Bool :=
 (zDD sel).bind fun v1 =>
 some (v1.2 && (decide (v1.1 = n)))
def zBH (s : Str) (K12 : (Unit → Option Bool)) : Nat → Int → Option Bool
 | 0, _ => none
 | q1+1, v13 =>
  if (decide (v13 < (s.length : Int))) then
   (
    (sIdx s v13).bind fun v18 =>
    if (decide (v18 < 97)) then
     if (decide (v18 < 65)) then
      if (decide (v18 < 48)) then
       some true
      else
       some (decide ((57 : Int) < v18))
     else
      if (decide ((90 : Int) < v18)) then
       if (decide (v18 < 48)) then
        some true
       else
        some (decide ((57 : Int) < v18))
      else
       some false
    else
     if (decide ((122 : Int) < v18)) then
      if (decide (v18 < 65)) then
       if (decide (v18 < 48)) then
        some true
       else
        some (decide ((57 : Int) < v18))
      else
       if (decide ((90 : Int) < v18)) then
        if (decide (v18 < 48)) then
         some true
        else
         some (decide ((57 : Int) < v18))
       else
        some false
     else
      some false
   ).bind fun y14 =>
   if y14 then
    some false
   else
    (ck (v13 + 1)).bind fun v56 =>
    zBH s K12 q1 v56
  else
   K12 ()
def zB4 (s : Str) (lo : Int) (hi : Int) : Option Bool :=
 (
  if (decide ((s.length : Int) < 1)) then
   some true
  else
   if (decide ((32 : Int) < (s.length : Int))) then
    some true
   else
    (sIdx s 0).bind fun v7 =>
    if (decide (v7 < lo)) then
     some true
    else
     some (decide (hi < v7))
 ).bind fun y1 =>
 if y1 then
  some false
 else
  letK (fun (_ : Unit) =>
   some true
  ) fun (K12 : (Unit → Option Bool)) =>
  zBH s K12 fuel 0
def zDR (s : Str) : Option Bool :=
 (
  (zB4 s 97 122).bind fun v3 =>
  if v3 then
   if (!(s == [115, 101, 108, 102])) then
    if (!(s == [115, 117, 112, 101, 114])) then
     if (!(s == [110, 105, 108])) then
      if (!(s == [116, 114, 117, 101])) then
       some (!(s == [102, 97, 108, 115, 101]))
      else
       some false
     else
      some false
    else
     some false
   else
    some false
  else
   some false
 ).bind fun y1 =>
 some y1
def zBM (l : (List Str)) (v3 : Int) (v6 : Str) (K9 : (Unit → Option Bool)) : Nat → Int → Option Bool
 | 0, _ => none
 | q2+1, v10 =>
  if (decide (v10 < v3)) then
   (lAt l v10).bind fun v13 =>
   if (v13 == v6) then
    some false
   else
    (ck (v10 + 1)).bind fun v17 =>
    zBM l v3 v6 K9 q2 v17
  else
   K9 ()
def zCi (l : (List Str)) (K2 : (Unit → Option Bool)) : Nat → Int → Option Bool
 | 0, _ => none
 | q1+1, v3 =>
  if (decide (v3 < (l.length : Int))) then
   (lAt l v3).bind fun v6 =>
   (zDR v6).bind fun v7 =>
   if (!v7) then
    some false
   else
    letK (fun (_ : Unit) =>
     (ck (v3 + 1)).bind fun v19 =>
     zCi l K2 q1 v19
    ) fun (K9 : (Unit → Option Bool)) =>
    zBM l v3 v6 K9 fuel 0
  else
   K2 ()
def zDg (l : (List Str)) (most : Int) : Option Bool :=
 if (decide (most < (l.length : Int))) then
  some false
 else
  letK (fun (_ : Unit) =>
   some true
  ) fun (K2 : (Unit → Option Bool)) =>
  zCi l K2 fuel 0
def zDh  : Nat → (List Int) → Option (List Int)
 | 0, _ => none
 | q1+1, v3 =>
  (
   if (decide ((0 : Int) < (v3.length : Int))) then
    (ck ((v3.length : Int) - 1)).bind fun v8 =>
    (lAt v3 v8).bind fun v11 =>
    some (decide (v11 = 0))
   else
    some false
  ).bind fun y4 =>
  if y4 then
   (ck ((v3.length : Int) - 1)).bind fun v13 =>
   (sub v3 0 v13).bind fun v16 =>
   zDh  q1 v16
  else
   some v3
def zG9 (p0_b : (List Int)) : Option (List Int) :=
 (
  zDh  fuel p0_b
 ).bind fun y1 =>
 some y1
def zBO (p0_b : (List Int)) : Nat → Int → (List Int) → Option (List Int)
 | 0, _, _ => none
 | q1+1, v38, v39 =>
  if (decide (v38 < (p0_b.length : Int))) then
   (rem v38 32).bind fun v42 =>
   (
    if (decide (v42 = 0)) then
     (app 4 v39 ([0] : List Int)).bind fun v48 =>
     some v48
    else
     some v39
   ).bind fun y43 =>
   (quo .i64 v38 32).bind fun v51 =>
   (lAt y43 v51).bind fun v60 =>
   (lAt p0_b v38).bind fun v63 =>
   (shl .u32 (IntKind.wrap .u32 v63) (IntKind.wrap .u64 v42)).bind fun v68 =>
   (stAt y43 v51 (IntKind.wrap .u32 (v60 + v68))).bind fun v71 =>
   (ck (v38 + 1)).bind fun v73 =>
   zBO p0_b q1 v73 v71
  else
   some v39
def zFq (p0_b : (List Int)) : Option (List Int) :=
 (
  zBO p0_b fuel 0 []
 ).bind fun y1 =>
 some y1
def zGn (neg : Bool) (p1_b : (List Int)) : Option (ref03_Num × Int) :=
 (zG9 p1_b).bind fun v1 =>
 (zFq v1).bind fun v2 =>
 if (decide ((64 : Int) < (v2.length : Int))) then
  some ((ref03_Num.mk false []), 4)
 else
  (
   if neg then
    some (decide ((0 : Int) < (v2.length : Int)))
   else
    some false
  ).bind fun y3 =>
  some ((ref03_Num.mk y3 v2), 0)
def zBt (y7 : Str) (K24 : ((List Int) → Option (ref03_Num × Int))) : Nat → (List Int) → Int → Option (ref03_Num × Int)
 | 0, _, _ => none
 | q1+1, v25, v26 =>
  if (decide (v26 < (y7.length : Int))) then
   (
    (sIdx y7 v26).bind fun v31 =>
    if (decide (v31 < 48)) then
     some true
    else
     some (decide ((57 : Int) < v31))
   ).bind fun y27 =>
   if y27 then
    some ((ref03_Num.mk false []), 2)
   else
    (sIdx y7 v26).bind fun v37 =>
    (app 1 v25 ([(IntKind.wrap .u8 (v37 - 48))] : List Int)).bind fun v40 =>
    (ck (v26 + 1)).bind fun v42 =>
    zBt y7 K24 q1 v40 v42
  else
   K24 v25
def zBu (v78 : (List Int)) : Nat → Int → (List Int) → Int → Option (Int × (List Int))
 | 0, _, _, _ => none
 | q4+1, v82, v83, v84 =>
  if (decide (v84 < (v78.length : Int))) then
   (lAt v78 v84).bind fun v87 =>
   (
    if (decide ((0 : Int) < (v83.length : Int))) then
     some true
    else
     (quo .u8 (IntKind.wrap .u8 ((IntKind.wrap .u8 (10 * v82)) + v87)) 2).bind fun v93 =>
     some (decide ((0 : Int) < v93))
   ).bind fun y88 =>
   (
    if y88 then
     (quo .u8 (IntKind.wrap .u8 ((IntKind.wrap .u8 (10 * v82)) + v87)) 2).bind fun v98 =>
     (app 1 v83 ([v98] : List Int)).bind fun v101 =>
     some v101
    else
     some v83
   ).bind fun y94 =>
   (rem (IntKind.wrap .u8 ((IntKind.wrap .u8 (10 * v82)) + v87)) 2).bind fun v104 =>
   (ck (v84 + 1)).bind fun v106 =>
   zBu v78 q4 v104 y94 v106
  else
   some (v82, v83)
def zBW  : Nat → (List Int) → (List Int) → Option (List Int)
 | 0, _, _ => none
 | q2+1, v78, v79 =>
  if (decide ((0 : Int) < (v78.length : Int))) then
   (
    zBu v78 fuel 0 [] 0
   ).bind fun y80 =>
   (app 1 v79 ([y80.1] : List Int)).bind fun v109 =>
   zBW  q2 y80.2 v109
  else
   some v79
def zEn (s : Str) : Option (ref03_Num × Int) :=
 (
  if (decide ((0 : Int) < (s.length : Int))) then
   (sIdx s 0).bind fun v6 =>
   some (decide (v6 = 45))
  else
   some false
 ).bind fun y1 =>
 (
  if y1 then
   (sub s 1 (s.length : Int)).bind fun v11 =>
   some v11
  else
   some s
 ).bind fun y7 =>
 (
  if (decide ((y7.length : Int) < 1)) then
   some true
  else
   if (decide ((700 : Int) < (y7.length : Int))) then
    some true
   else
    if (decide ((1 : Int) < (y7.length : Int))) then
     (sIdx y7 0).bind fun v19 =>
     if (decide (v19 = 48)) then
      some true
     else
      if y1 then
       some (y7 == [48])
      else
       some false
    else
     if y1 then
      some (y7 == [48])
     else
      some false
 ).bind fun y12 =>
 if y12 then
  some ((ref03_Num.mk false []), 2)
 else
  letK (fun (v43 : (List Int)) =>
   (
    zBW  fuel v43 []
   ).bind fun y44 =>
   (zGn y1 y44).bind fun v110 =>
   some (v110.1, v110.2)
  ) fun (K24 : ((List Int) → Option (ref03_Num × Int))) =>
  zBt y7 K24 fuel [] 0
def zEm (n : rNd) : Option Bool :=
 if (((!decide (n.K = 12)) && ((!decide (n.N = 0)) || (decide ((0 : Int) < (n.L.length : Int))))) || (decide ((13 : Int) < n.K))) then
  some false
 else
  letK (fun (_ : Unit) =>
   if ((decide (n.K < 8)) && (decide ((0 : Int) < (n.Kids.length : Int)))) then
    some false
   else
    if (decide (n.K = 5)) then
     (zEn n.S).bind fun v6 =>
     some (decide (v6.2 = 0))
    else
     if (decide (n.K = 6)) then
      some (decide ((n.S.length : Int) ≤ 1024))
     else
      if (decide (n.K = 7)) then
       (
        (zDR n.S).bind fun v9 =>
        if v9 then
         some true
        else
         (zB4 n.S 65 90).bind fun v11 =>
         some v11
       ).bind fun y7 =>
       some y7
      else
       if (decide (n.K = 8)) then
        (
         if (decide ((n.Kids.length : Int) = 1)) then
          (zDR n.S).bind fun v15 =>
          some v15
         else
          some false
        ).bind fun y12 =>
        some y12
       else
        if (decide (n.K = 9)) then
         (ck ((n.Kids.length : Int) - 1)).bind fun v17 =>
         (zDa n.S v17).bind fun v18 =>
         some v18
        else
         if (decide (n.K = 10)) then
          some ((decide ((3 : Int) ≤ (n.Kids.length : Int))) && (decide ((n.Kids.length : Int) ≤ 17)))
         else
          if (decide (n.K = 11)) then
           (zDa n.S (n.Kids.length : Int)).bind fun v21 =>
           some v21
          else
           if (decide (n.K = 12)) then
            (
             if (decide ((0 : Int) ≤ n.N)) then
              if (decide (n.N ≤ 8)) then
               if (decide (n.N ≤ (n.L.length : Int))) then
                (zDg n.L 16).bind fun v27 =>
                some v27
               else
                some false
              else
               some false
             else
              some false
            ).bind fun y22 =>
            some y22
           else
            some ((decide (n.K < 8)) || (decide ((n.Kids.length : Int) = 1)))
  ) fun (K4 : (Unit → Option Bool)) =>
  if (((decide (n.K < 5)) || (decide (n.K = 10))) || (decide ((12 : Int) ≤ n.K))) then
   if (!(n.S == [])) then
    some false
   else
    K4 ()
  else
   K4 ()
def zBm (k : Int) (above : Int) (at_ : Int) (of : Int) : Option Bool :=
 if (decide (k = 1)) then
  some (((decide (above = 9)) || (decide (above = 10))) && (decide (at_ = 0)))
 else
  if (decide (k = 13)) then
   (
    if (decide ((12 : Int) ≤ above)) then
     if (!decide (above = 13)) then
      (ck (of - 1)).bind fun v9 =>
      some (decide (at_ = v9))
     else
      some false
    else
     some false
   ).bind fun y4 =>
   some y4
  else
   some ((decide (k = 11)) == ((decide (above = 10)) && (decide ((0 : Int) < at_))))
def zCI (m : rMt) (v16 : (List Int)) (v17 : (List Int)) (v21 : rNd) (K27 : (Int → Option Bool)) : Nat → Int → Int → Option Bool
 | 0, _, _ => none
 | q2+1, v28, v29 =>
  if (decide (v29 < (v21.Kids.length : Int))) then
   (ck ((v16.length : Int) - (v21.Kids.length : Int))).bind fun v31 =>
   (ck (v31 + v29)).bind fun v33 =>
   (lAt v16 v33).bind fun v36 =>
   (
    (lAt v21.Kids v29).bind fun v41 =>
    if (!decide (v41 = v36)) then
     some true
    else
     (lAt m.Nodes v36).bind fun v45 =>
     (zBm v45.K v21.K v29 (v21.Kids.length : Int)).bind fun v46 =>
     some (!v46)
   ).bind fun y37 =>
   if y37 then
    some false
   else
    (lAt v17 v36).bind fun v49 =>
    (ck (v29 + 1)).bind fun v51 =>
    zCI m v16 v17 v21 K27 q2 (max v28 v49) v51
  else
   K27 v28
def zCa (m : rMt) (K15 : ((List Int) → Option Bool)) : Nat → (List Int) → (List Int) → Int → Option Bool
 | 0, _, _, _ => none
 | q1+1, v16, v17, v18 =>
  if (decide (v18 < (m.Nodes.length : Int))) then
   (lAt m.Nodes v18).bind fun v21 =>
   (
    (zEm v21).bind fun v24 =>
    if (!v24) then
     some true
    else
     some (decide ((v16.length : Int) < (v21.Kids.length : Int)))
   ).bind fun y22 =>
   if y22 then
    some false
   else
    letK (fun (v52 : Int) =>
     if (decide ((64 : Int) ≤ v52)) then
      some false
     else
      (ck (v52 + 1)).bind fun v54 =>
      (app 8 v17 ([v54] : List Int)).bind fun v57 =>
      (ck ((v16.length : Int) - (v21.Kids.length : Int))).bind fun v59 =>
      (sub v16 0 v59).bind fun v62 =>
      (app 8 ([] : List Int) v62).bind fun v65 =>
      (app 8 v65 ([v18] : List Int)).bind fun v68 =>
      (ck (v18 + 1)).bind fun v70 =>
      zCa m K15 q1 v68 v57 v70
    ) fun (K27 : (Int → Option Bool)) =>
    zCI m v16 v17 v21 K27 fuel 0 0
  else
   K15 v16
def zB8 (m : rMt) (v71 : (List Int)) (K73 : (Unit → Option Bool)) : Nat → Int → Option Bool
 | 0, _ => none
 | q3+1, v74 =>
  if (decide (v74 < (v71.length : Int))) then
   (
    (lAt m.Body v74).bind fun v79 =>
    (lAt v71 v74).bind fun v82 =>
    if (!decide (v79 = v82)) then
     some true
    else
     (lAt m.Nodes v82).bind fun v88 =>
     (zBm v88.K 99 v74 (v71.length : Int)).bind fun v89 =>
     some (!v89)
   ).bind fun y75 =>
   if y75 then
    some false
   else
    (ck (v74 + 1)).bind fun v91 =>
    zB8 m v71 K73 q3 v91
  else
   K73 ()
def zDP (m : rMt) : Option Bool :=
 (app 16 ([] : List Str) m.Args).bind fun v3 =>
 (app 16 v3 m.Temps).bind fun v6 =>
 (
  (zDa m.Sel (m.Args.length : Int)).bind fun v9 =>
  if (!v9) then
   some true
  else
   (zDg v6 16).bind fun v11 =>
   if (!v11) then
    some true
   else
    if (decide ((500 : Int) < (m.Nodes.length : Int))) then
     some true
    else
     some (decide ((500 : Int) < (m.Body.length : Int)))
 ).bind fun y7 =>
 if y7 then
  some false
 else
  letK (fun (v71 : (List Int)) =>
   if (!decide ((v71.length : Int) = (m.Body.length : Int))) then
    some false
   else
    letK (fun (_ : Unit) =>
     some true
    ) fun (K73 : (Unit → Option Bool)) =>
    zB8 m v71 K73 fuel 0
  ) fun (K15 : ((List Int) → Option Bool)) =>
  zCa m K15 fuel [] [] 0
def zDc (c : Int) : Option Int :=
 if (((decide ((97 : Int) ≤ c)) && (decide (c ≤ 122))) || ((decide ((65 : Int) ≤ c)) && (decide (c ≤ 90)))) then
  some 97
 else
  if ((decide ((48 : Int) ≤ c)) && (decide (c ≤ 57))) then
   some 48
  else
   if ((((((((((decide (c = 43)) || (decide (c = 45))) || (decide (c = 42))) || (decide (c = 47))) || (decide (c = 92))) || (decide (c = 60))) || (decide (c = 62))) || (decide (c = 61))) || (decide (c = 126))) || (decide (c = 44))) then
    some 43
   else
    some c
def zBb (s : Str) (a : Int) (p2_b : Int) (K2 : (Unit → Option Bool)) : Nat → Int → Option Bool
 | 0, _ => none
 | q1+1, v3 =>
  if (decide (v3 < (s.length : Int))) then
   (
    (sIdx s v3).bind fun v8 =>
    (zDc v8).bind fun v9 =>
    if (!decide (v9 = a)) then
     some (!decide (v9 = p2_b))
    else
     some false
   ).bind fun y4 =>
   if y4 then
    some false
   else
    (ck (v3 + 1)).bind fun v14 =>
    zBb s a p2_b K2 q1 v14
  else
   K2 ()
def zFm (s : Str) (a : Int) (p2_b : Int) : Option Bool :=
 letK (fun (_ : Unit) =>
  some true
 ) fun (K2 : (Unit → Option Bool)) =>
 zBb s a p2_b K2 fuel 0
def zF0 (p0_w : rWd) : Option Bool :=
 if ((decide (p0_w.At < 0)) || (decide ((16 : Int) < p0_w.K))) then
  some false
 else
  if (((decide (p0_w.K = 0)) || (decide (p0_w.K = 1))) || (decide (p0_w.K = 5))) then
   (
    if (decide ((1 : Int) ≤ (p0_w.S.length : Int))) then
     if (decide ((p0_w.S.length : Int) ≤ 64)) then
      (zFm p0_w.S 97 48).bind fun v7 =>
      if v7 then
       (sIdx p0_w.S 0).bind fun v11 =>
       (zDc v11).bind fun v12 =>
       some (decide (v12 = 97))
      else
       some false
     else
      some false
    else
     some false
   ).bind fun y3 =>
   some y3
  else
   if (decide (p0_w.K = 2)) then
    (
     if (decide ((1 : Int) ≤ (p0_w.S.length : Int))) then
      if (decide ((p0_w.S.length : Int) ≤ 2)) then
       (zFm p0_w.S 43 43).bind fun v17 =>
       some v17
      else
       some false
     else
      some false
    ).bind fun y13 =>
    some y13
   else
    if (decide (p0_w.K = 3)) then
     (
      if (decide ((1 : Int) ≤ (p0_w.S.length : Int))) then
       if (decide ((p0_w.S.length : Int) ≤ 700)) then
        (zFm p0_w.S 48 48).bind fun v22 =>
        if v22 then
         if (decide ((p0_w.S.length : Int) = 1)) then
          some true
         else
          (sIdx p0_w.S 0).bind fun v27 =>
          some (!decide (v27 = 48))
        else
         some false
       else
        some false
      else
       some false
     ).bind fun y18 =>
     some y18
    else
     if (decide (p0_w.K = 4)) then
      some (decide ((p0_w.S.length : Int) ≤ 1024))
     else
      some (p0_w.S == [])
def zHz (k : Int) : Option Int :=
 (ck (k - 7)).bind fun v2 =>
 (lAt ([94, 59, 46, 40, 41, 91, 93, 124, 123, 125] : List Int) v2).bind fun v5 =>
 some v5
def zCb (p0_w : rWd) : Nat → (List Int) → Int → Option (List Int)
 | 0, _, _ => none
 | q1+1, v15, v16 =>
  if (decide (v16 < (p0_w.S.length : Int))) then
   (sIdx p0_w.S v16).bind fun v19 =>
   (app 1 v15 ([v19] : List Int)).bind fun v22 =>
   (
    if (decide (v19 = 39)) then
     (app 1 v22 ([39] : List Int)).bind fun v29 =>
     some v29
    else
     some v22
   ).bind fun y25 =>
   (ck (v16 + 1)).bind fun v31 =>
   zCb p0_w q1 y25 v31
  else
   some v15
def zFk (p0_w : rWd) : Option (List Int) :=
 if (decide (p0_w.K = 1)) then
  (zLi p0_w.S).bind fun v3 =>
  (app 1 v3 ([58] : List Int)).bind fun v6 =>
  some v6
 else
  if (decide (p0_w.K = 5)) then
   (app 1 ([58] : List Int) (zAx p0_w.S)).bind fun v9 =>
   some v9
  else
   if (decide (p0_w.K = 6)) then
    some ([58, 61] : List Int)
   else
    if (decide ((6 : Int) < p0_w.K)) then
     (ck p0_w.K).bind fun v11 =>
     (zHz v11).bind fun v12 =>
     some ([v12] : List Int)
    else
     if (decide (p0_w.K = 4)) then
      (
       zCb p0_w fuel ([39] : List Int) 0
      ).bind fun y13 =>
      (app 1 y13 ([39] : List Int)).bind fun v34 =>
      some v34
     else
      some (zAx p0_w.S)
def zA7 (l : (List rWd)) (K2 : (Unit → Option (Str × Int))) : Nat → Int → Option (Str × Int)
 | 0, _ => none
 | q1+1, v3 =>
  if (decide (v3 < (l.length : Int))) then
   (lAt l v3).bind fun v6 =>
   (zF0 v6).bind fun v7 =>
   if (!v7) then
    some ([], 1)
   else
    (ck (v3 + 1)).bind fun v9 =>
    zA7 l K2 q1 v9
  else
   K2 ()
def zAz (l : (List rWd)) : Nat → (List Int) → Int → Option (List Int)
 | 0, _, _ => none
 | q2+1, v12, v13 =>
  if ((decide (v13 < (l.length : Int))) && (decide ((v12.length : Int) ≤ 65536))) then
   (
    if (decide ((0 : Int) < v13)) then
     (app 1 v12 ([32] : List Int)).bind fun v19 =>
     some v19
    else
     some v12
   ).bind fun y15 =>
   (lAt l v13).bind fun v22 =>
   (zFk v22).bind fun v23 =>
   (app 1 y15 v23).bind fun v26 =>
   (ck (v13 + 1)).bind fun v28 =>
   zAz l q2 v26 v28
  else
   some v12
def zDI (l : (List rWd)) : Option (Str × Int) :=
 letK (fun (_ : Unit) =>
  (
   zAz l fuel [] 0
  ).bind fun y10 =>
  if (decide ((65536 : Int) < (y10.length : Int))) then
   some ([], 4)
  else
   some ((zLJ y10), 0)
 ) fun (K2 : (Unit → Option (Str × Int))) =>
 zA7 l K2 fuel 0
def zAL (k : Int) (s : Str) : Option rWd :=
 some (rWd.mk k s 0)
def zCs (l : (List Str)) : Nat → (List rWd) → Int → Option (List rWd)
 | 0, _, _ => none
 | q1+1, v3, v4 =>
  if (decide (v4 < (l.length : Int))) then
   (lAt l v4).bind fun v7 =>
   (zAL 0 v7).bind fun v8 =>
   (app 32 v3 ([v8] : List rWd)).bind fun v11 =>
   (ck (v4 + 1)).bind fun v13 =>
   zCs l q1 v11 v13
  else
   some v3
def zDF (l : (List Str)) : Option (List rWd) :=
 (
  zCs l fuel [] 0
 ).bind fun y1 =>
 (
  if (decide ((0 : Int) < (l.length : Int))) then
   (zAL 14 []).bind fun v16 =>
   (app 32 ([v16] : List rWd) y1).bind fun v19 =>
   (app 32 v19 ([v16] : List rWd)).bind fun v22 =>
   some v22
  else
   some y1
 ).bind fun y14 =>
 some y14
def zBp (of : (List (List rWd))) (l : (List Int)) : Nat → (List rWd) → Int → Option (List rWd)
 | 0, _, _ => none
 | q1+1, v3, v4 =>
  if (decide (v4 < (l.length : Int))) then
   (
    if (decide ((0 : Int) < v4)) then
     (zAL 9 []).bind fun v7 =>
     (app 32 v3 ([v7] : List rWd)).bind fun v10 =>
     some v10
    else
     some v3
   ).bind fun y5 =>
   (lAt l v4).bind fun v13 =>
   (lAt of v13).bind fun v16 =>
   (app 32 y5 v16).bind fun v19 =>
   (ck (v4 + 1)).bind fun v21 =>
   zBp of l q1 v19 v21
  else
   some v3
def zDG (of : (List (List rWd))) (l : (List Int)) : Option (List rWd) :=
 (
  zBp of l fuel [] 0
 ).bind fun y1 =>
 some y1
def zCW (sel : Str) : Option Int :=
 (zDD sel).bind fun v1 =>
 if (decide (v1.1 = 0)) then
  some 3
 else
  (ck ((sel.length : Int) - 1)).bind fun v3 =>
  (sIdx sel v3).bind fun v6 =>
  if (decide (v6 = 58)) then
   some 1
  else
   some 2
def zCl (sel : Str) : Nat → (List Str) → Int → Int → Option (List Str)
 | 0, _, _, _ => none
 | q1+1, v3, v4, v5 =>
  if (decide (v5 < (sel.length : Int))) then
   (sIdx sel v5).bind fun v8 =>
   (
    if (decide (v8 = 58)) then
     (sub sel v4 v5).bind fun v13 =>
     (app 16 v3 ([v13] : List Str)).bind fun v16 =>
     (ck (v5 + 1)).bind fun v18 =>
     some (v16, v18)
    else
     some (v3, v4)
   ).bind fun y9 =>
   (ck (v5 + 1)).bind fun v20 =>
   zCl sel q1 y9.1 y9.2 v20
  else
   some v3
def zE4 (sel : Str) : Option (List Str) :=
 (
  zCl sel fuel [] 0 0
 ).bind fun y1 =>
 some y1
def zCn (of : (List (List rWd))) (v10 : (List Str)) : Nat → (List rWd) → Int → Option (List rWd)
 | 0, _, _ => none
 | q1+1, v13, v14 =>
  if (decide (v14 < (v10.length : Int))) then
   (lAt v10 v14).bind fun v17 =>
   (zAL 1 v17).bind fun v18 =>
   (app 32 v13 ([v18] : List rWd)).bind fun v21 =>
   (lAt of v14).bind fun v24 =>
   (app 32 v21 v24).bind fun v27 =>
   (ck (v14 + 1)).bind fun v29 =>
   zCn of v10 q1 v27 v29
  else
   some v13
def zEf (sel : Str) (of : (List (List rWd))) : Option (List rWd) :=
 (zCW sel).bind fun v1 =>
 if (decide (v1 = 3)) then
  (zAL 0 sel).bind fun v2 =>
  some ([v2] : List rWd)
 else
  if (decide (v1 = 2)) then
   (zAL 2 sel).bind fun v3 =>
   (lAt of 0).bind fun v6 =>
   (app 32 ([v3] : List rWd) v6).bind fun v9 =>
   some v9
  else
   (zE4 sel).bind fun v10 =>
   (
    zCn of v10 fuel [] 0
   ).bind fun y11 =>
   some y11
def zDe (n : rNd) (words : (List rWd)) (sel : Str) (p3_to : Bool) : Option (List rWd) :=
 (
  if (decide (n.K = 9)) then
   (zCW n.S).bind fun v4 =>
   (zCW sel).bind fun v5 =>
   (
    if p3_to then
     some ((decide (v4 < v5)) || ((decide (v5 = 1)) && (decide (v4 = 1))))
    else
     (
      if (decide (v5 = 2)) then
       some (!decide (v4 = 3))
      else
       some (decide (v4 = 1))
     ).bind fun y11 =>
     some y11
   ).bind fun y6 =>
   some y6
  else
   some ((decide (n.K = 8)) || (decide (n.K = 10)))
 ).bind fun y2 =>
 if (!y2) then
  some words
 else
  (zAL 10 []).bind fun v13 =>
  (app 32 ([v13] : List rWd) words).bind fun v16 =>
  (zAL 11 []).bind fun v17 =>
  (app 32 v16 ([v17] : List rWd)).bind fun v20 =>
  some v20
def zBg (m : rMt) (of : (List (List rWd))) (n : rNd) (kids : (List Int)) : Nat → (List (List rWd)) → Int → Option (List (List rWd))
 | 0, _, _ => none
 | q1+1, v3, v4 =>
  if (decide (v4 < (kids.length : Int))) then
   (lAt kids v4).bind fun v7 =>
   (lAt m.Nodes v7).bind fun v10 =>
   (lAt of v7).bind fun v15 =>
   (zDe v10 v15 n.S false).bind fun v16 =>
   (app 24 v3 ([v16] : List (List rWd))).bind fun v19 =>
   (ck (v4 + 1)).bind fun v21 =>
   zBg m of n kids q1 v19 v21
  else
   some v3
def zCQ (m : rMt) (of : (List (List rWd))) (n : rNd) (kids : (List Int)) : Option (List rWd) :=
 (
  zBg m of n kids fuel [] 0
 ).bind fun y1 =>
 (zEf n.S y1).bind fun v22 =>
 some v22
def zBj (of : (List (List rWd))) (n : rNd) : Nat → (List rWd) → Int → Option (List rWd)
 | 0, _, _ => none
 | q1+1, v86, v87 =>
  if (decide (v87 < (n.Kids.length : Int))) then
   (
    if (decide ((1 : Int) < v87)) then
     (zAL 8 []).bind fun v90 =>
     (app 32 v86 ([v90] : List rWd)).bind fun v93 =>
     some v93
    else
     some v86
   ).bind fun y88 =>
   (lAt n.Kids v87).bind fun v96 =>
   (lAt of v96).bind fun v99 =>
   (app 32 y88 v99).bind fun v102 =>
   (ck (v87 + 1)).bind fun v104 =>
   zBj of n q1 v102 v104
  else
   some v86
def zCq (n : rNd) : Nat → (List rWd) → Int → Option (List rWd)
 | 0, _, _ => none
 | q2+1, v108, v109 =>
  if (decide (v109 < n.N)) then
   (lAt n.L v109).bind fun v112 =>
   (zAL 5 v112).bind fun v113 =>
   (app 32 v108 ([v113] : List rWd)).bind fun v116 =>
   (ck (v109 + 1)).bind fun v118 =>
   zCq n q2 v116 v118
  else
   some v108
def zFf (m : rMt) (of : (List (List rWd))) (n : rNd) : Option (List rWd) :=
 if (decide (n.K < 5)) then
  (lAt ([[115, 101, 108, 102], [115, 117, 112, 101, 114], [110, 105, 108], [116, 114, 117, 101], [102, 97, 108, 115, 101]] : List Str) n.K).bind fun v3 =>
  (zAL 0 v3).bind fun v4 =>
  some ([v4] : List rWd)
 else
  (
   if (decide (n.K = 5)) then
    (sIdx n.S 0).bind fun v10 =>
    some (decide (v10 = 45))
   else
    some false
  ).bind fun y5 =>
  if y5 then
   (zAL 2 [45]).bind fun v11 =>
   (sub n.S 1 (n.S.length : Int)).bind fun v14 =>
   (zAL 3 v14).bind fun v15 =>
   some ([v11, v15] : List rWd)
  else
   if (decide (n.K = 5)) then
    (zAL 3 n.S).bind fun v16 =>
    some ([v16] : List rWd)
   else
    if (decide (n.K = 6)) then
     (zAL 4 n.S).bind fun v17 =>
     some ([v17] : List rWd)
    else
     if (decide (n.K = 7)) then
      (zAL 0 n.S).bind fun v18 =>
      some ([v18] : List rWd)
     else
      if (decide (n.K = 8)) then
       (zAL 0 n.S).bind fun v19 =>
       (zAL 6 []).bind fun v20 =>
       (lAt n.Kids 0).bind fun v23 =>
       (lAt of v23).bind fun v26 =>
       (app 32 ([v19, v20] : List rWd) v26).bind fun v29 =>
       some v29
      else
       if (decide (n.K = 13)) then
        (zAL 7 []).bind fun v30 =>
        (lAt n.Kids 0).bind fun v33 =>
        (lAt of v33).bind fun v36 =>
        (app 32 ([v30] : List rWd) v36).bind fun v39 =>
        some v39
       else
        if (decide (n.K = 11)) then
         (zCQ m of n n.Kids).bind fun v40 =>
         some v40
        else
         if (decide (n.K = 9)) then
          (lAt n.Kids 0).bind fun v43 =>
          (lAt m.Nodes v43).bind fun v46 =>
          (lAt of v43).bind fun v51 =>
          (zDe v46 v51 n.S true).bind fun v52 =>
          (app 32 ([] : List rWd) v52).bind fun v55 =>
          (sub n.Kids 1 (n.Kids.length : Int)).bind fun v58 =>
          (zCQ m of n v58).bind fun v59 =>
          (app 32 v55 v59).bind fun v62 =>
          some v62
         else
          if (decide (n.K = 10)) then
           (lAt n.Kids 0).bind fun v65 =>
           (lAt m.Nodes v65).bind fun v68 =>
           (lAt of v65).bind fun v73 =>
           (lAt n.Kids 1).bind fun v76 =>
           (lAt m.Nodes v76).bind fun v79 =>
           (zDe v68 v73 v79.S true).bind fun v80 =>
           (app 32 ([] : List rWd) v80).bind fun v83 =>
           (
            zBj of n fuel v83 1
           ).bind fun y84 =>
           some y84
          else
           (zAL 12 []).bind fun v105 =>
           (
            zCq n fuel ([v105] : List rWd) 0
           ).bind fun y106 =>
           (
            if (decide ((0 : Int) < n.N)) then
             (zAL 14 []).bind fun v121 =>
             (app 32 y106 ([v121] : List rWd)).bind fun v124 =>
             some v124
            else
             some y106
           ).bind fun y119 =>
           (sub n.L n.N (n.L.length : Int)).bind fun v127 =>
           (zDF v127).bind fun v128 =>
           (app 32 y119 v128).bind fun v131 =>
           (zDG of n.Kids).bind fun v132 =>
           (app 32 v131 v132).bind fun v135 =>
           (zAL 13 []).bind fun v136 =>
           (app 32 v135 ([v136] : List rWd)).bind fun v139 =>
           some v139
def zBl (m : rMt) : Nat → (List (List rWd)) → Int → Option (List (List rWd))
 | 0, _, _ => none
 | q1+1, v3, v4 =>
  if (decide (v4 < (m.Nodes.length : Int))) then
   (lAt m.Nodes v4).bind fun v7 =>
   (zFf m v3 v7).bind fun v8 =>
   (app 24 v3 ([v8] : List (List rWd))).bind fun v11 =>
   (ck (v4 + 1)).bind fun v13 =>
   zBl m q1 v11 v13
  else
   some v3
def zBQ (m : rMt) : Nat → (List (List rWd)) → Int → Option (List (List rWd))
 | 0, _, _ => none
 | q2+1, v16, v17 =>
  if (decide (v17 < (m.Args.length : Int))) then
   (lAt m.Args v17).bind fun v20 =>
   (zAL 0 v20).bind fun v21 =>
   (app 24 v16 ([([v21] : List rWd)] : List (List rWd))).bind fun v24 =>
   (ck (v17 + 1)).bind fun v26 =>
   zBQ m q2 v24 v26
  else
   some v16
def zEx (m : rMt) : Option (List rWd) :=
 (
  zBl m fuel [] 0
 ).bind fun y1 =>
 (
  zBQ m fuel [] 0
 ).bind fun y14 =>
 (zEf m.Sel y14).bind fun v27 =>
 (app 32 ([] : List rWd) v27).bind fun v30 =>
 (zAL 15 []).bind fun v31 =>
 (app 32 v30 ([v31] : List rWd)).bind fun v34 =>
 (zDF m.Temps).bind fun v35 =>
 (app 32 v34 v35).bind fun v38 =>
 (zDG y1 m.Body).bind fun v39 =>
 (app 32 v38 v39).bind fun v42 =>
 (zAL 16 []).bind fun v43 =>
 (app 32 v42 ([v43] : List rWd)).bind fun v46 =>
 some v46
def zAI (l : (List rCl)) (v3 : Int) (K20 : (Unit → Option Bool)) : Nat → Int → Option Bool
 | 0, _ => none
 | q2+1, v21 =>
  (lAt l v3).bind fun v24 =>
  if (decide (v21 < (v24.Methods.length : Int))) then
   (lAt v24.Methods v21).bind fun v29 =>
   (zDw v29).bind fun v30 =>
   if v30 then
    some true
   else
    (ck (v21 + 1)).bind fun v32 =>
    zAI l v3 K20 q2 v32
  else
   K20 ()
def zAA (l : (List rCl)) (K2 : (Unit → Option Bool)) : Nat → Int → Option Bool
 | 0, _ => none
 | q1+1, v3 =>
  if (decide (v3 < (l.length : Int))) then
   (
    (lAt l v3).bind fun v8 =>
    if (decide ((1100 : Int) < (v8.Name.length : Int))) then
     some true
    else
     if (decide ((1100 : Int) < (v8.Super.length : Int))) then
      some true
     else
      (zBo v8.Vars).bind fun v15 =>
      if v15 then
       some true
      else
       some (decide ((20 : Int) < (v8.Methods.length : Int)))
   ).bind fun y4 =>
   if y4 then
    some true
   else
    letK (fun (_ : Unit) =>
     (ck (v3 + 1)).bind fun v34 =>
     zAA l K2 q1 v34
    ) fun (K20 : (Unit → Option Bool)) =>
    zAI l v3 K20 fuel 0
  else
   K2 ()
def zBF (l : (List rCl)) : Option Bool :=
 if (decide ((70 : Int) < (l.length : Int))) then
  some true
 else
  letK (fun (_ : Unit) =>
   some false
  ) fun (K2 : (Unit → Option Bool)) =>
  zAA l K2 fuel 0
def zAM (v7 : rCl) : Nat → Int → (List tMt) → Option (List tMt)
 | 0, _, _ => none
 | q2+1, v31, v32 =>
  if (decide (v31 < (v7.Methods.length : Int))) then
   (lAt v7.Methods v31).bind fun v39 =>
   (zCx v39).bind fun v40 =>
   (app 112 v32 ([v40] : List tMt)).bind fun v43 =>
   (ck (v31 + 1)).bind fun v45 =>
   zAM v7 q2 v45 v43
  else
   some v32
def zAN (l : (List rCl)) : Nat → (List tCl) → Int → Option (List tCl)
 | 0, _, _ => none
 | q1+1, v3, v4 =>
  if (decide (v4 < (l.length : Int))) then
   (lAt l v4).bind fun v7 =>
   (app 16 ([] : List Str) v7.Vars).bind fun v14 =>
   (
    zAM v7 fuel 0 []
   ).bind fun y15 =>
   (app 80 v3 ([(tCl.mk v7.Name v7.Super v14 y15)] : List tCl)).bind fun v48 =>
   (ck (v4 + 1)).bind fun v50 =>
   zAN l q1 v48 v50
  else
   some v3
def zB6 (l : (List rCl)) : Option (List tCl) :=
 (
  zAN l fuel [] 0
 ).bind fun y1 =>
 some y1
def zBa (v6 : rCl) (K15 : (Unit → Option Bool)) : Nat → Int → Option Bool
 | 0, _ => none
 | q2+1, v16 =>
  if (decide (v16 < (v6.Vars.length : Int))) then
   (lAt v6.Vars v16).bind fun v19 =>
   (zDR v19).bind fun v20 =>
   if (!v20) then
    some false
   else
    (ck (v16 + 1)).bind fun v22 =>
    zBa v6 K15 q2 v22
  else
   K15 ()
def zBc (v6 : rCl) (K24 : (Unit → Option Bool)) : Nat → Int → Option Bool
 | 0, _ => none
 | q3+1, v25 =>
  if (decide (v25 < (v6.Methods.length : Int))) then
   (lAt v6.Methods v25).bind fun v28 =>
   (zDP v28).bind fun v29 =>
   if (!v29) then
    some false
   else
    (ck (v25 + 1)).bind fun v31 =>
    zBc v6 K24 q3 v31
  else
   K24 ()
def zBx (l : (List rCl)) (K2 : (Unit → Option Bool)) : Nat → Int → Option Bool
 | 0, _ => none
 | q1+1, v3 =>
  if (decide (v3 < (l.length : Int))) then
   (lAt l v3).bind fun v6 =>
   (
    (zB4 v6.Name 65 90).bind fun v9 =>
    if (!v9) then
     some true
    else
     (zB4 v6.Super 65 90).bind fun v11 =>
     if (!v11) then
      some true
     else
      if (decide ((16 : Int) < (v6.Vars.length : Int))) then
       some true
      else
       some (decide ((256 : Int) < (v6.Methods.length : Int)))
   ).bind fun y7 =>
   if y7 then
    some false
   else
    letK (fun (_ : Unit) =>
     letK (fun (_ : Unit) =>
      (ck (v3 + 1)).bind fun v33 =>
      zBx l K2 q1 v33
     ) fun (K24 : (Unit → Option Bool)) =>
     zBc v6 K24 fuel 0
    ) fun (K15 : (Unit → Option Bool)) =>
    zBa v6 K15 fuel 0
  else
   K2 ()
def zDi (l : (List rCl)) : Option Bool :=
 if (decide ((64 : Int) < (l.length : Int))) then
  some false
 else
  letK (fun (_ : Unit) =>
   some true
  ) fun (K2 : (Unit → Option Bool)) =>
  zBx l K2 fuel 0
def zBA (v8 : rCl) : Nat → (List rWd) → Int → Option (List rWd)
 | 0, _, _ => none
 | q2+1, v25, v26 =>
  if (decide (v26 < (v8.Methods.length : Int))) then
   (lAt v8.Methods v26).bind fun v29 =>
   (zEx v29).bind fun v30 =>
   (app 32 v25 v30).bind fun v33 =>
   (ck (v26 + 1)).bind fun v35 =>
   zBA v8 q2 v33 v35
  else
   some v25
def zBC (l : (List rCl)) (K3 : ((List rWd) → Option (Str × Int))) : Nat → (List rWd) → Int → Option (Str × Int)
 | 0, _, _ => none
 | q1+1, v4, v5 =>
  if (decide (v5 < (l.length : Int))) then
   (lAt l v5).bind fun v8 =>
   (zAL 0 v8.Name).bind fun v9 =>
   (zAL 2 [60]).bind fun v10 =>
   (zAL 0 v8.Super).bind fun v11 =>
   (app 32 v4 ([v9, v10, v11] : List rWd)).bind fun v14 =>
   (zDF v8.Vars).bind fun v15 =>
   (app 32 v14 v15).bind fun v18 =>
   (zAL 15 []).bind fun v19 =>
   (app 32 v18 ([v19] : List rWd)).bind fun v22 =>
   (
    zBA v8 fuel v22 0
   ).bind fun y23 =>
   (zAL 16 []).bind fun v36 =>
   (app 32 y23 ([v36] : List rWd)).bind fun v39 =>
   if (decide ((65536 : Int) < (v39.length : Int))) then
    some ([], 4)
   else
    (ck (v5 + 1)).bind fun v41 =>
    zBC l K3 q1 v39 v41
  else
   K3 v4
def zDS (l : (List rCl)) : Option (Str × Int) :=
 (zDi l).bind fun v1 =>
 if (!v1) then
  some ([], 1)
 else
  letK (fun (v42 : (List rWd)) =>
   (zDI v42).bind fun v43 =>
   some (v43.1, v43.2)
  ) fun (K3 : ((List rWd) → Option (Str × Int))) =>
  zBC l K3 fuel [] 0
def zCH (l : (List rCl)) : Option Bool :=
 (zBF l).bind fun v1 =>
 if v1 then
  (zFh).bind fun v2 =>
  some v2
 else
  (zB6 l).bind fun v3 =>
  (zDf v3).bind fun v4 =>
  (zDS l).bind fun v5 =>
  (
   (zIY v4.2).bind fun v8 =>
   if (decide (v8 = v5.2)) then
    if (v4.1 == v5.1) then
     (zFh).bind fun v11 =>
     some v11
    else
     some false
   else
    some false
  ).bind fun y6 =>
  some y6
end Go.Cq

