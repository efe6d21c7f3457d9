import Derived.Test.YteeokchpojaaoaaGreatDoorRng
import Derived.Test.YteeokchpojaaoaaGreatDoorHa6
set_option linter.unusedSectionVars false
set_option linter.unusedVariables false
set_option linter.unusedSimpArgs false
set_option linter.unusedVariables false
set_option linter.unusedSimpArgs false
set_option maxRecDepth 100000
set_option maxHeartbeats 4000000
set_option pp.maxSteps 400
namespace Go.Cq
open Go Go.Av
abbrev Str := List UInt8
structure api_Val where
  K : Int
  N : Int
  L : Int
deriving Inhabited, DecidableEq
structure script_Command where
  Name : Str
  N : (List Int)
  V : (List api_Val)
  W : Str
  S : Str
deriving Inhabited, DecidableEq
structure script_reader where
  c : script_Command
  parts : (List Str)
  wrong : Bool
deriving Inhabited, DecidableEq
structure script_writer where
  c : script_Command
  parts : (List Str)
  wrong : Bool
deriving Inhabited, DecidableEq
structure ref11_Val where
  K : Int
  N : Int
  L : Int
deriving Inhabited, DecidableEq
structure ref30_Command where
  Name : Str
  N : (List Int)
  V : (List ref11_Val)
  W : Str
  S : Str
deriving Inhabited, DecidableEq
def bytealg_idx (s : Str) (c : Int) : Option Int := some (idxB s (UInt8.ofNat c.toNat))
def strings_Join (xs : List Str) (sep : Str) : Option Str := joinS xs sep
def law_num (e : Option Int) : Option Int := some (match e with | none => 0 | some n => n)
def strings_Cut (s sep : Str) : Option (Str × Str × Bool) := cutS s sep
def strings_Split (s sep : Str) : Option (List Str) := splitS s sep
def strconv_Itoa (n : Int) : Option Str := itoaS n
def strconv_Atoi (s : Str) : Option (Int × Bool) := atoiS s
def script_Form (name : Str) : Option (Str × Bool) :=
  (
    if (name == [112, 108, 97, 121]) then
      some (name == [112, 108, 97, 121])
    else
      (
        if (name == [98, 101, 103, 105, 110]) then
          some (name == [98, 101, 103, 105, 110])
        else
          some (name == [97, 103, 97, 105, 110])
      ).bind fun y3 =>
      some y3
  ).bind fun y1 =>
  if y1 then
    some ([], true)
  else
    if (name == [108, 101, 118, 101, 108, 115]) then
      some ([42], true)
    else
      (
        if (name == [99, 104, 97, 110]) then
          some (name == [99, 104, 97, 110])
        else
          (
            if (name == [102, 117, 101, 108]) then
              some (name == [102, 117, 101, 108])
            else
              (
                if (name == [115, 116, 101, 112, 115]) then
                  some (name == [115, 116, 101, 112, 115])
                else
                  (
                    if (name == [115, 101, 101, 110]) then
                      some (name == [115, 101, 101, 110])
                    else
                      some (name == [109, 97, 115, 107])
                  ).bind fun y11 =>
                  some y11
              ).bind fun y9 =>
              some y9
          ).bind fun y7 =>
          some y7
      ).bind fun y5 =>
      if y5 then
        some ([105], true)
      else
        (
          if (name == [115, 116, 97, 114, 116]) then
            some (name == [115, 116, 97, 114, 116])
          else
            some (name == [115, 101, 109])
        ).bind fun y13 =>
        if y13 then
          some ([105, 105], true)
        else
          if (name == [114, 111, 111, 116]) then
            some ([118], true)
          else
            if (name == [115, 101, 110, 100]) then
              some ([119], true)
            else
              if (name == [97, 114, 114, 97, 121]) then
                some ([105, 86], true)
              else
                if (name == [111, 98, 106, 101, 99, 116]) then
                  some ([119, 105, 86], true)
                else
                  if (name == [116, 101, 120, 116]) then
                    some ([105, 115], true)
                  else
                    (
                      if (name == [99, 108, 97, 115, 115]) then
                        some (name == [99, 108, 97, 115, 115])
                      else
                        some (name == [112, 114, 105, 110, 116])
                    ).bind fun y15 =>
                    if y15 then
                      some ([115], true)
                    else
                      (
                        if (name == [105, 110]) then
                          some (name == [105, 110])
                        else
                          some (name == [116, 105, 99, 107, 115])
                      ).bind fun y17 =>
                      if y17 then
                        some ([105, 42], true)
                      else
                        some ([], false)
def slices_IndexFunc_Lbyte_byte_l1 (s : (List Int)) (p1_f : (Int → Option Bool)) (K2 : (Unit → Option Int)) : Nat → Int → Option Int
  | 0, _ => none
  | q1+1, v3 =>
    if (decide (v3 < (s.length : Int))) then
      (lAt s v3).bind fun v6 =>
      (p1_f v6).bind fun v7 =>
      if v7 then
        some v3
      else
        (ck (v3 + 1)).bind fun v9 =>
        slices_IndexFunc_Lbyte_byte_l1 s p1_f K2 q1 v9
    else
      K2 ()
def slices_IndexFunc_Lbyte_byte (s : (List Int)) (p1_f : (Int → Option Bool)) : Option Int :=
  letK (fun (_ : Unit) =>
    some (-1)
  ) fun (K2 : (Unit → Option Int)) =>
  slices_IndexFunc_Lbyte_byte_l1 s p1_f K2 fuel 0
def slices_ContainsFunc_Lbyte_byte (s : (List Int)) (p1_f : (Int → Option Bool)) : Option Bool :=
  (slices_IndexFunc_Lbyte_byte s p1_f).bind fun v1 =>
  some (decide ((0 : Int) ≤ v1))
def script_worded_1 (c : Int) : Option Bool :=
  some ((decide (c < 33)) || (decide ((126 : Int) < c)))
def script_worded (s : Str) : Option Bool :=
  (
    if (!(s == [])) then
      if (decide ((s.length : Int) ≤ 64)) then
        (slices_ContainsFunc_Lbyte_byte (toInts s) script_worded_1).bind fun v5 =>
        some (!v5)
      else
        some false
    else
      some false
  ).bind fun y1 =>
  some y1
def script_reader_next (p0_r : script_reader) : Option (Str × script_reader) :=
  if (decide ((p0_r.parts.length : Int) = 0)) then
    some ([], (script_reader.mk p0_r.c p0_r.parts true))
  else
    (lAt p0_r.parts 0).bind fun v3 =>
    (sub p0_r.parts 1 (p0_r.parts.length : Int)).bind fun v6 =>
    some (v3, (script_reader.mk p0_r.c v6 p0_r.wrong))
def script_number (s : Str) : Option (Int × Bool) :=
  (strconv_Atoi s).bind fun v1 =>
  (
    if v1.2 then
      (strconv_Itoa v1.1).bind fun v5 =>
      some (v5 == s)
    else
      some false
  ).bind fun y2 =>
  some (v1.1, y2)
def script_reader_number (p0_r : script_reader) : Option script_reader :=
  (script_reader_next p0_r).bind fun v1 =>
  (script_number v1.1).bind fun v2 =>
  (
    if v1.2.wrong then
      some true
    else
      some (!v2.2)
  ).bind fun y3 =>
  (app 8 v1.2.c.N ([v2.1] : List Int)).bind fun v8 =>
  some (script_reader.mk (script_Command.mk v1.2.c.Name v8 v1.2.c.V v1.2.c.W v1.2.c.S) v1.2.parts y3)
def object_Value (levels : Int) (p1_v : api_Val) : Option Bool :=
  if ((decide (p1_v.L < 0)) || (decide (levels ≤ p1_v.L))) then
    some false
  else
    (
      if (decide (p1_v.K = 0)) then
        some (decide (p1_v.K = 0))
      else
        (
          if (decide (p1_v.K = 1)) then
            some (decide (p1_v.K = 1))
          else
            some (decide (p1_v.K = 2))
        ).bind fun y4 =>
        some y4
    ).bind fun y2 =>
    if y2 then
      some (decide (p1_v.N = 0))
    else
      if (decide (p1_v.K = 3)) then
        some ((decide (((-2305843009213693952) : Int) ≤ p1_v.N)) && (decide (p1_v.N ≤ 2305843009213693951)))
      else
        if (decide (p1_v.K = 4)) then
          some ((decide ((0 : Int) ≤ p1_v.N)) && (decide (p1_v.N < 65536)))
        else
          if (decide (p1_v.K = 5)) then
            some ((decide ((0 : Int) ≤ p1_v.N)) && (decide (p1_v.N < 64)))
          else
            some false
def internal_stringslite_HasPrefix (s : Str) (prefix_ : Str) : Option Bool :=
  (
    if (decide ((prefix_.length : Int) ≤ (s.length : Int))) then
      (sub s 0 (prefix_.length : Int)).bind fun v6 =>
      some (v6 == prefix_)
    else
      some false
  ).bind fun y1 =>
  some y1
def internal_stringslite_CutPrefix (s : Str) (prefix_ : Str) : Option (Str × Bool) :=
  (internal_stringslite_HasPrefix s prefix_).bind fun v1 =>
  if (!v1) then
    some (s, false)
  else
    (sub s (prefix_.length : Int) (s.length : Int)).bind fun v4 =>
    some (v4, true)
def strings_CutPrefix (s : Str) (prefix_ : Str) : Option (Str × Bool) :=
  (internal_stringslite_CutPrefix s prefix_).bind fun v1 =>
  some (v1.1, v1.2)
def script_kind (s : Str) : Option (Int × Int × Bool) :=
  if (s == [110, 105, 108]) then
    some (0, 0, true)
  else
    if (s == [102, 97, 108, 115, 101]) then
      some (1, 0, true)
    else
      if (s == [116, 114, 117, 101]) then
        some (2, 0, true)
      else
        (strings_CutPrefix s [35]).bind fun v1 =>
        (
          if v1.2 then
            some (v1.1, 4)
          else
            (strings_CutPrefix s [64]).bind fun v4 =>
            (
              if v4.2 then
                some (v4.1, 5)
              else
                some (s, 3)
            ).bind fun y5 =>
            some (y5.1, y5.2)
        ).bind fun y2 =>
        (script_number y2.1).bind fun v7 =>
        some (y2.2, v7.1, v7.2)
def script_value (s : Str) : Option (api_Val × Bool) :=
  (strings_Cut s [47]).bind fun v1 =>
  (script_kind v1.1).bind fun v2 =>
  (script_number v1.2.1).bind fun v3 =>
  (
    if v1.2.2 then
      if v2.2.2 then
        if v3.2 then
          (object_Value 8 (api_Val.mk v2.1 v2.2.1 v3.1)).bind fun v9 =>
          some v9
        else
          some false
      else
        some false
    else
      some false
  ).bind fun y4 =>
  some ((api_Val.mk v2.1 v2.2.1 v3.1), y4)
def script_reader_value (p0_r : script_reader) : Option script_reader :=
  (script_reader_next p0_r).bind fun v1 =>
  (script_value v1.1).bind fun v2 =>
  (
    if v1.2.wrong then
      some true
    else
      some (!v2.2)
  ).bind fun y3 =>
  (app 24 v1.2.c.V ([v2.1] : List api_Val)).bind fun v8 =>
  some (script_reader.mk (script_Command.mk v1.2.c.Name v1.2.c.N v8 v1.2.c.W v1.2.c.S) v1.2.parts y3)
def script_reader_part_l1  : Nat → script_reader → Option script_reader
  | 0, _ => none
  | q1+1, v9 =>
    if (decide ((0 : Int) < (v9.parts.length : Int))) then
      (script_reader_number v9).bind fun v10 =>
      script_reader_part_l1  q1 v10
    else
      some v9
def script_reader_part_l2  : Nat → script_reader → Option script_reader
  | 0, _ => none
  | q2+1, v19 =>
    if (decide ((0 : Int) < (v19.parts.length : Int))) then
      (script_reader_value v19).bind fun v20 =>
      script_reader_part_l2  q2 v20
    else
      some v19
def script_reader_part (p0_r : script_reader) (k : Int) : Option script_reader :=
  (
    if (decide (k = 105)) then
      (script_reader_number p0_r).bind fun v3 =>
      some v3
    else
      (
        if (decide (k = 42)) then
          (
            script_reader_part_l1  fuel p0_r
          ).bind fun y6 =>
          some y6
        else
          (
            if (decide (k = 118)) then
              (script_reader_value p0_r).bind fun v13 =>
              some v13
            else
              (
                if (decide (k = 86)) then
                  (
                    script_reader_part_l2  fuel p0_r
                  ).bind fun y16 =>
                  some y16
                else
                  (
                    if (decide (k = 119)) then
                      (script_reader_next p0_r).bind fun v23 =>
                      (
                        if v23.2.wrong then
                          some true
                        else
                          (script_worded v23.1).bind fun v27 =>
                          some (!v27)
                      ).bind fun y24 =>
                      some (script_reader.mk (script_Command.mk v23.2.c.Name v23.2.c.N v23.2.c.V v23.1 v23.2.c.S) v23.2.parts y24)
                    else
                      (
                        if (decide (k = 115)) then
                          (
                            if p0_r.wrong then
                              some true
                            else
                              some (decide ((p0_r.parts.length : Int) = 0))
                          ).bind fun y30 =>
                          (strings_Join p0_r.parts [32]).bind fun v33 =>
                          some (script_reader.mk (script_Command.mk p0_r.c.Name p0_r.c.N p0_r.c.V p0_r.c.W v33) [] y30)
                        else
                          some p0_r
                      ).bind fun y28 =>
                      some y28
                  ).bind fun y21 =>
                  some y21
              ).bind fun y14 =>
              some y14
          ).bind fun y11 =>
          some y11
      ).bind fun y4 =>
      some y4
  ).bind fun y1 =>
  some y1
def script_command_l1 (v5 : (Str × Bool)) : Str → script_reader → Option (script_Command × Bool)
  | [], v12 =>
    (
      if v5.2 then
        if (!v12.wrong) then
          some (decide ((v12.parts.length : Int) = 0))
        else
          some false
      else
        some false
    ).bind fun y14 =>
    some (v12.c, y14)
  | c1 :: q1, v12 => if c1.toNat < 128 then
    (script_reader_part v12 (c1.toNat : Int)).bind fun v13 =>
    script_command_l1 v5 q1 v13
    else none
def script_command (s : Str) : Option (script_Command × Bool) :=
  (strings_Split s [32]).bind fun v1 =>
  (lAt v1 0).bind fun v4 =>
  (script_Form v4).bind fun v5 =>
  (sub v1 1 (v1.length : Int)).bind fun v10 =>
  script_command_l1 v5 v5.1 (script_reader.mk (script_Command.mk v4 [] [] [] []) v10 false)
def script_Parse_l1 (K2 : ((List script_Command) → Option ((List script_Command) × Int × (Option Int)))) : Nat → Str → (List script_Command) → Option ((List script_Command) × Int × (Option Int))
  | 0, _, _ => none
  | q1+1, v3, v4 =>
    if (!(v3 == [])) then
      (strings_Cut v3 [10]).bind fun v5 =>
      (script_command v5.1).bind fun v6 =>
      if ((((!v6.2) || (!v5.2.2)) || (decide ((4096 : Int) < (v5.1.length : Int)))) || (decide ((v4.length : Int) = 60))) then
        (ck ((v4.length : Int) + 1)).bind fun v9 =>
        some ([], v9, (some 337))
      else
        (app 96 v4 ([v6.1] : List script_Command)).bind fun v12 =>
        script_Parse_l1 K2 q1 v5.2.1 v12
    else
      K2 v4
def script_Parse (text : Str) : Option ((List script_Command) × Int × (Option Int)) :=
  if (decide ((65536 : Int) < (text.length : Int))) then
    some ([], 0, (some 4))
  else
    letK (fun (v16 : (List script_Command)) =>
      some (v16, 0, none)
    ) fun (K2 : ((List script_Command) → Option ((List script_Command) × Int × (Option Int)))) =>
    script_Parse_l1 K2 fuel text []
def script_writer_number (p0_w : script_writer) : Option script_writer :=
  if (decide ((p0_w.c.N.length : Int) = 0)) then
    some (script_writer.mk p0_w.c p0_w.parts true)
  else
    (lAt p0_w.c.N 0).bind fun v3 =>
    (strconv_Itoa v3).bind fun v4 =>
    (app 16 p0_w.parts ([v4] : List Str)).bind fun v7 =>
    (sub p0_w.c.N 1 (p0_w.c.N.length : Int)).bind fun v10 =>
    some (script_writer.mk (script_Command.mk p0_w.c.Name v10 p0_w.c.V p0_w.c.W p0_w.c.S) v7 p0_w.wrong)
def script_Value (p0_v : api_Val) : Option (Str × (Option Int)) :=
  (object_Value 8 p0_v).bind fun v1 =>
  if (!v1) then
    some ([], (some 1))
  else
    (strconv_Itoa p0_v.N).bind fun v2 =>
    (cat [35] v2).bind fun v5 =>
    (cat [64] v2).bind fun v8 =>
    (lAt ([[110, 105, 108], [102, 97, 108, 115, 101], [116, 114, 117, 101], v2, v5, v8] : List Str) p0_v.K).bind fun v11 =>
    (cat v11 [47]).bind fun v14 =>
    (strconv_Itoa p0_v.L).bind fun v15 =>
    (cat v14 v15).bind fun v18 =>
    some (v18, none)
def script_writer_value (p0_w : script_writer) : Option script_writer :=
  if (decide ((p0_w.c.V.length : Int) = 0)) then
    some (script_writer.mk p0_w.c p0_w.parts true)
  else
    (lAt p0_w.c.V 0).bind fun v3 =>
    (script_Value v3).bind fun v4 =>
    (
      if p0_w.wrong then
        some true
      else
        some v4.2.isSome
    ).bind fun y5 =>
    (app 16 p0_w.parts ([v4.1] : List Str)).bind fun v10 =>
    (sub p0_w.c.V 1 (p0_w.c.V.length : Int)).bind fun v13 =>
    some (script_writer.mk (script_Command.mk p0_w.c.Name p0_w.c.N v13 p0_w.c.W p0_w.c.S) v10 y5)
def internal_stringslite_IndexByte (s : Str) (c : Int) : Option Int :=
  (bytealg_idx s c).bind fun v1 =>
  some v1
def strings_IndexByte (s : Str) (c : Int) : Option Int :=
  (internal_stringslite_IndexByte s c).bind fun v1 =>
  some v1
def script_writer_part_l1  : Nat → script_writer → Option script_writer
  | 0, _ => none
  | q1+1, v9 =>
    if (decide ((0 : Int) < (v9.c.N.length : Int))) then
      (script_writer_number v9).bind fun v10 =>
      script_writer_part_l1  q1 v10
    else
      some v9
def script_writer_part_l2  : Nat → script_writer → Option script_writer
  | 0, _ => none
  | q2+1, v19 =>
    if (decide ((0 : Int) < (v19.c.V.length : Int))) then
      (script_writer_value v19).bind fun v20 =>
      script_writer_part_l2  q2 v20
    else
      some v19
def script_writer_part (p0_w : script_writer) (k : Int) : Option script_writer :=
  (
    if (decide (k = 105)) then
      (script_writer_number p0_w).bind fun v3 =>
      some v3
    else
      (
        if (decide (k = 42)) then
          (
            script_writer_part_l1  fuel p0_w
          ).bind fun y6 =>
          some y6
        else
          (
            if (decide (k = 118)) then
              (script_writer_value p0_w).bind fun v13 =>
              some v13
            else
              (
                if (decide (k = 86)) then
                  (
                    script_writer_part_l2  fuel p0_w
                  ).bind fun y16 =>
                  some y16
                else
                  (
                    if (decide (k = 119)) then
                      (
                        if p0_w.wrong then
                          some true
                        else
                          (script_worded p0_w.c.W).bind fun v26 =>
                          some (!v26)
                      ).bind fun y23 =>
                      (app 16 p0_w.parts ([p0_w.c.W] : List Str)).bind fun v29 =>
                      some (script_writer.mk (script_Command.mk p0_w.c.Name p0_w.c.N p0_w.c.V [] p0_w.c.S) v29 y23)
                    else
                      (
                        if (decide (k = 115)) then
                          (
                            if p0_w.wrong then
                              some true
                            else
                              (strings_IndexByte p0_w.c.S 10).bind fun v35 =>
                              some (decide ((0 : Int) ≤ v35))
                          ).bind fun y32 =>
                          (app 16 p0_w.parts ([p0_w.c.S] : List Str)).bind fun v38 =>
                          some (script_writer.mk (script_Command.mk p0_w.c.Name p0_w.c.N p0_w.c.V p0_w.c.W []) v38 y32)
                        else
                          some p0_w
                      ).bind fun y30 =>
                      some y30
                  ).bind fun y21 =>
                  some y21
              ).bind fun y14 =>
              some y14
          ).bind fun y11 =>
          some y11
      ).bind fun y4 =>
      some y4
  ).bind fun y1 =>
  some y1
def script_Line_l1 (c : script_Command) (v1 : (Str × Bool)) : Str → script_writer → Option (Str × (Option Int))
  | [], v3 =>
    if ((((((!v1.2) || v3.wrong) || (decide ((0 : Int) < (v3.c.N.length : Int)))) || (decide ((0 : Int) < (v3.c.V.length : Int)))) || (!(v3.c.W == []))) || (!(v3.c.S == []))) then
      some ([], (some 1))
    else
      (strings_Join v3.parts [32]).bind fun v6 =>
      if (decide ((4096 : Int) < (v6.length : Int))) then
        some ([], (some 4))
      else
        some (v6, none)
  | c1 :: q1, v3 => if c1.toNat < 128 then
    (script_writer_part v3 (c1.toNat : Int)).bind fun v4 =>
    script_Line_l1 c v1 q1 v4
    else none
def script_Line (c : script_Command) : Option (Str × (Option Int)) :=
  (script_Form c.Name).bind fun v1 =>
  script_Line_l1 c v1 v1.1 (script_writer.mk c ([c.Name] : List Str) false)
def law30_sure  : Option Bool :=
  (script_Parse [97, 114, 114, 97, 121, 32, 48, 32, 53, 47, 49, 32, 35, 50, 47, 49, 32, 110, 105, 108, 47, 48, 10, 99, 108, 97, 115, 115, 32, 32, 97, 32, 10, 112, 108, 97, 121, 10]).bind fun v1 =>
  (script_Parse [112, 108, 97, 121, 10, 115, 116, 101, 112, 115, 32, 48, 53, 10]).bind fun v2 =>
  (script_Line (script_Command.mk [111, 98, 106, 101, 99, 116] ([(-1)] : List Int) ([(api_Val.mk 2 0 3)] : List api_Val) [70, 111, 111] [])).bind fun v3 =>
  (script_Line (script_Command.mk [111, 98, 106, 101, 99, 116] [] [] [70, 111, 111] [])).bind fun v4 =>
  (script_Value (api_Val.mk 5 6 0)).bind fun v5 =>
  (script_Form [105, 110]).bind fun v6 =>
  (
    if (!decide ((v1.1.length : Int) = 3)) then
      some true
    else
      (lAt v1.1 0).bind fun v12 =>
      some (!decide ((v12.V.length : Int) = 3))
  ).bind fun y7 =>
  if y7 then
    some false
  else
    (
      if v1.2.2.isNone then
        if (decide (v1.2.1 = 0)) then
          (lAt v1.1 0).bind fun v19 =>
          (lAt v19.V 1).bind fun v22 =>
          if ((decide (v22.K = 4) && (decide (v22.N = 2) && decide (v22.L = 1)))) then
            (lAt v19.V 2).bind fun v28 =>
            if ((decide (v28.K = 0) && (decide (v28.N = 0) && decide (v28.L = 0)))) then
              (lAt v1.1 1).bind fun v32 =>
              if (v32.S == [32, 97, 32]) then
                (law_num v2.2.2).bind fun v34 =>
                if (decide (v34 = 337)) then
                  if (decide (v2.2.1 = 2)) then
                    if v3.2.isNone then
                      if (v3.1 == [111, 98, 106, 101, 99, 116, 32, 70, 111, 111, 32, 45, 49, 32, 116, 114, 117, 101, 47, 51]) then
                        (law_num v4.2).bind fun v39 =>
                        if (decide (v39 = 1)) then
                          if v5.2.isNone then
                            if (v5.1 == [64, 54, 47, 48]) then
                              if (v6.1 == [105, 42]) then
                                some v6.2
                              else
                                some false
                            else
                              some false
                          else
                            some false
                        else
                          some false
                      else
                        some false
                    else
                      some false
                  else
                    some false
                else
                  some false
              else
                some false
            else
              some false
          else
            some false
        else
          some false
      else
        some false
    ).bind fun y13 =>
    some y13
def ref30_Names  : Option ((List Str) × (List Str)) :=
  some (([[108, 101, 118, 101, 108, 115], [99, 104, 97, 110], [115, 116, 97, 114, 116], [114, 111, 111, 116], [115, 101, 110, 100], [97, 114, 114, 97, 121], [111, 98, 106, 101, 99, 116], [116, 101, 120, 116], [115, 101, 109], [99, 108, 97, 115, 115], [105, 110], [116, 105, 99, 107, 115], [102, 117, 101, 108], [112, 108, 97, 121], [98, 101, 103, 105, 110], [115, 116, 101, 112, 115], [97, 103, 97, 105, 110], [115, 101, 101, 110], [109, 97, 115, 107], [112, 114, 105, 110, 116]] : List Str), ([[42], [105], [105, 105], [118], [119], [105, 86], [119, 105, 86], [105, 115], [105, 105], [115], [105, 42], [105, 42], [105], [], [], [105], [], [105], [105], [115]] : List Str))
def ref30_Form_l1 (name : Str) (v1 : ((List Str) × (List Str))) (K3 : (Unit → Option (Str × Bool))) : Nat → Int → Option (Str × Bool)
  | 0, _ => none
  | q1+1, v4 =>
    if (decide (v4 < (v1.1.length : Int))) then
      (lAt v1.1 v4).bind fun v7 =>
      if (v7 == name) then
        (lAt v1.2 v4).bind fun v10 =>
        some (v10, true)
      else
        (ck (v4 + 1)).bind fun v12 =>
        ref30_Form_l1 name v1 K3 q1 v12
    else
      K3 ()
def ref30_Form (name : Str) : Option (Str × Bool) :=
  (ref30_Names).bind fun v1 =>
  letK (fun (_ : Unit) =>
    some ([], false)
  ) fun (K3 : (Unit → Option (Str × Bool))) =>
  ref30_Form_l1 name v1 K3 fuel 0
def ref30_Word_l1 (s : Str) (K3 : (Unit → Option Bool)) : Nat → Int → Option Bool
  | 0, _ => none
  | q1+1, v4 =>
    if (decide (v4 < (s.length : Int))) then
      (
        (sIdx s v4).bind fun v9 =>
        if (decide (v9 < 33)) then
          some true
        else
          some (decide ((126 : Int) < v9))
      ).bind fun y5 =>
      if y5 then
        some false
      else
        (ck (v4 + 1)).bind fun v14 =>
        ref30_Word_l1 s K3 q1 v14
    else
      K3 ()
def ref30_Word (s : Str) : Option Bool :=
  if ((decide ((s.length : Int) < 1)) || (decide ((64 : Int) < (s.length : Int)))) then
    some false
  else
    letK (fun (_ : Unit) =>
      some true
    ) fun (K3 : (Unit → Option Bool)) =>
    ref30_Word_l1 s K3 fuel 0
def ref30_pieces_l1 (s : Str) : Nat → (List Str) → Int → Int → Option (List Str)
  | 0, _, _, _ => none
  | q1+1, v3, v4, v5 =>
    if (decide (v5 ≤ (s.length : Int))) then
      (
        if (decide (v5 = (s.length : Int))) then
          some true
        else
          (sIdx s v5).bind fun v11 =>
          some (decide (v11 = 32))
      ).bind fun y6 =>
      (
        if y6 then
          (sub s v4 v5).bind fun v16 =>
          (app 16 v3 ([v16] : List Str)).bind fun v19 =>
          (ck (v5 + 1)).bind fun v21 =>
          some (v19, v21)
        else
          some (v3, v4)
      ).bind fun y12 =>
      (ck (v5 + 1)).bind fun v23 =>
      ref30_pieces_l1 s q1 y12.1 y12.2 v23
    else
      some v3
def ref30_pieces (s : Str) : Option (List Str) :=
  (
    ref30_pieces_l1 s fuel [] 0 0
  ).bind fun y1 =>
  some y1
def ref30_num_l1 (y7 : Str) (K22 : (Int → Option (Int × Bool))) : Nat → Int → Int → Option (Int × Bool)
  | 0, _, _ => none
  | q1+1, v23, v24 =>
    if (decide (v24 < (y7.length : Int))) then
      (
        (sIdx y7 v24).bind fun v29 =>
        if (decide (v29 < 48)) then
          some true
        else
          some (decide ((57 : Int) < v29))
      ).bind fun y25 =>
      if y25 then
        some (0, false)
      else
        (sIdx y7 v24).bind fun v35 =>
        (ck (v24 + 1)).bind fun v37 =>
        ref30_num_l1 y7 K22 q1 (IntKind.wrap .u64 ((IntKind.wrap .u64 (v23 * 10)) + (IntKind.wrap .u64 (IntKind.wrap .u8 (v35 - 48))))) v37
    else
      K22 v23
def ref30_num (s : Str) : Option (Int × Bool) :=
  (
    if (decide ((0 : Int) < (s.length : Int))) then
      (sIdx s 0).bind fun v6 =>
      some (decide (v6 = 45))
    else
      some false
  ).bind fun y1 =>
  (
    if y1 then
      (sub s 1 (s.length : Int)).bind fun v11 =>
      some v11
    else
      some s
  ).bind fun y7 =>
  (
    if (decide ((y7.length : Int) < 1)) then
      some true
    else
      if (decide ((19 : Int) < (y7.length : Int))) then
        some true
      else
        (sIdx y7 0).bind fun v18 =>
        if (decide (v18 = 48)) then
          if y1 then
            some true
          else
            some (decide ((1 : Int) < (y7.length : Int)))
        else
          some false
  ).bind fun y12 =>
  if y12 then
    some (0, false)
  else
    letK (fun (v38 : Int) =>
      if y1 then
        some ((IntKind.wrap .i64 (0 - (IntKind.wrap .i64 v38))), (decide (v38 ≤ 9223372036854775808)))
      else
        some ((IntKind.wrap .i64 v38), (decide (v38 ≤ 9223372036854775807)))
    ) fun (K22 : (Int → Option (Int × Bool))) =>
    ref30_num_l1 y7 K22 fuel 0 0
def ref11_Value (n : Int) (p1_v : ref11_Val) : Option Bool :=
  if ((decide (p1_v.L < 0)) || (decide (n ≤ p1_v.L))) then
    some false
  else
    (
      if (decide (p1_v.K = 0)) then
        some (decide (p1_v.K = 0))
      else
        (
          if (decide (p1_v.K = 1)) then
            some (decide (p1_v.K = 1))
          else
            some (decide (p1_v.K = 2))
        ).bind fun y4 =>
        some y4
    ).bind fun y2 =>
    if y2 then
      some (decide (p1_v.N = 0))
    else
      if (decide (p1_v.K = 3)) then
        some ((decide (((-2305843009213693952) : Int) ≤ p1_v.N)) && (decide (p1_v.N ≤ 2305843009213693951)))
      else
        if (decide (p1_v.K = 4)) then
          some ((decide ((0 : Int) ≤ p1_v.N)) && (decide (p1_v.N ≤ 65535)))
        else
          if (decide (p1_v.K = 5)) then
            some ((decide ((0 : Int) ≤ p1_v.N)) && (decide (p1_v.N ≤ 63)))
          else
            some false
def ref30_value_l1 (s : Str) : Nat → Int → Option Int
  | 0, _ => none
  | q1+1, v3 =>
    (
      if (decide (v3 < (s.length : Int))) then
        (sIdx s v3).bind fun v9 =>
        some (!decide (v9 = 47))
      else
        some false
    ).bind fun y4 =>
    if y4 then
      (ck (v3 + 1)).bind fun v11 =>
      ref30_value_l1 s q1 v11
    else
      some v3
def ref30_value (s : Str) : Option (ref11_Val × Bool) :=
  (
    ref30_value_l1 s fuel 0
  ).bind fun y1 =>
  if (decide (y1 = (s.length : Int))) then
    some ((ref11_Val.mk 0 0 0), false)
  else
    (ck (y1 + 1)).bind fun v13 =>
    (sub s v13 (s.length : Int)).bind fun v16 =>
    (ref30_num v16).bind fun v17 =>
    (sub s 0 y1).bind fun v20 =>
    (
      if (((v20 == [110, 105, 108]) || (v20 == [102, 97, 108, 115, 101])) || (v20 == [116, 114, 117, 101])) then
        (
          if (v20 == [102, 97, 108, 115, 101]) then
            some 1
          else
            some 0
        ).bind fun y24 =>
        (
          if (v20 == [116, 114, 117, 101]) then
            some 2
          else
            some y24
        ).bind fun y26 =>
        some (true, (ref11_Val.mk y26 0 v17.1))
      else
        (
          if (decide ((0 : Int) < (v20.length : Int))) then
            (sIdx v20 0).bind fun v33 =>
            some (decide (v33 = 35))
          else
            some false
        ).bind fun y28 =>
        (
          if y28 then
            (sub v20 1 (v20.length : Int)).bind fun v38 =>
            some (v38, 4)
          else
            (
              if (decide ((0 : Int) < (v20.length : Int))) then
                (sIdx v20 0).bind fun v44 =>
                some (decide (v44 = 64))
              else
                some false
            ).bind fun y39 =>
            (
              if y39 then
                (sub v20 1 (v20.length : Int)).bind fun v49 =>
                some (v49, 5)
              else
                some (v20, 3)
            ).bind fun y45 =>
            some (y45.1, y45.2)
        ).bind fun y34 =>
        (ref30_num y34.1).bind fun v50 =>
        some (v50.2, (ref11_Val.mk y34.2 v50.1 v17.1))
    ).bind fun y22 =>
    (
      if v17.2 then
        if y22.1 then
          (ref11_Value 8 y22.2).bind fun v55 =>
          some v55
        else
          some false
      else
        some false
    ).bind fun y51 =>
    some (y22.2, y51)
def ref30_command_l4 (v1 : (List Str)) (v106 : Int) : Nat → Int → Int → Option Int
  | 0, _, _ => none
  | q4+1, v114, v115 =>
    if (decide (v115 < v106)) then
      (lAt v1 v115).bind fun v118 =>
      (ck ((v118.length : Int) + 1)).bind fun v120 =>
      (ck (v114 + v120)).bind fun v122 =>
      (ck (v115 + 1)).bind fun v124 =>
      ref30_command_l4 v1 v106 q4 v122 v124
    else
      some v114
def ref30_command_l5 (v1 : (List Str)) (v111 : Int) (K129 : (Int → ref30_Command → Option (ref30_Command × Bool))) : Nat → Int → Int → ref30_Command → Option (ref30_Command × Bool)
  | 0, _, _, _ => none
  | q5+1, v164, v165, v166 =>
    if (((decide (v164 < (v1.length : Int))) && ((decide (v111 = 42)) || (decide (v111 = 86)))) || (((decide (v165 < 1)) && (!decide (v111 = 42))) && (!decide (v111 = 86)))) then
      if (decide ((v1.length : Int) ≤ v164)) then
        some (v166, false)
      else
        (lAt v1 v164).bind fun v170 =>
        (ck (v164 + 1)).bind fun v172 =>
        letK (fun (v189 : ref30_Command) =>
          (ck (v165 + 1)).bind fun v191 =>
          ref30_command_l5 v1 v111 K129 q5 v172 v191 v189
        ) fun (K174 : (ref30_Command → Option (ref30_Command × Bool))) =>
        if (decide (v111 = 119)) then
          (ref30_Word v170).bind fun v175 =>
          if (!v175) then
            some ((ref30_Command.mk v166.Name v166.N v166.V v170 v166.S), false)
          else
            K174 (ref30_Command.mk v166.Name v166.N v166.V v170 v166.S)
        else
          letK (fun (v187 : ref30_Command) =>
            K174 v187
          ) fun (K178 : (ref30_Command → Option (ref30_Command × Bool))) =>
          if ((decide (v111 = 105)) || (decide (v111 = 42))) then
            (ref30_num v170).bind fun v179 =>
            if (!v179.2) then
              some (v166, false)
            else
              (app 8 v166.N ([v179.1] : List Int)).bind fun v182 =>
              K178 (ref30_Command.mk v166.Name v182 v166.V v166.W v166.S)
          else
            (ref30_value v170).bind fun v183 =>
            if (!v183.2) then
              some (v166, false)
            else
              (app 24 v166.V ([v183.1] : List ref11_Val)).bind fun v186 =>
              K178 (ref30_Command.mk v166.Name v166.N v186 v166.W v166.S)
    else
      K129 v164 v166
def ref30_command_l1 (s : Str) (v1 : (List Str)) (v7 : (Str × Bool)) (K9 : (Int → ref30_Command → Option (ref30_Command × Bool))) : Nat → Int → Int → ref30_Command → Option (ref30_Command × Bool)
  | 0, _, _, _ => none
  | q1+1, v106, v107, v108 =>
    if (decide (v107 < (v7.1.length : Int))) then
      (sIdx v7.1 v107).bind fun v111 =>
      if (decide (v111 = 115)) then
        if (decide ((v1.length : Int) ≤ v106)) then
          some (v108, false)
        else
          (
            ref30_command_l4 v1 v106 fuel 0 0
          ).bind fun y112 =>
          (sub s y112 (s.length : Int)).bind fun v127 =>
          some ((ref30_Command.mk v108.Name v108.N v108.V v108.W v127), true)
      else
        letK (fun (v199 : Int) (v200 : ref30_Command) =>
          (ck (v107 + 1)).bind fun v202 =>
          ref30_command_l1 s v1 v7 K9 q1 v199 v202 v200
        ) fun (K129 : (Int → ref30_Command → Option (ref30_Command × Bool))) =>
        ref30_command_l5 v1 v111 K129 fuel v106 0 v108
    else
      K9 v106 v108
def ref30_command (s : Str) : Option (ref30_Command × Bool) :=
  (ref30_pieces s).bind fun v1 =>
  (lAt v1 0).bind fun v4 =>
  (ref30_Form v4).bind fun v7 =>
  if (!v7.2) then
    some ((ref30_Command.mk v4 [] [] [] []), false)
  else
    letK (fun (v203 : Int) (v204 : ref30_Command) =>
      some (v204, (decide (v203 = (v1.length : Int))))
    ) fun (K9 : (Int → ref30_Command → Option (ref30_Command × Bool))) =>
    ref30_command_l1 s v1 v7 K9 fuel 1 0 (ref30_Command.mk v4 [] [] [] [])
def ref30_Parse_l1 (text : Str) (K2 : ((List ref30_Command) → Int → Option ((List ref30_Command) × Int × Int))) : Nat → (List ref30_Command) → Int → Int → Option ((List ref30_Command) × Int × Int)
  | 0, _, _, _ => none
  | q1+1, v3, v4, v5 =>
    if (decide (v5 < (text.length : Int))) then
      letK (fun (v28 : (List ref30_Command)) (v29 : Int) =>
        (ck (v5 + 1)).bind fun v31 =>
        ref30_Parse_l1 text K2 q1 v28 v29 v31
      ) fun (K7 : ((List ref30_Command) → Int → Option ((List ref30_Command) × Int × Int))) =>
      (sIdx text v5).bind fun v10 =>
      if (!decide (v10 = 10)) then
        K7 v3 v4
      else
        (sub text v4 v5).bind fun v13 =>
        (ref30_command v13).bind fun v14 =>
        (
          if (!v14.2) then
            some true
          else
            (ck (v5 - v4)).bind fun v19 =>
            if (decide ((4096 : Int) < v19)) then
              some true
            else
              some (decide ((60 : Int) ≤ (v3.length : Int)))
        ).bind fun y15 =>
        if y15 then
          (ck ((v3.length : Int) + 1)).bind fun v22 =>
          some ([], v22, 337)
        else
          (app 96 v3 ([v14.1] : List ref30_Command)).bind fun v25 =>
          (ck (v5 + 1)).bind fun v27 =>
          K7 v25 v27
    else
      K2 v3 v4
def ref30_Parse (text : Str) : Option ((List ref30_Command) × Int × Int) :=
  if (decide ((65536 : Int) < (text.length : Int))) then
    some ([], 0, 4)
  else
    letK (fun (v32 : (List ref30_Command)) (v33 : Int) =>
      if (decide (v33 < (text.length : Int))) then
        (ck ((v32.length : Int) + 1)).bind fun v35 =>
        some ([], v35, 337)
      else
        some (v32, 0, 0)
    ) fun (K2 : ((List ref30_Command) → Int → Option ((List ref30_Command) × Int × Int))) =>
    ref30_Parse_l1 text K2 fuel [] 0 0
def law30_same_l1 (a : script_Command) (p1_b : script_Command) (K3 : (Unit → Option Bool)) : Nat → Int → Option Bool
  | 0, _ => none
  | q1+1, v4 =>
    if (decide (v4 < (a.N.length : Int))) then
      (lAt a.N v4).bind fun v7 =>
      (lAt p1_b.N v4).bind fun v10 =>
      if (!decide (v7 = v10)) then
        some false
      else
        (ck (v4 + 1)).bind fun v12 =>
        law30_same_l1 a p1_b K3 q1 v12
    else
      K3 ()
def law30_same_l2 (a : script_Command) (p1_b : script_Command) (K14 : (Unit → Option Bool)) : Nat → Int → Option Bool
  | 0, _ => none
  | q2+1, v15 =>
    if (decide (v15 < (a.V.length : Int))) then
      (lAt a.V v15).bind fun v18 =>
      (lAt p1_b.V v15).bind fun v21 =>
      if (!((decide (v18.K = v21.K) && (decide (v18.N = v21.N) && decide (v18.L = v21.L))))) then
        some false
      else
        (ck (v15 + 1)).bind fun v23 =>
        law30_same_l2 a p1_b K14 q2 v23
    else
      K14 ()
def law30_same (a : script_Command) (p1_b : script_Command) : Option Bool :=
  if (((((!(a.Name == p1_b.Name)) || (!(a.W == p1_b.W))) || (!(a.S == p1_b.S))) || (!decide ((a.N.length : Int) = (p1_b.N.length : Int)))) || (!decide ((a.V.length : Int) = (p1_b.V.length : Int)))) then
    some false
  else
    letK (fun (_ : Unit) =>
      letK (fun (_ : Unit) =>
        some true
      ) fun (K14 : (Unit → Option Bool)) =>
      law30_same_l2 a p1_b K14 fuel 0
    ) fun (K3 : (Unit → Option Bool)) =>
    law30_same_l1 a p1_b K3 fuel 0
def law30_give_l1 (c : ref30_Command) : Nat → Int → (List api_Val) → Option (List api_Val)
  | 0, _, _ => none
  | q1+1, v15, v16 =>
    if (decide (v15 < (c.V.length : Int))) then
      (lAt c.V v15).bind fun v19 =>
      (app 24 v16 ([(api_Val.mk v19.K v19.N v19.L)] : List api_Val)).bind fun v22 =>
      (ck (v15 + 1)).bind fun v24 =>
      law30_give_l1 c q1 v24 v22
    else
      some v16
def law30_give (c : ref30_Command) : Option script_Command :=
  (app 8 ([] : List Int) c.N).bind fun v3 =>
  (
    law30_give_l1 c fuel 0 []
  ).bind fun y4 =>
  some (script_Command.mk c.Name v3 y4 c.W c.S)
def law30_ScriptReads_l1 (v2 : ((List script_Command) × Int × (Option Int))) (v3 : ((List ref30_Command) × Int × Int)) (K10 : (Unit → Option Bool)) : Nat → Int → Option Bool
  | 0, _ => none
  | q1+1, v11 =>
    if (decide (v11 < (v2.1.length : Int))) then
      (lAt v2.1 v11).bind fun v14 =>
      (lAt v3.1 v11).bind fun v17 =>
      (law30_give v17).bind fun v18 =>
      (law30_same v14 v18).bind fun v19 =>
      if (!v19) then
        some false
      else
        (ck (v11 + 1)).bind fun v21 =>
        law30_ScriptReads_l1 v2 v3 K10 q1 v21
    else
      K10 ()
def law30_ScriptReads (text : Str) : Option Bool :=
  if (decide ((70000 : Int) < (text.length : Int))) then
    (law30_sure).bind fun v1 =>
    some v1
  else
    (script_Parse text).bind fun v2 =>
    (ref30_Parse text).bind fun v3 =>
    (
      (law_num v2.2.2).bind fun v6 =>
      if (!decide (v6 = v3.2.2)) then
        some true
      else
        if (!decide (v2.2.1 = v3.2.1)) then
          some true
        else
          some (!decide ((v2.1.length : Int) = (v3.1.length : Int)))
    ).bind fun y4 =>
    if y4 then
      some false
    else
      letK (fun (_ : Unit) =>
        (law30_sure).bind fun v22 =>
        some v22
      ) fun (K10 : (Unit → Option Bool)) =>
      law30_ScriptReads_l1 v2 v3 K10 fuel 0
def law30_big (c : ref30_Command) : Option Bool :=
  some (((((decide ((100 : Int) < (c.Name.length : Int))) || (decide ((5000 : Int) < (c.N.length : Int)))) || (decide ((5000 : Int) < (c.V.length : Int)))) || (decide ((100 : Int) < (c.W.length : Int)))) || (decide ((5000 : Int) < (c.S.length : Int))))
def ref30_Digits_l1  : Nat → Int → (List Int) → Option (List Int)
  | 0, _, _ => none
  | q1+1, v3, v4 =>
    if (!decide (v3 = 0)) then
      (rem v3 10).bind fun v7 =>
      (
        if (decide (v7 < 0)) then
          (ck (0 - v7)).bind fun v11 =>
          some v11
        else
          some v7
      ).bind fun y8 =>
      (app 1 ([(IntKind.wrap .u8 (48 + (IntKind.wrap .u8 y8)))] : List Int) v4).bind fun v14 =>
      (quo .i64 v3 10).bind fun v17 =>
      ref30_Digits_l1  q1 v17 v14
    else
      some v4
def ref30_Digits (n : Int) : Option Str :=
  if (decide (n = 0)) then
    some [48]
  else
    (
      ref30_Digits_l1  fuel n []
    ).bind fun y1 =>
    (
      if (decide (n < 0)) then
        (app 1 ([45] : List Int) y1).bind fun v22 =>
        some v22
      else
        some y1
    ).bind fun y18 =>
    some (ofInts y18)
def ref30_Value (p0_v : ref11_Val) : Option (Str × Int) :=
  (ref11_Value 8 p0_v).bind fun v1 =>
  if (!v1) then
    some ([], 1)
  else
    (ref30_Digits p0_v.N).bind fun v2 =>
    (
      if (decide (p0_v.K < 3)) then
        (lAt ([[110, 105, 108], [102, 97, 108, 115, 101], [116, 114, 117, 101]] : List Str) p0_v.K).bind fun v7 =>
        some v7
      else
        some v2
    ).bind fun y3 =>
    (
      if (decide (p0_v.K = 4)) then
        (cat [35] y3).bind fun v12 =>
        some v12
      else
        some y3
    ).bind fun y8 =>
    (
      if (decide (p0_v.K = 5)) then
        (cat [64] y8).bind fun v17 =>
        some v17
      else
        some y8
    ).bind fun y13 =>
    (cat y13 [47]).bind fun v20 =>
    (ref30_Digits p0_v.L).bind fun v21 =>
    (cat v20 v21).bind fun v24 =>
    some (v24, 0)
def ref30_wide_l1 (form : Str) : Nat → Int → Int → Option Int
  | 0, _, _ => none
  | q1+1, v3, v4 =>
    if (decide (v4 < (form.length : Int))) then
      (sIdx form v4).bind fun v7 =>
      (
        if (!decide (v7 = 105)) then
          (ck (v3 + 1)).bind fun v11 =>
          some v11
        else
          some v3
      ).bind fun y8 =>
      (ck (v4 + 1)).bind fun v13 =>
      ref30_wide_l1 form q1 y8 v13
    else
      some v3
def ref30_wide (form : Str) : Option Int :=
  (
    ref30_wide_l1 form fuel 0 0
  ).bind fun y1 =>
  some y1
def ref30_ended_l1 (s : Str) (K2 : (Unit → Option Bool)) : Nat → Int → Option Bool
  | 0, _ => none
  | q1+1, v3 =>
    if (decide (v3 < (s.length : Int))) then
      (sIdx s v3).bind fun v6 =>
      if (decide (v6 = 10)) then
        some true
      else
        (ck (v3 + 1)).bind fun v8 =>
        ref30_ended_l1 s K2 q1 v8
    else
      K2 ()
def ref30_ended (s : Str) : Option Bool :=
  letK (fun (_ : Unit) =>
    some false
  ) fun (K2 : (Unit → Option Bool)) =>
  ref30_ended_l1 s K2 fuel 0
def ref30_Line_l2 (c : ref30_Command) (v12 : Int) : Nat → Str → Int → Int → Option (Str × Int)
  | 0, _, _, _ => none
  | q2+1, v35, v36, v37 =>
    if ((decide (v36 < (c.N.length : Int))) && ((decide (v12 = 42)) || (decide (v37 < 1)))) then
      (lAt c.N v36).bind fun v41 =>
      (ref30_Digits v41).bind fun v42 =>
      (cat [32] v42).bind fun v45 =>
      (cat v35 v45).bind fun v48 =>
      (ck (v36 + 1)).bind fun v50 =>
      (ck (v37 + 1)).bind fun v52 =>
      ref30_Line_l2 c v12 q2 v48 v50 v52
    else
      some (v35, v36)
def ref30_Line_l3 (c : ref30_Command) (v12 : Int) (K68 : (Str → Int → Option (Str × Int))) : Nat → Str → Int → Int → Option (Str × Int)
  | 0, _, _, _ => none
  | q3+1, v69, v70, v71 =>
    if ((decide (v70 < (c.V.length : Int))) && ((decide (v12 = 86)) || (decide (v71 < 1)))) then
      (lAt c.V v70).bind fun v75 =>
      (ref30_Value v75).bind fun v76 =>
      if (!decide (v76.2 = 0)) then
        some ([], 1)
      else
        (cat [32] v76.1).bind fun v79 =>
        (cat v69 v79).bind fun v82 =>
        (ck (v70 + 1)).bind fun v84 =>
        (ck (v71 + 1)).bind fun v86 =>
        ref30_Line_l3 c v12 K68 q3 v82 v84 v86
    else
      K68 v69 v70
def ref30_Line_l1 (c : ref30_Command) (v1 : (Str × Bool)) (K3 : (Str → Int → Int → Bool → Bool → Option (Str × Int))) : Nat → Str → Int → Int → Bool → Bool → Int → Option (Str × Int)
  | 0, _, _, _, _, _, _ => none
  | q1+1, v4, v5, v6, v7, v8, v9 =>
    if (decide (v9 < (v1.1.length : Int))) then
      (sIdx v1.1 v9).bind fun v12 =>
      letK (fun (v99 : Str) (v100 : Int) (v101 : Int) (v102 : Bool) (v103 : Bool) =>
        (ck (v9 + 1)).bind fun v105 =>
        ref30_Line_l1 c v1 K3 q1 v99 v100 v101 v102 v103 v105
      ) fun (K14 : (Str → Int → Int → Bool → Bool → Option (Str × Int))) =>
      if (decide (v12 = 119)) then
        (cat [32] c.W).bind fun v17 =>
        (cat v4 v17).bind fun v20 =>
        K14 v20 v5 v6 true v8
      else
        letK (fun (v95 : Str) (v96 : Int) (v97 : Int) (v98 : Bool) =>
          K14 v95 v96 v97 v7 v98
        ) fun (K22 : (Str → Int → Int → Bool → Option (Str × Int))) =>
        if (decide (v12 = 115)) then
          (cat [32] c.S).bind fun v25 =>
          (cat v4 v25).bind fun v28 =>
          K22 v28 v5 v6 true
        else
          (
            if (decide (v12 = 105)) then
              some (decide (v12 = 105))
            else
              some (decide (v12 = 42))
          ).bind fun y29 =>
          letK (fun (v92 : Str) (v93 : Int) (v94 : Int) =>
            K22 v92 v93 v94 v8
          ) fun (K32 : (Str → Int → Int → Option (Str × Int))) =>
          if y29 then
            (
              ref30_Line_l2 c v12 fuel v4 v5 0
            ).bind fun y33 =>
            (
              if (decide (v12 = 105)) then
                (ck (v9 + 1)).bind fun v59 =>
                (sub v1.1 0 v9).bind fun v62 =>
                (ref30_wide v62).bind fun v63 =>
                (ck (v59 - v63)).bind fun v65 =>
                some (decide (y33.2 < v65))
              else
                some false
            ).bind fun y55 =>
            if y55 then
              some ([], 1)
            else
              K32 y33.1 y33.2 v6
          else
            if ((decide (v12 = 118)) && (decide ((c.V.length : Int) = 0))) then
              some ([], 1)
            else
              letK (fun (v89 : Str) (v90 : Int) =>
                K32 v89 v5 v90
              ) fun (K68 : (Str → Int → Option (Str × Int))) =>
              ref30_Line_l3 c v12 K68 fuel v4 v6 0
    else
      K3 v4 v5 v6 v7 v8
def ref30_Line (c : ref30_Command) : Option (Str × Int) :=
  (ref30_Form c.Name).bind fun v1 =>
  if (!v1.2) then
    some ([], 1)
  else
    letK (fun (v106 : Str) (v107 : Int) (v108 : Int) (v109 : Bool) (v110 : Bool) =>
      (
        if (decide (v107 < (c.N.length : Int))) then
          some true
        else
          if (decide (v108 < (c.V.length : Int))) then
            some true
          else
            if v109 then
              (ref30_Word c.W).bind fun v116 =>
              if (!v116) then
                some true
              else
                if (!v109) then
                  if (!(c.W == [])) then
                    some true
                  else
                    if v110 then
                      (ref30_ended c.S).bind fun v121 =>
                      if v121 then
                        some true
                      else
                        if (!v110) then
                          some (!(c.S == []))
                        else
                          some false
                    else
                      if (!v110) then
                        some (!(c.S == []))
                      else
                        some false
                else
                  if v110 then
                    (ref30_ended c.S).bind fun v126 =>
                    if v126 then
                      some true
                    else
                      if (!v110) then
                        some (!(c.S == []))
                      else
                        some false
                  else
                    if (!v110) then
                      some (!(c.S == []))
                    else
                      some false
            else
              if (!v109) then
                if (!(c.W == [])) then
                  some true
                else
                  if v110 then
                    (ref30_ended c.S).bind fun v133 =>
                    if v133 then
                      some true
                    else
                      if (!v110) then
                        some (!(c.S == []))
                      else
                        some false
                  else
                    if (!v110) then
                      some (!(c.S == []))
                    else
                      some false
              else
                if v110 then
                  (ref30_ended c.S).bind fun v138 =>
                  if v138 then
                    some true
                  else
                    if (!v110) then
                      some (!(c.S == []))
                    else
                      some false
                else
                  if (!v110) then
                    some (!(c.S == []))
                  else
                    some false
      ).bind fun y111 =>
      if y111 then
        some ([], 1)
      else
        if (decide ((4096 : Int) < (v106.length : Int))) then
          some ([], 4)
        else
          some (v106, 0)
    ) fun (K3 : (Str → Int → Int → Bool → Bool → Option (Str × Int))) =>
    ref30_Line_l1 c v1 K3 fuel c.Name 0 0 false false 0
def law30_ScriptWrites (c : ref30_Command) (p1_v : ref11_Val) : Option Bool :=
  (law30_big c).bind fun v1 =>
  if v1 then
    (law30_sure).bind fun v2 =>
    some v2
  else
    (law30_give c).bind fun v3 =>
    (script_Line v3).bind fun v4 =>
    (ref30_Line c).bind fun v5 =>
    (script_Form c.Name).bind fun v6 =>
    (ref30_Form c.Name).bind fun v7 =>
    (script_Value (api_Val.mk p1_v.K p1_v.N p1_v.L)).bind fun v8 =>
    (ref30_Value p1_v).bind fun v9 =>
    (
      (law_num v4.2).bind fun v12 =>
      if (decide (v12 = v5.2)) then
        if (v4.1 == v5.1) then
          if (v6.1 == v7.1) then
            if (v6.2 == v7.2) then
              if (v8.1 == v9.1) then
                (law_num v8.2).bind fun v18 =>
                if (decide (v18 = v9.2)) then
                  (law30_sure).bind fun v20 =>
                  some v20
                else
                  some false
              else
                some false
            else
              some false
          else
            some false
        else
          some false
      else
        some false
    ).bind fun y10 =>
    some y10
def law30_ScriptBack_l1 (l : (List ref30_Command)) (K4 : (Str → Bool → Option Bool)) : Nat → Str → Bool → Int → Option Bool
  | 0, _, _, _ => none
  | q1+1, v5, v6, v7 =>
    if (decide (v7 < (l.length : Int))) then
      (lAt l v7).bind fun v10 =>
      (law30_big v10).bind fun v11 =>
      if v11 then
        (law30_sure).bind fun v12 =>
        some v12
      else
        (law30_give v10).bind fun v15 =>
        (script_Line v15).bind fun v16 =>
        (cat v16.1 [10]).bind fun v20 =>
        (cat v5 v20).bind fun v23 =>
        (ck (v7 + 1)).bind fun v25 =>
        law30_ScriptBack_l1 l K4 q1 v23 (v6 && v16.2.isNone) v25
    else
      K4 v5 v6
def law30_ScriptBack_l2 (l : (List ref30_Command)) (v32 : ((List script_Command) × Int × (Option Int))) (K35 : (Unit → Option Bool)) : Nat → Int → Option Bool
  | 0, _ => none
  | q2+1, v36 =>
    if (decide (v36 < (v32.1.length : Int))) then
      (lAt v32.1 v36).bind fun v39 =>
      (lAt l v36).bind fun v42 =>
      (law30_give v42).bind fun v43 =>
      (law30_same v39 v43).bind fun v44 =>
      if (!v44) then
        some false
      else
        (ck (v36 + 1)).bind fun v46 =>
        law30_ScriptBack_l2 l v32 K35 q2 v46
    else
      K35 ()
def law30_ScriptBack_l3 (v49 : ((List script_Command) × Int × (Option Int))) (K55 : (Str → Option Bool)) : Nat → Str → Int → Option Bool
  | 0, _, _ => none
  | q3+1, v56, v57 =>
    if (decide (v57 < (v49.1.length : Int))) then
      (lAt v49.1 v57).bind fun v60 =>
      (script_Line v60).bind fun v61 =>
      if v61.2.isSome then
        some false
      else
        (cat v61.1 [10]).bind fun v64 =>
        (cat v56 v64).bind fun v67 =>
        (ck (v57 + 1)).bind fun v69 =>
        law30_ScriptBack_l3 v49 K55 q3 v67 v69
    else
      K55 v56
def law30_ScriptBack (l : (List ref30_Command)) (text : Str) : Option Bool :=
  if ((decide ((60 : Int) < (l.length : Int))) || (decide ((70000 : Int) < (text.length : Int)))) then
    (law30_sure).bind fun v2 =>
    some v2
  else
    letK (fun (v27 : Str) (v28 : Bool) =>
      letK (fun (_ : Unit) =>
        (script_Parse text).bind fun v49 =>
        if v49.2.2.isSome then
          (
            if (decide ((v49.1.length : Int) = 0)) then
              (law30_sure).bind fun v53 =>
              some v53
            else
              some false
          ).bind fun y50 =>
          some y50
        else
          letK (fun (v70 : Str) =>
            (
              if (v70 == text) then
                (law30_sure).bind fun v74 =>
                some v74
              else
                some false
            ).bind fun y71 =>
            some y71
          ) fun (K55 : (Str → Option Bool)) =>
          law30_ScriptBack_l3 v49 K55 fuel [] 0
      ) fun (K31 : (Unit → Option Bool)) =>
      if (v28 && (decide ((v27.length : Int) ≤ 65536))) then
        (script_Parse v27).bind fun v32 =>
        if ((v32.2.2.isSome || (!decide (v32.2.1 = 0))) || (!decide ((v32.1.length : Int) = (l.length : Int)))) then
          some false
        else
          letK (fun (_ : Unit) =>
            K31 ()
          ) fun (K35 : (Unit → Option Bool)) =>
          law30_ScriptBack_l2 l v32 K35 fuel 0
      else
        K31 ()
    ) fun (K4 : (Str → Bool → Option Bool)) =>
    law30_ScriptBack_l1 l K4 fuel [] true 0
end Go.Cq

