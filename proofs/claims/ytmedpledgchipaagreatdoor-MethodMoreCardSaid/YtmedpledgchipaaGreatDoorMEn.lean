import Derived.Test.YtmedpledgchipaaGreatDoorMSp
import Derived.Test.YtmedpledgchipaaGreatDoorMFa
set_option linter.unusedSectionVars false
set_option linter.unusedVariables false
set_option linter.unusedSimpArgs false
set_option linter.unnecessarySimpa false
set_option maxRecDepth 100000
set_option maxHeartbeats 4000000
namespace Go.Cq
open Go Go.Av Go.Proofs
@[go_sem] def enc_method_Lit (x : method_Lit) : AV := .agg [.int .u8 x.K, .str x.S]
@[go_sem] def enc_large_Num (x : large_Num) : AV := .agg [.bool x.Neg, .sl none (List.map (AV.int .u32) x.Mag)]
@[go_sem] def enc_op_known (x : op_known) : AV := .agg [.str x.name, .str x.form]
@[go_sem] def enc_op_Op (x : op_Op) : AV := .agg [.int .u8 x.Code, .int .i64 x.A, .int .i64 x.B]
@[go_sem] def enc_flow_code (x : flow_code) : AV := .agg [.sl none (List.map enc_op_Op x.l), .sl none (List.map (AV.int .i64) x.at_)]
@[go_sem] def enc_method_Part (x : method_Part) : AV := .agg [.int .i64 x.Outer, .int .i64 x.Args, .int .i64 x.Temps, .sl none (List.map (AV.int .u8) x.Code)]
@[go_sem] def enc_method_Method (x : method_Method) : AV := .agg [.str x.Sel, .sl none (List.map enc_method_Lit x.Lits), .sl none (List.map enc_method_Part x.Parts)]
@[go_sem] def enc_ref09_Lit (x : ref09_Lit) : AV := .agg [.int .u8 x.K, .str x.S]
@[go_sem] def enc_ref09_Part (x : ref09_Part) : AV := .agg [.int .i64 x.Outer, .int .i64 x.Args, .int .i64 x.Temps, .sl none (List.map (AV.int .u8) x.Code)]
@[go_sem] def enc_ref09_Method (x : ref09_Method) : AV := .agg [.str x.Sel, .sl none (List.map enc_ref09_Lit x.Lits), .sl none (List.map enc_ref09_Part x.Parts)]
@[go_sem] def enc_St53 (x : St53) : AV := .agg [.int .u8 x.e0, .int .u8 x.e1]
@[go_sem] def enc_law09_Ask (x : law09_Ask) : AV := .agg [.int .i64 x.Vars, .int .i64 x.Classes, .sl none (List.map (AV.int .u8) x.B)]
end Go.Cq

