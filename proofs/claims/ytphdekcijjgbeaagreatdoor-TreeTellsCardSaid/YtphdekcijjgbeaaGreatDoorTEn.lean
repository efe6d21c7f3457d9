import Derived.Test.YtphdekcijjgbeaaGreatDoorTSp
import Derived.Test.YtphdekcijjgbeaaGreatDoorTFa
set_option linter.unusedSectionVars false
set_option linter.unusedVariables false
set_option linter.unusedSimpArgs false
set_option linter.unnecessarySimpa false
set_option maxRecDepth 100000
set_option maxHeartbeats 4000000
namespace Go.Cq
open Go Go.Av Go.Proofs
@[go_sem] def enc_ref14_Node (x : ref14_Node) : AV := .agg [.int .u8 x.K, .str x.S, .int .i64 x.N, .sl none (List.map AV.str x.L), .sl none (List.map (AV.int .i64) x.Kids)]
@[go_sem] def enc_ref14_Method (x : ref14_Method) : AV := .agg [.str x.Sel, .sl none (List.map AV.str x.Args), .sl none (List.map AV.str x.Temps), .sl none (List.map enc_ref14_Node x.Nodes), .sl none (List.map (AV.int .i64) x.Body)]
@[go_sem] def encL_string (x : List Str) : AV := .sl none (List.map AV.str x)
@[go_sem] def enc_tree_Node (x : tree_Node) : AV := .agg [.int .u8 x.K, .str x.S, .int .i64 x.N, .sl none (List.map AV.str x.L), .sl none (List.map (AV.int .i64) x.Kids)]
@[go_sem] def enc_large_Num (x : large_Num) : AV := .agg [.bool x.Neg, .sl none (List.map (AV.int .u32) x.Mag)]
@[go_sem] def enc_tree_Method (x : tree_Method) : AV := .agg [.str x.Sel, .sl none (List.map AV.str x.Args), .sl none (List.map AV.str x.Temps), .sl none (List.map enc_tree_Node x.Nodes), .sl none (List.map (AV.int .i64) x.Body)]
@[go_sem] def enc_tree_Class (x : tree_Class) : AV := .agg [.str x.Name, .str x.Super, .sl none (List.map AV.str x.Vars), .sl none (List.map enc_tree_Method x.Methods)]
@[go_sem] def enc_ref03_Num (x : ref03_Num) : AV := .agg [.bool x.Neg, .sl none (List.map (AV.int .u32) x.Mag)]
end Go.Cq

