import Derived.Test.YtiboeelbmgnbgaaGreatDoorSpe
import Derived.Test.YtiboeelbmgnbgaaGreatDoorFac
set_option linter.unusedSectionVars false
set_option linter.unusedVariables false
set_option linter.unusedSimpArgs false
set_option linter.unnecessarySimpa false
set_option maxRecDepth 100000
set_option maxHeartbeats 4000000
namespace Go.Cq
open Go Go.Av Go.Proofs
@[go_sem] def zCk (x : rNd) : AV := .agg [.int .u8 x.K, .str x.S, .int .i64 x.N, .sl none (List.map AV.str x.L), .sl none (List.map (AV.int .i64) x.Kids)]
@[go_sem] def zBT (x : rMt) : AV := .agg [.str x.Sel, .sl none (List.map AV.str x.Args), .sl none (List.map AV.str x.Temps), .sl none (List.map zCk x.Nodes), .sl none (List.map (AV.int .i64) x.Body)]
@[go_sem] def zCg (x : List Str) : AV := .sl none (List.map AV.str x)
@[go_sem] def zAu (x : tNd) : AV := .agg [.int .u8 x.K, .str x.S, .int .i64 x.N, .sl none (List.map AV.str x.L), .sl none (List.map (AV.int .i64) x.Kids)]
@[go_sem] def zCT (x : large_Num) : AV := .agg [.bool x.Neg, .sl none (List.map (AV.int .u32) x.Mag)]
@[go_sem] def zA5 (x : tMt) : AV := .agg [.str x.Sel, .sl none (List.map AV.str x.Args), .sl none (List.map AV.str x.Temps), .sl none (List.map zAu x.Nodes), .sl none (List.map (AV.int .i64) x.Body)]
@[go_sem] def zAv (x : lWd) : AV := .agg [.int .u8 x.K, .str x.S, .int .i64 x.At]
@[go_sem] def zBh (x : tCl) : AV := .agg [.str x.Name, .str x.Super, .sl none (List.map AV.str x.Vars), .sl none (List.map zA5 x.Methods)]
@[go_sem] def zD3 (x : List lWd) : AV := .sl none (List.map zAv x)
@[go_sem] def zCh (x : ref03_Num) : AV := .agg [.bool x.Neg, .sl none (List.map (AV.int .u32) x.Mag)]
@[go_sem] def eR3 (x : rWd) : AV := .agg [.int .u8 x.K, .str x.S, .int .i64 x.At]
@[go_sem] def eLR (x : List rWd) : AV := .sl none (List.map eR3 x)
@[go_sem] def zAV (x : rCl) : AV := .agg [.str x.Name, .str x.Super, .sl none (List.map AV.str x.Vars), .sl none (List.map zBT x.Methods)]
end Go.Cq

