import Derived.Test.YteeokchpojaaoaaGreatDoorSSp
import Derived.Test.YteeokchpojaaoaaGreatDoorSFa
set_option linter.unusedSectionVars false
set_option linter.unusedVariables false
set_option linter.unusedSimpArgs false
set_option linter.unusedVariables false
set_option linter.unusedSimpArgs false
set_option maxRecDepth 100000
set_option maxHeartbeats 4000000
set_option pp.maxSteps 400
namespace Go.Cq
open Go Go.Av Go.Proofs
@[go_sem] def enc_api_Val (x : api_Val) : AV := .agg [.int .u8 x.K, .int .i64 x.N, .int .i64 x.L]
@[go_sem] def enc_script_Command (x : script_Command) : AV := .agg [.str x.Name, .sl none (List.map (AV.int .i64) x.N), .sl none (List.map enc_api_Val x.V), .str x.W, .str x.S]
@[go_sem] def enc_ref11_Val (x : ref11_Val) : AV := .agg [.int .u8 x.K, .int .i64 x.N, .int .i64 x.L]
@[go_sem] def enc_ref30_Command (x : ref30_Command) : AV := .agg [.str x.Name, .sl none (List.map (AV.int .i64) x.N), .sl none (List.map enc_ref11_Val x.V), .str x.W, .str x.S]
end Go.Cq

