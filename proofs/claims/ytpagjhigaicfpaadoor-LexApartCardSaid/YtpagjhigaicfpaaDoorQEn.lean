import Derived.Test.YtpagjhigaicfpaaDoorQSp
import Derived.Test.YtpagjhigaicfpaaDoorQFa
set_option linter.unusedSectionVars false
set_option linter.unusedVariables false
set_option linter.unusedSimpArgs false
set_option linter.unusedVariables false
set_option linter.unusedSimpArgs false
set_option maxRecDepth 100000
set_option maxHeartbeats 4000000
set_option pp.maxSteps 400
namespace Go.Cq
open Go Go.Av Go.Proofs
@[go_sem] def enc_lex_Word (x : lex_Word) : AV := .agg [.int .u8 x.K, .str x.S, .int .i64 x.At]
@[go_sem] def enc_ref13_Word (x : ref13_Word) : AV := .agg [.int .u8 x.K, .str x.S, .int .i64 x.At]
end Go.Cq

