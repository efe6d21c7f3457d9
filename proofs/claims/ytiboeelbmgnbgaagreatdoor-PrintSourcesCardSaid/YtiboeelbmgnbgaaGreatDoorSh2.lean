import Derived.Test.YtiboeelbmgnbgaaGreatDoorOwn
import Derived.Test.YtiboeelbmgnbgaaGreatDoorEnc
set_option linter.unusedSectionVars false
set_option linter.unusedVariables false
set_option linter.unusedSimpArgs false
set_option linter.unnecessarySimpa false
namespace Go.Cq
open Go Go.Av
@[go_sem] def hW (x : pwr) : Option (List AV) := some [.str x.m.Sel, .sl none (List.map AV.str x.m.Args), .sl none (List.map AV.str x.m.Temps), .sl none (List.map zAu x.m.Nodes), .sl none (List.map (AV.int .i64) x.m.Body), .sl (some none) (List.map zAv x.l)]
@[go_sem] def hT (x : pwr) : Option (List AV) := some [.str x.m.Sel, .sl none (List.map AV.str x.m.Args), .sl none (List.map AV.str x.m.Temps), .sl none (List.map zAu x.m.Nodes), .sl none (List.map (AV.int .i64) x.m.Body), .sl (some (some (74, 3))) (List.map zAv x.l)]
@[go_sem] def hR (x : rMt) : Option (List AV) := some [.str x.Sel, .sl none (List.map AV.str x.Args), .sl none (List.map AV.str x.Temps), .sl none (List.map zCk x.Nodes), .sl none (List.map (AV.int .i64) x.Body)]
@[go_sem] def hM (x : tMt) : Option (List AV) := some [.str x.Sel, .sl none (List.map AV.str x.Args), .sl none (List.map AV.str x.Temps), .sl none (List.map zAu x.Nodes), .sl none (List.map (AV.int .i64) x.Body)]
@[go_sem] def hN (k : Int) (s : Str) (n : Int) (l : List Str) (ks : List Int) : Option (List AV) := some [.int .u8 k, .str s, .int .i64 n, .sl none (List.map AV.str l), .sl none (List.map (AV.int .i64) ks)]
end Go.Cq
namespace Go.Av
open Go
variable [Lay] {P : Program} {nb : Nat} {R : Rt} {d : Bool} {k1 k2 : List Item} {tm : List AV} {hp : Heap}
end Go.Av

