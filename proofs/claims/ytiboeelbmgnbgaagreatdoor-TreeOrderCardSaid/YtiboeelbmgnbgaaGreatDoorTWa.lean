import Derived.Test.YtiboeelbmgnbgaaGreatDoorTW1
set_option linter.unusedSectionVars false
set_option linter.unusedVariables false
set_option linter.unusedSimpArgs false
set_option linter.unnecessarySimpa false
set_option linter.unusedVariables false
set_option linter.unusedSimpArgs false
set_option maxRecDepth 100000
set_option maxHeartbeats 4000000
set_option pp.maxSteps 400
namespace Go.Cq
open Nat (reduceAdd reduceLT reduceLeDiff reduceEqDiff)
open Go Go.Av Go.Proofs
variable [Lay] [SeatLay]
attribute [local irreducible] hold ex W Wr nd cndV rgO exitO grdO grdV grdG callX alcX stX nckX
theorem w_law14_TreeOrder {m : ref14_Method}   {r : Bool} (h : law14_TreeOrder m = some r) : ACall Tryz.prog 8 [enc_ref14_Method m] [] (.bool r) [] := by
 refine acallX 10000 hf8 ok8 (by first | rfl | simp only [go_sem]) meek_bool ?_
 dsimp only [Tryz.f8, nums, Option.getD, List.append]
 unfold law14_TreeOrder at h
 refine bsome h fun v1 hv1 h => ?_
 simp only [go_sem, reduceAdd, reduceLT, reduceLeDiff, reduceEqDiff, Nat.reduceBEq, Nat.reduceBNe]
 refine callX_ 10000 (w_law14_giveMethod  hv1) (by first | rfl | simp only [go_sem]) (by first | rfl | simp only [go_sem]) ?_
 simp only [go_sem, reduceAdd, reduceLT, reduceLeDiff, reduceEqDiff, Nat.reduceBEq, Nat.reduceBNe]
 refine bsome h fun y2 hy2 h => ?_
 refine rgJ 155 10000 (.inl rfl) (fun w => w [(1, .ptr 0 0), (3, .ptr 1 0), (20, .bool y2)] [some [.str m.Sel, .sl none (List.map AV.str m.Args), .sl none (List.map AV.str m.Temps), .sl none (List.map enc_ref14_Node m.Nodes), .sl none (List.map (AV.int .i64) m.Body)], some [.str v1.Sel, .sl none (List.map AV.str v1.Args), .sl none (List.map AV.str v1.Temps), .sl none (List.map enc_tree_Node v1.Nodes), .sl none (List.map (AV.int .i64) v1.Body)]]) (runX 10000 ?_) (fun Jy2 => ?_)
 ·clear hy2
  simp only [go_sem, reduceAdd, reduceLT, reduceLeDiff, reduceEqDiff, Nat.reduceBEq, Nat.reduceBNe]
  refine cnd_s 10000 h (fun hb h => ?_) (fun hb h => ?_)
  ·refine bsome h fun v7 hv7 h => ?_
   simp only [go_sem, reduceAdd, reduceLT, reduceLeDiff, reduceEqDiff, Nat.reduceBEq, Nat.reduceBNe]
   refine callX_ 10000 (w_law14_sure  hv7) (by first | rfl | simp only [go_sem]) (by first | rfl | simp only [go_sem]) ?_
   simp only [go_sem, reduceAdd, reduceLT, reduceLeDiff, reduceEqDiff, Nat.reduceBEq, Nat.reduceBNe]
   refine ret_s (fun x => .bool x) h ?_
   first | rfl | simp only [go_sem, resAV, resAll, resOne, reduceAdd, reduceLT, reduceLeDiff, reduceEqDiff, Nat.reduceBEq, Nat.reduceBNe]
  ·simp only [go_sem, reduceAdd, reduceLT, reduceLeDiff, reduceEqDiff, Nat.reduceBEq, Nat.reduceBNe]
   refine mkL_s h fun v9 e8 h => ?_
   refine makeB_ 10000 (AV.int .i64) (0 : Int) false el24 rfl ze3 (plain_int _) rfl rfl (by first | rfl | simp only [go_sem]) (by first | rfl | simp only [go_sem]) e8 2 rfl rfl ?_
   simp only [go_sem, reduceAdd, reduceLT, reduceLeDiff, reduceEqDiff, Nat.reduceBEq, Nat.reduceBNe]
   refine letK_s h fun K11 hK11 h => ?_
   refine blkJ 155 10000 (fun w => ∀ (v173 : (List Int)), K11 v173 = some r → w [(1, .ptr 0 0), (3, .ptr 1 0), (4, .rs 2 0 v173.length 1 false false)] [some [.str m.Sel, .sl none (List.map AV.str m.Args), .sl none (List.map AV.str m.Temps), .sl none (List.map enc_ref14_Node m.Nodes), .sl none (List.map (AV.int .i64) m.Body)], some [.str v1.Sel, .sl none (List.map AV.str v1.Args), .sl none (List.map AV.str v1.Temps), .sl none (List.map enc_tree_Node v1.Nodes), .sl none (List.map (AV.int .i64) v1.Body)], some (List.map (AV.int .i64) v173)]) (fun v173 h => runX 10000 ?_) (fun JK11 => ?_)
   ·subst hK11
    dsimp only at h
    simp only [go_sem, reduceAdd, reduceLT, reduceLeDiff, reduceEqDiff, Nat.reduceBEq, Nat.reduceBNe]
    refine bsome h fun y174 hy174 h => ?_
    refine blkJ 155 10000 (fun w => w [(1, .ptr 0 0), (3, .ptr 1 0), (4, .rs 2 0 y174.length 1 false false)] [some [.str m.Sel, .sl none (List.map AV.str m.Args), .sl none (List.map AV.str m.Temps), .sl none (List.map enc_ref14_Node m.Nodes), .sl none (List.map (AV.int .i64) m.Body)], some [.str v1.Sel, .sl none (List.map AV.str v1.Args), .sl none (List.map AV.str v1.Temps), .sl none (List.map enc_tree_Node v1.Nodes), .sl none (List.map (AV.int .i64) v1.Body)], some (List.map (AV.int .i64) y174)]) (runX 10000 ?_) (fun Jy174 => ?_)
    ·clear hy174
     simp only [go_sem, reduceAdd, reduceLT, reduceLeDiff, reduceEqDiff, Nat.reduceBEq, Nat.reduceBNe]
     refine letK_s h fun K214 hK214 h => ?_
     refine blkJ 155 10000 (fun w => K214 () = some r → w [(1, .ptr 0 0), (3, .ptr 1 0)] [some [.str m.Sel, .sl none (List.map AV.str m.Args), .sl none (List.map AV.str m.Temps), .sl none (List.map enc_ref14_Node m.Nodes), .sl none (List.map (AV.int .i64) m.Body)], some [.str v1.Sel, .sl none (List.map AV.str v1.Args), .sl none (List.map AV.str v1.Temps), .sl none (List.map enc_tree_Node v1.Nodes), .sl none (List.map (AV.int .i64) v1.Body)], some (List.map (AV.int .i64) y174)]) (fun  h => runX 10000 ?_) (fun JK214 => ?_)
     ·subst hK214
      dsimp only at h
      simp only [go_sem, reduceAdd, reduceLT, reduceLeDiff, reduceEqDiff, Nat.reduceBEq, Nat.reduceBNe]
      refine cnd_s 10000 h (fun hb h => ?_) (fun hb h => ?_)
      ·simp only [go_sem, reduceAdd, reduceLT, reduceLeDiff, reduceEqDiff, Nat.reduceBEq, Nat.reduceBNe]
       refine bsome h fun y225 hy225 h => ?_
       refine rgJ 155 10000 (.inl rfl) (fun w => w [(2, .bool y225)] [some [.str m.Sel, .sl none (List.map AV.str m.Args), .sl none (List.map AV.str m.Temps), .sl none (List.map enc_ref14_Node m.Nodes), .sl none (List.map (AV.int .i64) m.Body)], some [.str v1.Sel, .sl none (List.map AV.str v1.Args), .sl none (List.map AV.str v1.Temps), .sl none (List.map enc_tree_Node v1.Nodes), .sl none (List.map (AV.int .i64) v1.Body)], some (List.map (AV.int .i64) y174)]) (runX 10000 ?_) (fun Jy225 => ?_)
       ·clear hy225
        simp only [go_sem, reduceAdd, reduceLT, reduceLeDiff, reduceEqDiff, Nat.reduceBEq, Nat.reduceBNe]
        refine ret_s (fun x => .bool x) h ?_
        first | rfl | simp only [go_sem, resAV, resAll, resOne, reduceAdd, reduceLT, reduceLeDiff, reduceEqDiff, Nat.reduceBEq, Nat.reduceBNe]
       ·clear h
        have h := hy225
        simp only [go_sem, reduceAdd, reduceLT, reduceLeDiff, reduceEqDiff, Nat.reduceBEq, Nat.reduceBNe]
        refine grd_ (fun hb227 => ?_) (fun hb227 => ?_)
        ·have h := ite_t hb227 h
         refine bsome h fun v228 hv228 h => ?_
         simp only [go_sem, reduceAdd, reduceLT, reduceLeDiff, reduceEqDiff, Nat.reduceBEq, Nat.reduceBNe]
         refine callX_ 10000 (w_law14_sure  hv228) (by first | rfl | simp only [go_sem]) (by first | rfl | simp only [go_sem]) ?_
         simp only [go_sem, reduceAdd, reduceLT, reduceLeDiff, reduceEqDiff, Nat.reduceBEq, Nat.reduceBNe]
         obtain rfl := Option.some.inj h
         exact atJ (wkn (Jy225) ⟨rfl, trivial⟩)
        ·have h := ite_f hb227 h
         simp only [go_sem, reduceAdd, reduceLT, reduceLeDiff, reduceEqDiff, Nat.reduceBEq, Nat.reduceBNe]
         obtain rfl := Option.some.inj h
         exact atJ (wkn (Jy225) ⟨rfl, trivial⟩)
      ·simp only [go_sem, reduceAdd, reduceLT, reduceLeDiff, reduceEqDiff, Nat.reduceBEq, Nat.reduceBNe]
       refine callX_ 10000 (w_law14_giveMethod  hv1) (by first | rfl | simp only [go_sem]) (by first | rfl | simp only [go_sem]) ?_
       refine sub_s h fun v230 _ e229 h => ?_
       refine subL_s enc_tree_Node none ⟨59, 5, true, 80⟩ (fun _ => rfl) none (some (.int .i64 v230)) rfl rfl h fun v233 _ b231 e232 h => ?_
       simp only [go_sem, reduceAdd, reduceLT, reduceLeDiff, reduceEqDiff, Nat.reduceBEq, Nat.reduceBNe, e229, b231, e232]
       refine callX_ 10000 (w_law14_giveMethod  hv1) (by first | rfl | simp only [go_sem]) (by first | rfl | simp only [go_sem]) ?_
       refine sub_s h fun v235 _ e234 h => ?_
       refine subL_s (AV.int .i64) none ⟨3, 1, false, 8⟩ (fun _ => rfl) none (some (.int .i64 v235)) rfl rfl h fun v238 _ b236 e237 h => ?_
       simp only [go_sem, reduceAdd, reduceLT, reduceLeDiff, reduceEqDiff, Nat.reduceBEq, Nat.reduceBNe, e234, b236, e237]
       refine bsome h fun y239 hy239 h => ?_
       refine rgJ 155 10000 (.inl rfl) (fun w => w [(2, .bool y239)] [some [.str m.Sel, .sl none (List.map AV.str m.Args), .sl none (List.map AV.str m.Temps), .sl none (List.map enc_ref14_Node m.Nodes), .sl none (List.map (AV.int .i64) m.Body)], some [.str v1.Sel, .sl none (List.map AV.str v1.Args), .sl none (List.map AV.str v1.Temps), .sl none (List.map enc_tree_Node v1.Nodes), .sl none (List.map (AV.int .i64) v1.Body)], some (List.map (AV.int .i64) y174), some [.str v1.Sel, .sl none (List.map AV.str v1.Args), .sl none (List.map AV.str v1.Temps), .sl none (List.map enc_tree_Node v233), .sl none (List.map (AV.int .i64) v1.Body)], some [.str v1.Sel, .sl none (List.map AV.str v1.Args), .sl none (List.map AV.str v1.Temps), .sl none (List.map enc_tree_Node v1.Nodes), .sl none (List.map (AV.int .i64) v238)]]) (runX 10000 ?_) (fun Jy239 => ?_)
       ·clear hy239
        simp only [go_sem, reduceAdd, reduceLT, reduceLeDiff, reduceEqDiff, Nat.reduceBEq, Nat.reduceBNe]
        refine ret_s (fun x => .bool x) h ?_
        first | rfl | simp only [go_sem, resAV, resAll, resOne, reduceAdd, reduceLT, reduceLeDiff, reduceEqDiff, Nat.reduceBEq, Nat.reduceBNe]
       ·clear h
        have h := hy239
        refine bsome h fun v241 hv241 h => ?_
        simp only [go_sem, reduceAdd, reduceLT, reduceLeDiff, reduceEqDiff, Nat.reduceBEq, Nat.reduceBNe]
        refine callX_ 10000 (w_tree_Check  hv241) (by first | rfl | simp only [go_sem]) (by first | rfl | simp only [go_sem]) ?_
        refine bsome h fun v242 hv242 h => ?_
        simp only [go_sem, reduceAdd, reduceLT, reduceLeDiff, reduceEqDiff, Nat.reduceBEq, Nat.reduceBNe]
        refine callX_ 10000 (w_law_num  hv242) (by first | rfl | simp only [go_sem]) (by first | rfl | simp only [go_sem]) ?_
        simp only [go_sem, reduceAdd, reduceLT, reduceLeDiff, reduceEqDiff, Nat.reduceBEq, Nat.reduceBNe]
        refine grd_ (fun hb243 => ?_) (fun hb243 => ?_)
        ·have h := ite_t hb243 h
         refine bsome h fun v244 hv244 h => ?_
         simp only [go_sem, reduceAdd, reduceLT, reduceLeDiff, reduceEqDiff, Nat.reduceBEq, Nat.reduceBNe]
         refine callX_ 10000 (w_tree_Check  hv244) (by first | rfl | simp only [go_sem]) (by first | rfl | simp only [go_sem]) ?_
         refine bsome h fun v245 hv245 h => ?_
         simp only [go_sem, reduceAdd, reduceLT, reduceLeDiff, reduceEqDiff, Nat.reduceBEq, Nat.reduceBNe]
         refine callX_ 10000 (w_law_num  hv245) (by first | rfl | simp only [go_sem]) (by first | rfl | simp only [go_sem]) ?_
         simp only [go_sem, reduceAdd, reduceLT, reduceLeDiff, reduceEqDiff, Nat.reduceBEq, Nat.reduceBNe]
         refine grd_ (fun hb246 => ?_) (fun hb246 => ?_)
         ·have h := ite_t hb246 h
          refine bsome h fun v247 hv247 h => ?_
          simp only [go_sem, reduceAdd, reduceLT, reduceLeDiff, reduceEqDiff, Nat.reduceBEq, Nat.reduceBNe]
          refine callX_ 10000 (w_law14_sure  hv247) (by first | rfl | simp only [go_sem]) (by first | rfl | simp only [go_sem]) ?_
          simp only [go_sem, reduceAdd, reduceLT, reduceLeDiff, reduceEqDiff, Nat.reduceBEq, Nat.reduceBNe]
          obtain rfl := Option.some.inj h
          exact atJ (wkn (Jy239) ⟨rfl, trivial⟩)
         ·have h := ite_f hb246 h
          simp only [go_sem, reduceAdd, reduceLT, reduceLeDiff, reduceEqDiff, Nat.reduceBEq, Nat.reduceBNe]
          obtain rfl := Option.some.inj h
          exact atJ (wkn (Jy239) ⟨rfl, trivial⟩)
        ·have h := ite_f hb243 h
         simp only [go_sem, reduceAdd, reduceLT, reduceLeDiff, reduceEqDiff, Nat.reduceBEq, Nat.reduceBNe]
         obtain rfl := Option.some.inj h
         exact atJ (wkn (Jy239) ⟨rfl, trivial⟩)
     ·clear hK214
      simp only [go_sem, reduceAdd, reduceLT, reduceLeDiff, reduceEqDiff, Nat.reduceBEq, Nat.reduceBNe]
      refine lpJ 155 fuel (fun q5 w => ∀ (v215 : Int), law14_TreeOrder_l5 y174 K214 q5 v215 = some r → w [(1, .ptr 0 0), (3, .ptr 1 0), (4, .rs 2 0 y174.length 1 false false), (9, .int .i64 v215)] [some [.str m.Sel, .sl none (List.map AV.str m.Args), .sl none (List.map AV.str m.Temps), .sl none (List.map enc_ref14_Node m.Nodes), .sl none (List.map (AV.int .i64) m.Body)], some [.str v1.Sel, .sl none (List.map AV.str v1.Args), .sl none (List.map AV.str v1.Temps), .sl none (List.map enc_tree_Node v1.Nodes), .sl none (List.map (AV.int .i64) v1.Body)], some (List.map (AV.int .i64) y174)]) (fun w _ h => nomatch h) (fun q5 ih5 v215 h => ?_) (fun L5 => ?_)
      ·unfold law14_TreeOrder_l5 at h
       refine runL 10000 ?_
       simp only [go_sem, reduceAdd, reduceLT, reduceLeDiff, reduceEqDiff, Nat.reduceBEq, Nat.reduceBNe]
       refine cnd_s 10000 h (fun hb h => ?_) (fun hb h => ?_)
       ·simp only [go_sem, reduceAdd, reduceLT, reduceLeDiff, reduceEqDiff, Nat.reduceBEq, Nat.reduceBNe]
        refine blk_ 10000 ?_
        refine bAt_s (AV.int .i64) .i64 ⟨3, 1, false, 8⟩ rfl 2 false false rfl h fun v222 _ e216 e217 e218 e219 e220 e221 h => ?_
        simp only [go_sem, reduceAdd, reduceLT, reduceLeDiff, reduceEqDiff, Nat.reduceBEq, Nat.reduceBNe, e216, e217, e218, e219, e220]
        refine cnd_s 10000 h (fun hb h => ?_) (fun hb h => ?_)
        ·simp only [go_sem, reduceAdd, reduceLT, reduceLeDiff, reduceEqDiff, Nat.reduceBEq, Nat.reduceBNe]
         refine ret_s (fun x => .bool x) h ?_
         first | rfl | simp only [go_sem, resAV, resAll, resOne, reduceAdd, reduceLT, reduceLeDiff, reduceEqDiff, Nat.reduceBEq, Nat.reduceBNe]
        ·refine add_s h fun v224 _ e223 h => ?_
         simp only [go_sem, reduceAdd, reduceLT, reduceLeDiff, reduceEqDiff, Nat.reduceBEq, Nat.reduceBNe, e223]
         exact lp_back (ih5 v224 h) ⟨rfl, rfl, rfl, rfl, trivial⟩
       ·simp only [go_sem, reduceAdd, reduceLT, reduceLeDiff, reduceEqDiff, Nat.reduceBEq, Nat.reduceBNe]
        exact atJ (wkn (JK214  h) ⟨rfl, rfl, trivial⟩)
      ·exact lp_back (L5 0 h) ⟨rfl, rfl, rfl, rfl, trivial⟩
    ·clear h
     have h := hy174
     simp only [go_sem, reduceAdd, reduceLT, reduceLeDiff, reduceEqDiff, Nat.reduceBEq, Nat.reduceBNe]
     refine lpJ 155 fuel (fun q4 w => ∀ (v194 : Int) (v195 : (List Int)), law14_TreeOrder_l4 v1 q4 v194 v195 = some y174 → w [(1, .ptr 0 0), (3, .ptr 1 0), (4, .rs 2 0 v195.length 1 false false), (8, .int .i64 v194)] [some [.str m.Sel, .sl none (List.map AV.str m.Args), .sl none (List.map AV.str m.Temps), .sl none (List.map enc_ref14_Node m.Nodes), .sl none (List.map (AV.int .i64) m.Body)], some [.str v1.Sel, .sl none (List.map AV.str v1.Args), .sl none (List.map AV.str v1.Temps), .sl none (List.map enc_tree_Node v1.Nodes), .sl none (List.map (AV.int .i64) v1.Body)], some (List.map (AV.int .i64) v195)]) (fun w _ _ h => nomatch h) (fun q4 ih4 v194 v195 h => ?_) (fun L4 => ?_)
     ·unfold law14_TreeOrder_l4 at h
      refine runL 10000 ?_
      simp only [go_sem, reduceAdd, reduceLT, reduceLeDiff, reduceEqDiff, Nat.reduceBEq, Nat.reduceBNe]
      refine cnd_s 10000 h (fun hb h => ?_) (fun hb h => ?_)
      ·simp only [go_sem, reduceAdd, reduceLT, reduceLeDiff, reduceEqDiff, Nat.reduceBEq, Nat.reduceBNe]
       refine blk_ 10000 ?_
       refine lAt_s (AV.int .i64) none .i64 ⟨3, 1, false, 8⟩ (fun _ => rfl) h fun v198 _ b196 e197 h => ?_
       refine bAt_s (AV.int .i64) .i64 ⟨3, 1, false, 8⟩ rfl 2 false false rfl h fun v205 _ e199 e200 e201 e202 e203 e204 h => ?_
       refine add_s h fun v207 _ e206 h => ?_
       refine stB_s h fun v210 e208 e209 h => ?_
       refine add_s h fun v212 _ e211 h => ?_
       simp only [go_sem, reduceAdd, reduceLT, reduceLeDiff, reduceEqDiff, Nat.reduceBEq, Nat.reduceBNe, b196, e197, e199, e200, e201, e202, e203, e206, e204, e208, e211]
       exact lp_back (ih4 v212 v210 h) ⟨rfl, rfl, congrArg (fun n => AV.rs 2 0 n 1 false false) e209.symm, rfl, trivial⟩
      ·simp only [go_sem, reduceAdd, reduceLT, reduceLeDiff, reduceEqDiff, Nat.reduceBEq, Nat.reduceBNe]
       obtain rfl := Option.some.inj h
       exact atJ (wkn (Jy174) ⟨rfl, rfl, rfl, trivial⟩)
     ·exact lp_back (L4 0 v173 h) ⟨rfl, rfl, rfl, rfl, trivial⟩
   ·clear hK11
    simp only [go_sem, reduceAdd, reduceLT, reduceLeDiff, reduceEqDiff, Nat.reduceBEq, Nat.reduceBNe]
    refine lpJ 155 fuel (fun q1 w => ∀ (v92 : Int) (v93 : (List Int)), law14_TreeOrder_l1 v1 K11 q1 v92 v93 = some r → w [(1, .ptr 0 0), (3, .ptr 1 0), (4, .rs 2 0 v93.length 1 false false), (5, .int .i64 v92)] [some [.str m.Sel, .sl none (List.map AV.str m.Args), .sl none (List.map AV.str m.Temps), .sl none (List.map enc_ref14_Node m.Nodes), .sl none (List.map (AV.int .i64) m.Body)], some [.str v1.Sel, .sl none (List.map AV.str v1.Args), .sl none (List.map AV.str v1.Temps), .sl none (List.map enc_tree_Node v1.Nodes), .sl none (List.map (AV.int .i64) v1.Body)], some (List.map (AV.int .i64) v93)]) (fun w _ _ h => nomatch h) (fun q1 ih1 v92 v93 h => ?_) (fun L1 => ?_)
    ·unfold law14_TreeOrder_l1 at h
     refine runL 10000 ?_
     simp only [go_sem, reduceAdd, reduceLT, reduceLeDiff, reduceEqDiff, Nat.reduceBEq, Nat.reduceBNe]
     refine cnd_s 10000 h (fun hb h => ?_) (fun hb h => ?_)
     ·simp only [go_sem, reduceAdd, reduceLT, reduceLeDiff, reduceEqDiff, Nat.reduceBEq, Nat.reduceBNe]
      refine blk_ 10000 ?_
      refine lAt_s enc_tree_Node none .i64 ⟨59, 5, true, 80⟩ (fun _ => rfl) h fun v96 _ b94 e95 h => ?_
      simp only [go_sem, reduceAdd, reduceLT, reduceLeDiff, reduceEqDiff, Nat.reduceBEq, Nat.reduceBNe, b94, e95]
      refine letK_s h fun K98 hK98 h => ?_
      refine blkJ 155 10000 (fun w => ∀ (v170 : (List Int)), K98 v170 = some r → w [(1, .ptr 0 0), (3, .ptr 1 0), (4, .rs 2 0 v170.length 1 false false), (5, .int .i64 v92)] [some [.str m.Sel, .sl none (List.map AV.str m.Args), .sl none (List.map AV.str m.Temps), .sl none (List.map enc_ref14_Node m.Nodes), .sl none (List.map (AV.int .i64) m.Body)], some [.str v1.Sel, .sl none (List.map AV.str v1.Args), .sl none (List.map AV.str v1.Temps), .sl none (List.map enc_tree_Node v1.Nodes), .sl none (List.map (AV.int .i64) v1.Body)], some (List.map (AV.int .i64) v170)]) (fun v170 h => runX 10000 ?_) (fun JK98 => ?_)
      ·subst hK98
       dsimp only at h
       refine add_s h fun v172 _ e171 h => ?_
       simp only [go_sem, reduceAdd, reduceLT, reduceLeDiff, reduceEqDiff, Nat.reduceBEq, Nat.reduceBNe, e171]
       exact lp_back (ih1 v172 v170 h) ⟨rfl, rfl, rfl, rfl, trivial⟩
      ·clear hK98
       simp only [go_sem, reduceAdd, reduceLT, reduceLeDiff, reduceEqDiff, Nat.reduceBEq, Nat.reduceBNe]
       refine lpJ 155 fuel (fun q3 w => ∀ (v134 : Int) (v135 : (List Int)), law14_TreeOrder_l3 v92 v96 K98 q3 v134 v135 = some r → w [(1, .ptr 0 0), (3, .ptr 1 0), (4, .rs 2 0 v135.length 1 false false), (5, .int .i64 v92), (6, .sl none (List.map (AV.int .i64) v96.Kids)), (7, .int .i64 v134)] [some [.str m.Sel, .sl none (List.map AV.str m.Args), .sl none (List.map AV.str m.Temps), .sl none (List.map enc_ref14_Node m.Nodes), .sl none (List.map (AV.int .i64) m.Body)], some [.str v1.Sel, .sl none (List.map AV.str v1.Args), .sl none (List.map AV.str v1.Temps), .sl none (List.map enc_tree_Node v1.Nodes), .sl none (List.map (AV.int .i64) v1.Body)], some (List.map (AV.int .i64) v135)]) (fun w _ _ h => nomatch h) (fun q3 ih3 v134 v135 h => ?_) (fun L3 => ?_)
       ·unfold law14_TreeOrder_l3 at h
        refine runL 10000 ?_
        simp only [go_sem, reduceAdd, reduceLT, reduceLeDiff, reduceEqDiff, Nat.reduceBEq, Nat.reduceBNe]
        refine cnd_s 10000 h (fun hb h => ?_) (fun hb h => ?_)
        ·simp only [go_sem, reduceAdd, reduceLT, reduceLeDiff, reduceEqDiff, Nat.reduceBEq, Nat.reduceBNe]
         refine blk_ 10000 ?_
         simp only [go_sem, reduceAdd, reduceLT, reduceLeDiff, reduceEqDiff, Nat.reduceBEq, Nat.reduceBNe]
         refine bsome h fun y136 hy136 h => ?_
         refine rgJ 155 10000 (.inr ⟨[], by kernel_rfl, by kernel_rfl, by rfl⟩) (fun w => w [(1, .ptr 0 0), (3, .ptr 1 0), (4, .rs 2 0 v135.length 1 false false), (5, .int .i64 v92), (6, .sl none (List.map (AV.int .i64) v96.Kids)), (7, .int .i64 v134), (73, .bool y136)] [some [.str m.Sel, .sl none (List.map AV.str m.Args), .sl none (List.map AV.str m.Temps), .sl none (List.map enc_ref14_Node m.Nodes), .sl none (List.map (AV.int .i64) m.Body)], some [.str v1.Sel, .sl none (List.map AV.str v1.Args), .sl none (List.map AV.str v1.Temps), .sl none (List.map enc_tree_Node v1.Nodes), .sl none (List.map (AV.int .i64) v1.Body)], some (List.map (AV.int .i64) v135)]) (runX 10000 ?_) (fun Jy136 => ?_)
         ·clear hy136
          simp only [go_sem, reduceAdd, reduceLT, reduceLeDiff, reduceEqDiff, Nat.reduceBEq, Nat.reduceBNe]
          refine cnd_s 10000 h (fun hb h => ?_) (fun hb h => ?_)
          ·simp only [go_sem, reduceAdd, reduceLT, reduceLeDiff, reduceEqDiff, Nat.reduceBEq, Nat.reduceBNe]
           refine ret_s (fun x => .bool x) h ?_
           first | rfl | simp only [go_sem, resAV, resAll, resOne, reduceAdd, reduceLT, reduceLeDiff, reduceEqDiff, Nat.reduceBEq, Nat.reduceBNe]
          ·refine lAt_s (AV.int .i64) none .i64 ⟨3, 1, false, 8⟩ (fun _ => rfl) h fun v155 _ b153 e154 h => ?_
           refine bAt_s (AV.int .i64) .i64 ⟨3, 1, false, 8⟩ rfl 2 false false rfl h fun v162 _ e156 e157 e158 e159 e160 e161 h => ?_
           refine add_s h fun v164 _ e163 h => ?_
           refine stB_s h fun v167 e165 e166 h => ?_
           refine add_s h fun v169 _ e168 h => ?_
           simp only [go_sem, reduceAdd, reduceLT, reduceLeDiff, reduceEqDiff, Nat.reduceBEq, Nat.reduceBNe, b153, e154, e156, e157, e158, e159, e160, e163, e161, e165, e168]
           exact lp_back (ih3 v169 v167 h) ⟨rfl, rfl, congrArg (fun n => AV.rs 2 0 n 1 false false) e166.symm, rfl, rfl, rfl, trivial⟩
         ·clear h
          have h := hy136
          refine lAt_s (AV.int .i64) none .i64 ⟨3, 1, false, 8⟩ (fun _ => rfl) h fun v140 _ b138 e139 h => ?_
          simp only [go_sem, reduceAdd, reduceLT, reduceLeDiff, reduceEqDiff, Nat.reduceBEq, Nat.reduceBNe, b138, e139]
          refine grd_ (fun hb141 => ?_) (fun hb141 => ?_)
          ·have h := ite_f hb141 h
           simp only [go_sem, reduceAdd, reduceLT, reduceLeDiff, reduceEqDiff, Nat.reduceBEq, Nat.reduceBNe, b138, e139]
           refine grd_ (fun hb144 => ?_) (fun hb144 => ?_)
           ·have h := ite_f hb144 h
            simp only [go_sem, reduceAdd, reduceLT, reduceLeDiff, reduceEqDiff, Nat.reduceBEq, Nat.reduceBNe]
            refine grd_ (fun hb145 => ?_) (fun hb145 => ?_)
            ·have h := ite_t hb145 h
             refine sub_s h fun v149 _ e148 h => ?_
             refine lAt_s (AV.int .i64) none .i64 ⟨3, 1, false, 8⟩ (fun _ => rfl) h fun v152 _ b150 e151 h => ?_
             simp only [go_sem, reduceAdd, reduceLT, reduceLeDiff, reduceEqDiff, Nat.reduceBEq, Nat.reduceBNe, b138, e139, e148, b150, e151]
             obtain rfl := Option.some.inj h
             exact atJ (wkn (Jy136) ⟨rfl, rfl, rfl, rfl, rfl, rfl, rfl, trivial⟩)
            ·have h := ite_f hb145 h
             simp only [go_sem, reduceAdd, reduceLT, reduceLeDiff, reduceEqDiff, Nat.reduceBEq, Nat.reduceBNe]
             obtain rfl := Option.some.inj h
             exact atJ (wkn (Jy136) ⟨rfl, rfl, rfl, rfl, rfl, rfl, rfl, trivial⟩)
           ·have h := ite_t hb144 h
            simp only [go_sem, reduceAdd, reduceLT, reduceLeDiff, reduceEqDiff, Nat.reduceBEq, Nat.reduceBNe]
            obtain rfl := Option.some.inj h
            exact atJ (wkn (Jy136) ⟨rfl, rfl, rfl, rfl, rfl, rfl, rfl, trivial⟩)
          ·have h := ite_t hb141 h
           simp only [go_sem, reduceAdd, reduceLT, reduceLeDiff, reduceEqDiff, Nat.reduceBEq, Nat.reduceBNe]
           obtain rfl := Option.some.inj h
           exact atJ (wkn (Jy136) ⟨rfl, rfl, rfl, rfl, rfl, rfl, rfl, trivial⟩)
        ·simp only [go_sem, reduceAdd, reduceLT, reduceLeDiff, reduceEqDiff, Nat.reduceBEq, Nat.reduceBNe]
         exact atJ (wkn (JK98 v135 h) ⟨rfl, rfl, rfl, rfl, trivial⟩)
       ·exact lp_back (L3 0 v93 h) ⟨rfl, rfl, rfl, rfl, rfl, rfl, trivial⟩
     ·simp only [go_sem, reduceAdd, reduceLT, reduceLeDiff, reduceEqDiff, Nat.reduceBEq, Nat.reduceBNe]
      exact atJ (wkn (JK11 v93 h) ⟨rfl, rfl, rfl, trivial⟩)
    ·exact lp_back (L1 0 v9 h) ⟨rfl, rfl, rfl, rfl, trivial⟩
 ·clear h
  have h := hy2
  refine bsome h fun v4 hv4 h => ?_
  simp only [go_sem, reduceAdd, reduceLT, reduceLeDiff, reduceEqDiff, Nat.reduceBEq, Nat.reduceBNe]
  refine callX_ 10000 (w_law14_bigTree  hv4) (by first | rfl | simp only [go_sem]) (by first | rfl | simp only [go_sem]) ?_
  simp only [go_sem, reduceAdd, reduceLT, reduceLeDiff, reduceEqDiff, Nat.reduceBEq, Nat.reduceBNe]
  refine grd_ (fun hb5 => ?_) (fun hb5 => ?_)
  ·have h := ite_f hb5 h
   refine bsome h fun v6 hv6 h => ?_
   simp only [go_sem, reduceAdd, reduceLT, reduceLeDiff, reduceEqDiff, Nat.reduceBEq, Nat.reduceBNe]
   refine callX_ 10000 (w_tree_Check  hv6) (by first | rfl | simp only [go_sem]) (by first | rfl | simp only [go_sem]) ?_
   simp only [go_sem, reduceAdd, reduceLT, reduceLeDiff, reduceEqDiff, Nat.reduceBEq, Nat.reduceBNe]
   obtain rfl := Option.some.inj h
   exact atJ (wkn (Jy2) ⟨rfl, rfl, rfl, trivial⟩)
  ·have h := ite_t hb5 h
   simp only [go_sem, reduceAdd, reduceLT, reduceLeDiff, reduceEqDiff, Nat.reduceBEq, Nat.reduceBNe]
   obtain rfl := Option.some.inj h
   exact atJ (wkn (Jy2) ⟨rfl, rfl, rfl, trivial⟩)
end Go.Cq

