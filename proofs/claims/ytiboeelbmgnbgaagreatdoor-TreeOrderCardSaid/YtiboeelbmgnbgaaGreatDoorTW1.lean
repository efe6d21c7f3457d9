import Derived.Test.YtiboeelbmgnbgaaGreatDoorTEn
import Derived.Test.YtiboeelbmgnbgaaGreatDoorTHa
set_option linter.unusedSectionVars false
set_option linter.unusedVariables false
set_option linter.unusedSimpArgs false
set_option linter.unnecessarySimpa false
set_option linter.unusedVariables false
set_option linter.unusedSimpArgs false
set_option maxRecDepth 100000
set_option maxHeartbeats 4000000
set_option pp.maxSteps 400
namespace Go.Cq
open Nat (reduceAdd reduceLT reduceLeDiff reduceEqDiff)
open Go Go.Av Go.Proofs
variable [Lay] [SeatLay]
attribute [local irreducible] hold ex W Wr nd cndV rgO exitO grdO grdV grdG callX alcX stX nckX
theorem w_law14_bigTexts {l : (List Str)}   {r : Bool} (h : law14_bigTexts l = some r) : ACall Tryz.prog 36 [.sl none (List.map AV.str l)] [] (.bool r) [] := by
 refine acallX 10000 hf36 ok36 (by first | rfl | simp only [go_sem]) meek_bool ?_
 dsimp only [Tryz.f36, nums, Option.getD, List.append]
 unfold law14_bigTexts at h
 simp only [go_sem, reduceAdd, reduceLT, reduceLeDiff, reduceEqDiff, Nat.reduceBEq, Nat.reduceBNe]
 refine letK_s h fun K2 hK2 h => ?_
 refine blkJ 23 10000 (fun w => K2 () = some r → w [(0, .sl none (List.map AV.str l))] []) (fun  h => runX 10000 ?_) (fun JK2 => ?_)
 ·subst hK2
  dsimp only at h
  simp only [go_sem, reduceAdd, reduceLT, reduceLeDiff, reduceEqDiff, Nat.reduceBEq, Nat.reduceBNe]
  refine ret_s (fun x => .bool x) h ?_
  first | rfl | simp only [go_sem, resAV, resAll, resOne, reduceAdd, reduceLT, reduceLeDiff, reduceEqDiff, Nat.reduceBEq, Nat.reduceBNe]
 ·clear hK2
  simp only [go_sem, reduceAdd, reduceLT, reduceLeDiff, reduceEqDiff, Nat.reduceBEq, Nat.reduceBNe]
  refine lpJ 23 fuel (fun q1 w => ∀ (v3 : Int), law14_bigTexts_l1 l K2 q1 v3 = some r → w [(0, .sl none (List.map AV.str l)), (3, .int .i64 v3)] []) (fun w _ h => nomatch h) (fun q1 ih1 v3 h => ?_) (fun L1 => ?_)
  ·unfold law14_bigTexts_l1 at h
   refine runL 10000 ?_
   simp only [go_sem, reduceAdd, reduceLT, reduceLeDiff, reduceEqDiff, Nat.reduceBEq, Nat.reduceBNe]
   refine rgJ 23 10000 (.inl rfl) (fun w => w [(0, .sl none (List.map AV.str l)), (3, .int .i64 v3), (11, .bool ((decide (v3 < (l.length : Int))) && (decide (v3 < 40))))] []) (runX 10000 ?_) (fun Jg4 => ?_)
   ·simp only [go_sem, reduceAdd, reduceLT, reduceLeDiff, reduceEqDiff, Nat.reduceBEq, Nat.reduceBNe]
    refine cnd_s 10000 h (fun hb h => ?_) (fun hb h => ?_)
    ·simp only [go_sem, reduceAdd, reduceLT, reduceLeDiff, reduceEqDiff, Nat.reduceBEq, Nat.reduceBNe]
     refine blk_ 10000 ?_
     refine lAt_s AV.str none .i64 ⟨9, 1, false, 16⟩ (fun _ => rfl) h fun v7 _ b5 e6 h => ?_
     simp only [go_sem, reduceAdd, reduceLT, reduceLeDiff, reduceEqDiff, Nat.reduceBEq, Nat.reduceBNe, b5, e6]
     refine cnd_s 10000 h (fun hb h => ?_) (fun hb h => ?_)
     ·simp only [go_sem, reduceAdd, reduceLT, reduceLeDiff, reduceEqDiff, Nat.reduceBEq, Nat.reduceBNe]
      refine ret_s (fun x => .bool x) h ?_
      first | rfl | simp only [go_sem, resAV, resAll, resOne, reduceAdd, reduceLT, reduceLeDiff, reduceEqDiff, Nat.reduceBEq, Nat.reduceBNe]
     ·refine add_s h fun v9 _ e8 h => ?_
      simp only [go_sem, reduceAdd, reduceLT, reduceLeDiff, reduceEqDiff, Nat.reduceBEq, Nat.reduceBNe, e8]
      exact lp_back (ih1 v9 h) ⟨rfl, rfl, trivial⟩
    ·simp only [go_sem, reduceAdd, reduceLT, reduceLeDiff, reduceEqDiff, Nat.reduceBEq, Nat.reduceBNe]
     exact atJ (wkn (JK2  h) ⟨rfl, trivial⟩)
   ·simp only [go_sem, reduceAdd, reduceLT, reduceLeDiff, reduceEqDiff, Nat.reduceBEq, Nat.reduceBNe]
    refine grd_ (fun hb10 => ?_) (fun hb10 => ?_)
    ·simp only [go_sem, reduceAdd, reduceLT, reduceLeDiff, reduceEqDiff, Nat.reduceBEq, Nat.reduceBNe]
     exact atJ (wkn Jg4 ⟨rfl, rfl, congrArg AV.bool (by first | rfl | (rw [hb10]; rfl) | (simp [hb10]; done) | simp_all), trivial⟩)
    ·simp only [go_sem, reduceAdd, reduceLT, reduceLeDiff, reduceEqDiff, Nat.reduceBEq, Nat.reduceBNe]
     exact atJ (wkn Jg4 ⟨rfl, rfl, congrArg AV.bool (by first | rfl | (rw [hb10]; rfl) | (simp [hb10]; done) | simp_all), trivial⟩)
  ·exact lp_back (L1 0 h) ⟨rfl, rfl, trivial⟩
theorem w_law14_bigTree {m : ref14_Method}   {r : Bool} (h : law14_bigTree m = some r) : ACall Tryz.prog 23 [enc_ref14_Method m] [] (.bool r) [] := by
 refine acallX 10000 hf23 ok23 (by first | rfl | simp only [go_sem]) meek_bool ?_
 dsimp only [Tryz.f23, nums, Option.getD, List.append]
 unfold law14_bigTree at h
 simp only [go_sem, reduceAdd, reduceLT, reduceLeDiff, reduceEqDiff, Nat.reduceBEq, Nat.reduceBNe]
 refine bsome h fun y1 hy1 h => ?_
 refine rgJ 58 10000 (.inl rfl) (fun w => w [(1, .ptr 0 0), (30, .bool y1)] [some [.str m.Sel, .sl none (List.map AV.str m.Args), .sl none (List.map AV.str m.Temps), .sl none (List.map enc_ref14_Node m.Nodes), .sl none (List.map (AV.int .i64) m.Body)]]) (runX 10000 ?_) (fun Jy1 => ?_)
 ·clear hy1
  simp only [go_sem, reduceAdd, reduceLT, reduceLeDiff, reduceEqDiff, Nat.reduceBEq, Nat.reduceBNe]
  refine cnd_s 10000 h (fun hb h => ?_) (fun hb h => ?_)
  ·simp only [go_sem, reduceAdd, reduceLT, reduceLeDiff, reduceEqDiff, Nat.reduceBEq, Nat.reduceBNe]
   refine ret_s (fun x => .bool x) h ?_
   first | rfl | simp only [go_sem, resAV, resAll, resOne, reduceAdd, reduceLT, reduceLeDiff, reduceEqDiff, Nat.reduceBEq, Nat.reduceBNe]
  ·simp only [go_sem, reduceAdd, reduceLT, reduceLeDiff, reduceEqDiff, Nat.reduceBEq, Nat.reduceBNe]
   refine letK_s h fun K10 hK10 h => ?_
   refine blkJ 58 10000 (fun w => K10 () = some r → w [] [some [.str m.Sel, .sl none (List.map AV.str m.Args), .sl none (List.map AV.str m.Temps), .sl none (List.map enc_ref14_Node m.Nodes), .sl none (List.map (AV.int .i64) m.Body)]]) (fun  h => runX 10000 ?_) (fun JK10 => ?_)
   ·subst hK10
    dsimp only at h
    simp only [go_sem, reduceAdd, reduceLT, reduceLeDiff, reduceEqDiff, Nat.reduceBEq, Nat.reduceBNe]
    refine ret_s (fun x => .bool x) h ?_
    first | rfl | simp only [go_sem, resAV, resAll, resOne, reduceAdd, reduceLT, reduceLeDiff, reduceEqDiff, Nat.reduceBEq, Nat.reduceBNe]
   ·clear hK10
    simp only [go_sem, reduceAdd, reduceLT, reduceLeDiff, reduceEqDiff, Nat.reduceBEq, Nat.reduceBNe]
    refine lpJ 58 fuel (fun q1 w => ∀ (v11 : Int), law14_bigTree_l1 m K10 q1 v11 = some r → w [(1, .ptr 0 0), (3, .int .i64 v11)] [some [.str m.Sel, .sl none (List.map AV.str m.Args), .sl none (List.map AV.str m.Temps), .sl none (List.map enc_ref14_Node m.Nodes), .sl none (List.map (AV.int .i64) m.Body)]]) (fun w _ h => nomatch h) (fun q1 ih1 v11 h => ?_) (fun L1 => ?_)
    ·unfold law14_bigTree_l1 at h
     refine runL 10000 ?_
     simp only [go_sem, reduceAdd, reduceLT, reduceLeDiff, reduceEqDiff, Nat.reduceBEq, Nat.reduceBNe]
     refine cnd_s 10000 h (fun hb h => ?_) (fun hb h => ?_)
     ·simp only [go_sem, reduceAdd, reduceLT, reduceLeDiff, reduceEqDiff, Nat.reduceBEq, Nat.reduceBNe]
      refine blk_ 10000 ?_
      refine lAt_s enc_ref14_Node none .i64 ⟨78, 5, true, 80⟩ (fun _ => rfl) h fun v14 _ b12 e13 h => ?_
      simp only [go_sem, reduceAdd, reduceLT, reduceLeDiff, reduceEqDiff, Nat.reduceBEq, Nat.reduceBNe, b12, e13]
      refine bsome h fun y15 hy15 h => ?_
      refine rgJ 58 10000 (.inl rfl) (fun w => w [(1, .ptr 0 0), (3, .int .i64 v11), (57, .bool y15)] [some [.str m.Sel, .sl none (List.map AV.str m.Args), .sl none (List.map AV.str m.Temps), .sl none (List.map enc_ref14_Node m.Nodes), .sl none (List.map (AV.int .i64) m.Body)], some [.int .u8 v14.K, .str v14.S, .int .i64 v14.N, .sl none (List.map AV.str v14.L), .sl none (List.map (AV.int .i64) v14.Kids)]]) (runX 10000 ?_) (fun Jy15 => ?_)
      ·clear hy15
       simp only [go_sem, reduceAdd, reduceLT, reduceLeDiff, reduceEqDiff, Nat.reduceBEq, Nat.reduceBNe]
       refine cnd_s 10000 h (fun hb h => ?_) (fun hb h => ?_)
       ·simp only [go_sem, reduceAdd, reduceLT, reduceLeDiff, reduceEqDiff, Nat.reduceBEq, Nat.reduceBNe]
        refine ret_s (fun x => .bool x) h ?_
        first | rfl | simp only [go_sem, resAV, resAll, resOne, reduceAdd, reduceLT, reduceLeDiff, reduceEqDiff, Nat.reduceBEq, Nat.reduceBNe]
       ·refine add_s h fun v21 _ e20 h => ?_
        simp only [go_sem, reduceAdd, reduceLT, reduceLeDiff, reduceEqDiff, Nat.reduceBEq, Nat.reduceBNe, e20]
        exact lp_backH 1 (ih1 v21 h) ⟨rfl, rfl, trivial⟩ rfl rfl rfl (by first | rfl | simp only [go_sem, ltF]) (by first | rfl | simp only [go_sem, allLt])
      ·clear h
       have h := hy15
       simp only [go_sem, reduceAdd, reduceLT, reduceLeDiff, reduceEqDiff, Nat.reduceBEq, Nat.reduceBNe]
       refine grd_ (fun hb17 => ?_) (fun hb17 => ?_)
       ·have h := ite_f hb17 h
        refine bsome h fun v18 hv18 h => ?_
        simp only [go_sem, reduceAdd, reduceLT, reduceLeDiff, reduceEqDiff, Nat.reduceBEq, Nat.reduceBNe]
        refine callX_ 10000 (w_law14_bigTexts  hv18) (by first | rfl | simp only [go_sem]) (by first | rfl | simp only [go_sem]) ?_
        simp only [go_sem, reduceAdd, reduceLT, reduceLeDiff, reduceEqDiff, Nat.reduceBEq, Nat.reduceBNe]
        refine grd_ (fun hb19 => ?_) (fun hb19 => ?_)
        ·have h := ite_f hb19 h
         simp only [go_sem, reduceAdd, reduceLT, reduceLeDiff, reduceEqDiff, Nat.reduceBEq, Nat.reduceBNe]
         obtain rfl := Option.some.inj h
         exact atJ (wkn (Jy15) ⟨rfl, rfl, rfl, trivial⟩)
        ·have h := ite_t hb19 h
         simp only [go_sem, reduceAdd, reduceLT, reduceLeDiff, reduceEqDiff, Nat.reduceBEq, Nat.reduceBNe]
         obtain rfl := Option.some.inj h
         exact atJ (wkn (Jy15) ⟨rfl, rfl, rfl, trivial⟩)
       ·have h := ite_t hb17 h
        simp only [go_sem, reduceAdd, reduceLT, reduceLeDiff, reduceEqDiff, Nat.reduceBEq, Nat.reduceBNe]
        obtain rfl := Option.some.inj h
        exact atJ (wkn (Jy15) ⟨rfl, rfl, rfl, trivial⟩)
     ·simp only [go_sem, reduceAdd, reduceLT, reduceLeDiff, reduceEqDiff, Nat.reduceBEq, Nat.reduceBNe]
      exact atJ (wkn (JK10  h) trivial)
    ·exact lp_back (L1 0 h) ⟨rfl, rfl, trivial⟩
 ·clear h
  have h := hy1
  simp only [go_sem, reduceAdd, reduceLT, reduceLeDiff, reduceEqDiff, Nat.reduceBEq, Nat.reduceBNe]
  refine grd_ (fun hb3 => ?_) (fun hb3 => ?_)
  ·have h := ite_f hb3 h
   refine bsome h fun v4 hv4 h => ?_
   simp only [go_sem, reduceAdd, reduceLT, reduceLeDiff, reduceEqDiff, Nat.reduceBEq, Nat.reduceBNe]
   refine callX_ 10000 (w_law14_bigTexts  hv4) (by first | rfl | simp only [go_sem]) (by first | rfl | simp only [go_sem]) ?_
   simp only [go_sem, reduceAdd, reduceLT, reduceLeDiff, reduceEqDiff, Nat.reduceBEq, Nat.reduceBNe]
   refine grd_ (fun hb5 => ?_) (fun hb5 => ?_)
   ·have h := ite_f hb5 h
    refine bsome h fun v6 hv6 h => ?_
    simp only [go_sem, reduceAdd, reduceLT, reduceLeDiff, reduceEqDiff, Nat.reduceBEq, Nat.reduceBNe]
    refine callX_ 10000 (w_law14_bigTexts  hv6) (by first | rfl | simp only [go_sem]) (by first | rfl | simp only [go_sem]) ?_
    simp only [go_sem, reduceAdd, reduceLT, reduceLeDiff, reduceEqDiff, Nat.reduceBEq, Nat.reduceBNe]
    refine grd_ (fun hb7 => ?_) (fun hb7 => ?_)
    ·have h := ite_f hb7 h
     simp only [go_sem, reduceAdd, reduceLT, reduceLeDiff, reduceEqDiff, Nat.reduceBEq, Nat.reduceBNe]
     refine grd_ (fun hb8 => ?_) (fun hb8 => ?_)
     ·have h := ite_f hb8 h
      simp only [go_sem, reduceAdd, reduceLT, reduceLeDiff, reduceEqDiff, Nat.reduceBEq, Nat.reduceBNe]
      obtain rfl := Option.some.inj h
      exact atJ (wkn (Jy1) ⟨rfl, rfl, trivial⟩)
     ·have h := ite_t hb8 h
      simp only [go_sem, reduceAdd, reduceLT, reduceLeDiff, reduceEqDiff, Nat.reduceBEq, Nat.reduceBNe]
      obtain rfl := Option.some.inj h
      exact atJ (wkn (Jy1) ⟨rfl, rfl, trivial⟩)
    ·have h := ite_t hb7 h
     simp only [go_sem, reduceAdd, reduceLT, reduceLeDiff, reduceEqDiff, Nat.reduceBEq, Nat.reduceBNe]
     obtain rfl := Option.some.inj h
     exact atJ (wkn (Jy1) ⟨rfl, rfl, trivial⟩)
   ·have h := ite_t hb5 h
    simp only [go_sem, reduceAdd, reduceLT, reduceLeDiff, reduceEqDiff, Nat.reduceBEq, Nat.reduceBNe]
    obtain rfl := Option.some.inj h
    exact atJ (wkn (Jy1) ⟨rfl, rfl, trivial⟩)
  ·have h := ite_t hb3 h
   simp only [go_sem, reduceAdd, reduceLT, reduceLeDiff, reduceEqDiff, Nat.reduceBEq, Nat.reduceBNe]
   obtain rfl := Option.some.inj h
   exact atJ (wkn (Jy1) ⟨rfl, rfl, trivial⟩)
theorem w_slices_Concat_Lstring_string {slices : (List (List Str))}   {r : (List Str)} (h : slices_Concat_Lstring_string slices = some r) : ACall Tryz.prog 63 [.sl none (List.map encL_string slices)] [] (.sl none (List.map AV.str r)) [] := by
 refine acallX 10000 hf63 ok63 (by first | rfl | simp only [go_sem]) meek_sl ?_
 dsimp only [Tryz.f63, nums, Option.getD, List.append]
 unfold slices_Concat_Lstring_string at h
 simp only [go_sem, reduceAdd, reduceLT, reduceLeDiff, reduceEqDiff, Nat.reduceBEq, Nat.reduceBNe]
 refine bsome h fun y1 hy1 h => ?_
 refine blkJ 36 10000 (fun w => w [(0, .sl none (List.map encL_string slices)), (3, .int .i64 y1)] []) (runX 10000 ?_) (fun Jy1 => ?_)
 ·clear hy1
  refine bsome h fun v14 hv14 h => ?_
  simp only [go_sem, reduceAdd, reduceLT, reduceLeDiff, reduceEqDiff, Nat.reduceBEq, Nat.reduceBNe]
  refine callO_ 10000 (w_slices_Grow hv14) (by first | rfl | simp only [go_sem]) (by first | rfl | simp only [go_sem]) ?_
  simp only [go_sem, reduceAdd, reduceLT, reduceLeDiff, reduceEqDiff, Nat.reduceBEq, Nat.reduceBNe]
  refine bsome h fun y15 hy15 h => ?_
  refine blkJ 36 10000 (fun w => w [(6, .sl (some (some (9, 1))) (List.map AV.str y15))] []) (runX 10000 ?_) (fun Jy15 => ?_)
  ·clear hy15
   simp only [go_sem, reduceAdd, reduceLT, reduceLeDiff, reduceEqDiff, Nat.reduceBEq, Nat.reduceBNe]
   refine ret_s (fun x => .sl none (List.map AV.str x)) h ?_
   first | rfl | simp only [go_sem, resAV, resAll, resOne, reduceAdd, reduceLT, reduceLeDiff, reduceEqDiff, Nat.reduceBEq, Nat.reduceBNe]
  ·clear h
   have h := hy15
   simp only [go_sem, reduceAdd, reduceLT, reduceLeDiff, reduceEqDiff, Nat.reduceBEq, Nat.reduceBNe]
   refine lpJ 36 fuel (fun q2 w => ∀ (v17 : (List Str)) (v18 : Int), slices_Concat_Lstring_string_l2 slices q2 v17 v18 = some y15 → w [(6, .sl (some (some (9, 1))) (List.map AV.str v17)), (25, .sl none (List.map encL_string slices)), (26, .int .i64 (slices.length : Int)), (27, .int .i64 v18)] []) (fun w _ _ h => nomatch h) (fun q2 ih2 v17 v18 h => ?_) (fun L2 => ?_)
   ·unfold slices_Concat_Lstring_string_l2 at h
    refine runL 10000 ?_
    simp only [go_sem, reduceAdd, reduceLT, reduceLeDiff, reduceEqDiff, Nat.reduceBEq, Nat.reduceBNe]
    refine cnd_s 10000 h (fun hb h => ?_) (fun hb h => ?_)
    ·simp only [go_sem, reduceAdd, reduceLT, reduceLeDiff, reduceEqDiff, Nat.reduceBEq, Nat.reduceBNe]
     refine blk_ 10000 ?_
     refine lAt_s encL_string none .i64 ⟨22, 1, false, 24⟩ (fun _ => rfl) h fun v21 _ b19 e20 h => ?_
     refine appE_s (E := (9, 1)) AV.str none ⟨9, 1, false, 16⟩ (fun _ => rfl) (by decide) ⟨rfl, by first | exact .inl rfl | exact .inr rfl⟩ rfl h fun v24 _ b22 e23 h => ?_
     refine add_s h fun v26 _ e25 h => ?_
     simp only [go_sem, reduceAdd, reduceLT, reduceLeDiff, reduceEqDiff, Nat.reduceBEq, Nat.reduceBNe, b19, e20, b22, e23, e25]
     exact lp_back (ih2 v24 v26 h) ⟨rfl, rfl, rfl, rfl, trivial⟩
    ·simp only [go_sem, reduceAdd, reduceLT, reduceLeDiff, reduceEqDiff, Nat.reduceBEq, Nat.reduceBNe]
     obtain rfl := Option.some.inj h
     exact atJ (wkn (Jy15) ⟨rfl, trivial⟩)
   ·exact lp_back (L2 v14 0 h) ⟨rfl, rfl, rfl, rfl, trivial⟩
 ·clear h
  have h := hy1
  simp only [go_sem, reduceAdd, reduceLT, reduceLeDiff, reduceEqDiff, Nat.reduceBEq, Nat.reduceBNe]
  refine lpJ 36 fuel (fun q1 w => ∀ (v3 : Int) (v4 : Int), slices_Concat_Lstring_string_l1 slices q1 v3 v4 = some y1 → w [(0, .sl none (List.map encL_string slices)), (3, .int .i64 v3), (9, .sl none (List.map encL_string slices)), (10, .int .i64 (slices.length : Int)), (11, .int .i64 v4)] []) (fun w _ _ h => nomatch h) (fun q1 ih1 v3 v4 h => ?_) (fun L1 => ?_)
  ·unfold slices_Concat_Lstring_string_l1 at h
   refine runL 10000 ?_
   simp only [go_sem, reduceAdd, reduceLT, reduceLeDiff, reduceEqDiff, Nat.reduceBEq, Nat.reduceBNe]
   refine cnd_s 10000 h (fun hb h => ?_) (fun hb h => ?_)
   ·simp only [go_sem, reduceAdd, reduceLT, reduceLeDiff, reduceEqDiff, Nat.reduceBEq, Nat.reduceBNe]
    refine blk_ 10000 ?_
    refine lAt_s encL_string none .i64 ⟨22, 1, false, 24⟩ (fun _ => rfl) h fun v7 _ b5 e6 h => ?_
    refine add_s h fun v9 _ e8 h => ?_
    simp only [go_sem, reduceAdd, reduceLT, reduceLeDiff, reduceEqDiff, Nat.reduceBEq, Nat.reduceBNe, b5, e6, e8]
    refine bsome h fun y10 hy10 h => ?_
    refine cndJ 36 10000 (fun w => w [(0, .sl none (List.map encL_string slices)), (3, .int .i64 v9), (9, .sl none (List.map encL_string slices)), (10, .int .i64 (slices.length : Int)), (11, .int .i64 v4)] []) (runX 10000 ?_) (fun Jy10 => ?_)
    ·clear hy10
     refine add_s h fun v13 _ e12 h => ?_
     simp only [go_sem, reduceAdd, reduceLT, reduceLeDiff, reduceEqDiff, Nat.reduceBEq, Nat.reduceBNe, e12]
     exact lp_back (ih1 v9 v13 h) ⟨rfl, rfl, rfl, rfl, rfl, trivial⟩
    ·clear h
     have h := hy10
     refine cnd_s 10000 h (fun hb h => ?_) (fun hb h => ?_)
     ·exact nomatch h
     ·simp only [go_sem, reduceAdd, reduceLT, reduceLeDiff, reduceEqDiff, Nat.reduceBEq, Nat.reduceBNe]
      obtain rfl := Option.some.inj h
      exact atJ (wkn (Jy10) ⟨rfl, rfl, rfl, rfl, rfl, trivial⟩)
   ·simp only [go_sem, reduceAdd, reduceLT, reduceLeDiff, reduceEqDiff, Nat.reduceBEq, Nat.reduceBNe]
    obtain rfl := Option.some.inj h
    exact atJ (wkn (Jy1) ⟨rfl, rfl, trivial⟩)
  ·exact lp_back (L1 0 0 h) ⟨rfl, rfl, rfl, rfl, rfl, trivial⟩
theorem w_slices_IndexFunc_Lstring_string {s : (List Str)} {p1_f : (Str → Option Bool)}  (fv_p1_f : FuncId) (hf_p1_f : ∀ (a0 : Str) (z : Bool), p1_f a0 = some z → ACall Tryz.prog fv_p1_f [.str a0] [] (.bool z) []) {r : Int} (h : slices_IndexFunc_Lstring_string s p1_f = some r) : ACall Tryz.prog 185 [.sl none (List.map AV.str s), .fn (.func fv_p1_f) [] []] [] (.int .i64 r) [] := by
 refine acallX 10000 hf185 ok185 (by first | rfl | simp only [go_sem]) meek_int ?_
 dsimp only [Tryz.f185, nums, Option.getD, List.append]
 unfold slices_IndexFunc_Lstring_string at h
 simp only [go_sem, reduceAdd, reduceLT, reduceLeDiff, reduceEqDiff, Nat.reduceBEq, Nat.reduceBNe]
 refine letK_s h fun K2 hK2 h => ?_
 refine blkJ 19 10000 (fun w => K2 () = some r → w [] []) (fun  h => runX 10000 ?_) (fun JK2 => ?_)
 ·subst hK2
  dsimp only at h
  simp only [go_sem, reduceAdd, reduceLT, reduceLeDiff, reduceEqDiff, Nat.reduceBEq, Nat.reduceBNe]
  refine ret_s (fun x => .int .i64 x) h ?_
  first | rfl | simp only [go_sem, resAV, resAll, resOne, reduceAdd, reduceLT, reduceLeDiff, reduceEqDiff, Nat.reduceBEq, Nat.reduceBNe]
 ·clear hK2
  simp only [go_sem, reduceAdd, reduceLT, reduceLeDiff, reduceEqDiff, Nat.reduceBEq, Nat.reduceBNe]
  refine lpJ 19 fuel (fun q1 w => ∀ (v3 : Int), slices_IndexFunc_Lstring_string_l1 s p1_f K2 q1 v3 = some r → w [(0, .sl none (List.map AV.str s)), (1, .fn (.func fv_p1_f) [] []), (7, .int .i64 (s.length : Int)), (8, .int .i64 v3)] []) (fun w _ h => nomatch h) (fun q1 ih1 v3 h => ?_) (fun L1 => ?_)
  ·unfold slices_IndexFunc_Lstring_string_l1 at h
   refine runL 10000 ?_
   simp only [go_sem, reduceAdd, reduceLT, reduceLeDiff, reduceEqDiff, Nat.reduceBEq, Nat.reduceBNe]
   refine cnd_s 10000 h (fun hb h => ?_) (fun hb h => ?_)
   ·simp only [go_sem, reduceAdd, reduceLT, reduceLeDiff, reduceEqDiff, Nat.reduceBEq, Nat.reduceBNe]
    refine blk_ 10000 ?_
    refine lAt_s AV.str none .i64 ⟨9, 1, false, 16⟩ (fun _ => rfl) h fun v6 _ b4 e5 h => ?_
    refine bsome h fun v7 hv7 h => ?_
    simp only [go_sem, reduceAdd, reduceLT, reduceLeDiff, reduceEqDiff, Nat.reduceBEq, Nat.reduceBNe, b4, e5]
    refine callX_ 10000 (hf_p1_f _ _ hv7) (by first | rfl | simp only [go_sem]) (by first | rfl | simp only [go_sem]) ?_
    simp only [go_sem, reduceAdd, reduceLT, reduceLeDiff, reduceEqDiff, Nat.reduceBEq, Nat.reduceBNe]
    refine cnd_s 10000 h (fun hb h => ?_) (fun hb h => ?_)
    ·simp only [go_sem, reduceAdd, reduceLT, reduceLeDiff, reduceEqDiff, Nat.reduceBEq, Nat.reduceBNe]
     refine ret_s (fun x => .int .i64 x) h ?_
     first | rfl | simp only [go_sem, resAV, resAll, resOne, reduceAdd, reduceLT, reduceLeDiff, reduceEqDiff, Nat.reduceBEq, Nat.reduceBNe]
    ·refine add_s h fun v9 _ e8 h => ?_
     simp only [go_sem, reduceAdd, reduceLT, reduceLeDiff, reduceEqDiff, Nat.reduceBEq, Nat.reduceBNe, e8]
     exact lp_back (ih1 v9 h) ⟨rfl, rfl, rfl, rfl, trivial⟩
   ·simp only [go_sem, reduceAdd, reduceLT, reduceLeDiff, reduceEqDiff, Nat.reduceBEq, Nat.reduceBNe]
    exact atJ (wkn (JK2  h) trivial)
  ·exact lp_back (L1 0 h) ⟨rfl, rfl, rfl, rfl, trivial⟩
theorem w_slices_ContainsFunc_Lstring_string {s : (List Str)} {p1_f : (Str → Option Bool)}  (fv_p1_f : FuncId) (hf_p1_f : ∀ (a0 : Str) (z : Bool), p1_f a0 = some z → ACall Tryz.prog fv_p1_f [.str a0] [] (.bool z) []) {r : Bool} (h : slices_ContainsFunc_Lstring_string s p1_f = some r) : ACall Tryz.prog 130 [.sl none (List.map AV.str s), .fn (.func fv_p1_f) [] []] [] (.bool r) [] := by
 refine acallX 10000 hf130 ok130 (by first | rfl | simp only [go_sem]) meek_bool ?_
 dsimp only [Tryz.f130, nums, Option.getD, List.append]
 unfold slices_ContainsFunc_Lstring_string at h
 refine bsome h fun v1 hv1 h => ?_
 simp only [go_sem, reduceAdd, reduceLT, reduceLeDiff, reduceEqDiff, Nat.reduceBEq, Nat.reduceBNe]
 refine callX_ 10000 (w_slices_IndexFunc_Lstring_string fv_p1_f hf_p1_f hv1) (by first | rfl | simp only [go_sem]) (by first | rfl | simp only [go_sem]) ?_
 simp only [go_sem, reduceAdd, reduceLT, reduceLeDiff, reduceEqDiff, Nat.reduceBEq, Nat.reduceBNe]
 refine ret_s (fun x => .bool x) h ?_
 first | rfl | simp only [go_sem, resAV, resAll, resOne, reduceAdd, reduceLT, reduceLeDiff, reduceEqDiff, Nat.reduceBEq, Nat.reduceBNe]
theorem w_internal_stringslite_HasSuffix {s : Str} {suffix : Str}   {r : Bool} (h : internal_stringslite_HasSuffix s suffix = some r) : ACall Tryz.prog 218 [.str s, .str suffix] [] (.bool r) [] := by
 refine acallX 10000 hf218 ok218 (by first | rfl | simp only [go_sem]) meek_bool ?_
 dsimp only [Tryz.f218, nums, Option.getD, List.append]
 unfold internal_stringslite_HasSuffix at h
 simp only [go_sem, reduceAdd, reduceLT, reduceLeDiff, reduceEqDiff, Nat.reduceBEq, Nat.reduceBNe]
 refine bsome h fun y1 hy1 h => ?_
 refine rgJ 21 10000 (.inl rfl) (fun w => w [(4, .bool y1)] []) (runX 10000 ?_) (fun Jy1 => ?_)
 ·clear hy1
  simp only [go_sem, reduceAdd, reduceLT, reduceLeDiff, reduceEqDiff, Nat.reduceBEq, Nat.reduceBNe]
  refine ret_s (fun x => .bool x) h ?_
  first | rfl | simp only [go_sem, resAV, resAll, resOne, reduceAdd, reduceLT, reduceLeDiff, reduceEqDiff, Nat.reduceBEq, Nat.reduceBNe]
 ·clear h
  have h := hy1
  simp only [go_sem, reduceAdd, reduceLT, reduceLeDiff, reduceEqDiff, Nat.reduceBEq, Nat.reduceBNe]
  refine grd_ (fun hb3 => ?_) (fun hb3 => ?_)
  ·have h := ite_t hb3 h
   refine sub_s h fun v5 _ e4 h => ?_
   refine subS_s (some (.int .i64 v5)) none rfl rfl h fun v8 _ b6 e7 h => ?_
   simp only [go_sem, reduceAdd, reduceLT, reduceLeDiff, reduceEqDiff, Nat.reduceBEq, Nat.reduceBNe, e4, b6, e7]
   obtain rfl := Option.some.inj h
   exact atJ (wkn (Jy1) ⟨rfl, trivial⟩)
  ·have h := ite_f hb3 h
   simp only [go_sem, reduceAdd, reduceLT, reduceLeDiff, reduceEqDiff, Nat.reduceBEq, Nat.reduceBNe]
   obtain rfl := Option.some.inj h
   exact atJ (wkn (Jy1) ⟨rfl, trivial⟩)
theorem w_internal_stringslite_TrimSuffix {s : Str} {suffix : Str}   {r : Str} (h : internal_stringslite_TrimSuffix s suffix = some r) : ACall Tryz.prog 202 [.str s, .str suffix] [] (.str r) [] := by
 refine acallX 10000 hf202 ok202 (by first | rfl | simp only [go_sem]) meek_str ?_
 dsimp only [Tryz.f202, nums, Option.getD, List.append]
 unfold internal_stringslite_TrimSuffix at h
 refine bsome h fun v1 hv1 h => ?_
 simp only [go_sem, reduceAdd, reduceLT, reduceLeDiff, reduceEqDiff, Nat.reduceBEq, Nat.reduceBNe]
 refine callX_ 10000 (w_internal_stringslite_HasSuffix  hv1) (by first | rfl | simp only [go_sem]) (by first | rfl | simp only [go_sem]) ?_
 simp only [go_sem, reduceAdd, reduceLT, reduceLeDiff, reduceEqDiff, Nat.reduceBEq, Nat.reduceBNe]
 refine cnd_s 10000 h (fun hb h => ?_) (fun hb h => ?_)
 ·refine sub_s h fun v3 _ e2 h => ?_
  refine subS_s none (some (.int .i64 v3)) rfl rfl h fun v6 _ b4 e5 h => ?_
  simp only [go_sem, reduceAdd, reduceLT, reduceLeDiff, reduceEqDiff, Nat.reduceBEq, Nat.reduceBNe, e2, b4, e5]
  refine ret_s (fun x => .str x) h ?_
  first | rfl | simp only [go_sem, resAV, resAll, resOne, reduceAdd, reduceLT, reduceLeDiff, reduceEqDiff, Nat.reduceBEq, Nat.reduceBNe]
 ·simp only [go_sem, reduceAdd, reduceLT, reduceLeDiff, reduceEqDiff, Nat.reduceBEq, Nat.reduceBNe]
  refine ret_s (fun x => .str x) h ?_
  first | rfl | simp only [go_sem, resAV, resAll, resOne, reduceAdd, reduceLT, reduceLeDiff, reduceEqDiff, Nat.reduceBEq, Nat.reduceBNe]
theorem w_strings_TrimSuffix {s : Str} {suffix : Str}   {r : Str} (h : strings_TrimSuffix s suffix = some r) : ACall Tryz.prog 163 [.str s, .str suffix] [] (.str r) [] := by
 refine acallX 10000 hf163 ok163 (by first | rfl | simp only [go_sem]) meek_str ?_
 dsimp only [Tryz.f163, nums, Option.getD, List.append]
 unfold strings_TrimSuffix at h
 refine bsome h fun v1 hv1 h => ?_
 simp only [go_sem, reduceAdd, reduceLT, reduceLeDiff, reduceEqDiff, Nat.reduceBEq, Nat.reduceBNe]
 refine callX_ 10000 (w_internal_stringslite_TrimSuffix  hv1) (by first | rfl | simp only [go_sem]) (by first | rfl | simp only [go_sem]) ?_
 simp only [go_sem, reduceAdd, reduceLT, reduceLeDiff, reduceEqDiff, Nat.reduceBEq, Nat.reduceBNe]
 refine ret_s (fun x => .str x) h ?_
 first | rfl | simp only [go_sem, resAV, resAll, resOne, reduceAdd, reduceLT, reduceLeDiff, reduceEqDiff, Nat.reduceBEq, Nat.reduceBNe]
theorem w_slices_IndexFunc_Lbyte_byte {s : (List Int)} {p1_f : (Int → Option Bool)}  (fv_p1_f : FuncId) (hf_p1_f : ∀ (a0 : Int) (z : Bool), p1_f a0 = some z → ACall Tryz.prog fv_p1_f [.int .u8 a0] [] (.bool z) []) {r : Int} (h : slices_IndexFunc_Lbyte_byte s p1_f = some r) : ACall Tryz.prog 246 [.sl none (List.map (AV.int .u8) s), .fn (.func fv_p1_f) [] []] [] (.int .i64 r) [] := by
 refine acallX 10000 hf246 ok246 (by first | rfl | simp only [go_sem]) meek_int ?_
 dsimp only [Tryz.f246, nums, Option.getD, List.append]
 unfold slices_IndexFunc_Lbyte_byte at h
 simp only [go_sem, reduceAdd, reduceLT, reduceLeDiff, reduceEqDiff, Nat.reduceBEq, Nat.reduceBNe]
 refine letK_s h fun K2 hK2 h => ?_
 refine blkJ 19 10000 (fun w => K2 () = some r → w [] []) (fun  h => runX 10000 ?_) (fun JK2 => ?_)
 ·subst hK2
  dsimp only at h
  simp only [go_sem, reduceAdd, reduceLT, reduceLeDiff, reduceEqDiff, Nat.reduceBEq, Nat.reduceBNe]
  refine ret_s (fun x => .int .i64 x) h ?_
  first | rfl | simp only [go_sem, resAV, resAll, resOne, reduceAdd, reduceLT, reduceLeDiff, reduceEqDiff, Nat.reduceBEq, Nat.reduceBNe]
 ·clear hK2
  simp only [go_sem, reduceAdd, reduceLT, reduceLeDiff, reduceEqDiff, Nat.reduceBEq, Nat.reduceBNe]
  refine lpJ 19 fuel (fun q1 w => ∀ (v3 : Int), slices_IndexFunc_Lbyte_byte_l1 s p1_f K2 q1 v3 = some r → w [(0, .sl none (List.map (AV.int .u8) s)), (1, .fn (.func fv_p1_f) [] []), (7, .int .i64 (s.length : Int)), (8, .int .i64 v3)] []) (fun w _ h => nomatch h) (fun q1 ih1 v3 h => ?_) (fun L1 => ?_)
  ·unfold slices_IndexFunc_Lbyte_byte_l1 at h
   refine runL 10000 ?_
   simp only [go_sem, reduceAdd, reduceLT, reduceLeDiff, reduceEqDiff, Nat.reduceBEq, Nat.reduceBNe]
   refine cnd_s 10000 h (fun hb h => ?_) (fun hb h => ?_)
   ·simp only [go_sem, reduceAdd, reduceLT, reduceLeDiff, reduceEqDiff, Nat.reduceBEq, Nat.reduceBNe]
    refine blk_ 10000 ?_
    refine lAt_s (AV.int .u8) none .i64 ⟨5, 1, false, 1⟩ (fun _ => rfl) h fun v6 _ b4 e5 h => ?_
    refine bsome h fun v7 hv7 h => ?_
    simp only [go_sem, reduceAdd, reduceLT, reduceLeDiff, reduceEqDiff, Nat.reduceBEq, Nat.reduceBNe, b4, e5]
    refine callX_ 10000 (hf_p1_f _ _ hv7) (by first | rfl | simp only [go_sem]) (by first | rfl | simp only [go_sem]) ?_
    simp only [go_sem, reduceAdd, reduceLT, reduceLeDiff, reduceEqDiff, Nat.reduceBEq, Nat.reduceBNe]
    refine cnd_s 10000 h (fun hb h => ?_) (fun hb h => ?_)
    ·simp only [go_sem, reduceAdd, reduceLT, reduceLeDiff, reduceEqDiff, Nat.reduceBEq, Nat.reduceBNe]
     refine ret_s (fun x => .int .i64 x) h ?_
     first | rfl | simp only [go_sem, resAV, resAll, resOne, reduceAdd, reduceLT, reduceLeDiff, reduceEqDiff, Nat.reduceBEq, Nat.reduceBNe]
    ·refine add_s h fun v9 _ e8 h => ?_
     simp only [go_sem, reduceAdd, reduceLT, reduceLeDiff, reduceEqDiff, Nat.reduceBEq, Nat.reduceBNe, e8]
     exact lp_back (ih1 v9 h) ⟨rfl, rfl, rfl, rfl, trivial⟩
   ·simp only [go_sem, reduceAdd, reduceLT, reduceLeDiff, reduceEqDiff, Nat.reduceBEq, Nat.reduceBNe]
    exact atJ (wkn (JK2  h) trivial)
  ·exact lp_back (L1 0 h) ⟨rfl, rfl, rfl, rfl, trivial⟩
theorem w_slices_ContainsFunc_Lbyte_byte {s : (List Int)} {p1_f : (Int → Option Bool)}  (fv_p1_f : FuncId) (hf_p1_f : ∀ (a0 : Int) (z : Bool), p1_f a0 = some z → ACall Tryz.prog fv_p1_f [.int .u8 a0] [] (.bool z) []) {r : Bool} (h : slices_ContainsFunc_Lbyte_byte s p1_f = some r) : ACall Tryz.prog 208 [.sl none (List.map (AV.int .u8) s), .fn (.func fv_p1_f) [] []] [] (.bool r) [] := by
 refine acallX 10000 hf208 ok208 (by first | rfl | simp only [go_sem]) meek_bool ?_
 dsimp only [Tryz.f208, nums, Option.getD, List.append]
 unfold slices_ContainsFunc_Lbyte_byte at h
 refine bsome h fun v1 hv1 h => ?_
 simp only [go_sem, reduceAdd, reduceLT, reduceLeDiff, reduceEqDiff, Nat.reduceBEq, Nat.reduceBNe]
 refine callX_ 10000 (w_slices_IndexFunc_Lbyte_byte fv_p1_f hf_p1_f hv1) (by first | rfl | simp only [go_sem]) (by first | rfl | simp only [go_sem]) ?_
 simp only [go_sem, reduceAdd, reduceLT, reduceLeDiff, reduceEqDiff, Nat.reduceBEq, Nat.reduceBNe]
 refine ret_s (fun x => .bool x) h ?_
 first | rfl | simp only [go_sem, resAV, resAll, resOne, reduceAdd, reduceLT, reduceLeDiff, reduceEqDiff, Nat.reduceBEq, Nat.reduceBNe]
theorem w_method_letter {c : Int}   {r : Bool} (h : method_letter c = some r) : ACall Tryz.prog 210 [.int .u8 c] [] (.bool r) [] := by
 refine acallX 10000 hf210 ok210 (by first | rfl | simp only [go_sem]) meek_bool ?_
 dsimp only [Tryz.f210, nums, Option.getD, List.append]
 unfold method_letter at h
 simp only [go_sem, reduceAdd, reduceLT, reduceLeDiff, reduceEqDiff, Nat.reduceBEq, Nat.reduceBNe]
 refine rgJ 25 10000 (.inl rfl) (fun w => w [(2, .bool ((((decide ((97 : Int) ≤ c)) && (decide (c ≤ 122))) || ((decide ((65 : Int) ≤ c)) && (decide (c ≤ 90)))) || ((decide ((48 : Int) ≤ c)) && (decide (c ≤ 57)))))] []) (runX 10000 ?_) (fun Jg1 => ?_)
 ·simp only [go_sem, reduceAdd, reduceLT, reduceLeDiff, reduceEqDiff, Nat.reduceBEq, Nat.reduceBNe]
  refine ret_s (fun x => .bool x) h ?_
  first | rfl | simp only [go_sem, resAV, resAll, resOne, reduceAdd, reduceLT, reduceLeDiff, reduceEqDiff, Nat.reduceBEq, Nat.reduceBNe]
 ·simp only [go_sem, reduceAdd, reduceLT, reduceLeDiff, reduceEqDiff, Nat.reduceBEq, Nat.reduceBNe]
  refine grd_ (fun hb2 => ?_) (fun hb2 => ?_)
  ·simp only [go_sem, reduceAdd, reduceLT, reduceLeDiff, reduceEqDiff, Nat.reduceBEq, Nat.reduceBNe]
   refine grd_ (fun hb3 => ?_) (fun hb3 => ?_)
   ·simp only [go_sem, reduceAdd, reduceLT, reduceLeDiff, reduceEqDiff, Nat.reduceBEq, Nat.reduceBNe]
    refine grd_ (fun hb4 => ?_) (fun hb4 => ?_)
    ·simp only [go_sem, reduceAdd, reduceLT, reduceLeDiff, reduceEqDiff, Nat.reduceBEq, Nat.reduceBNe]
     refine grd_ (fun hb5 => ?_) (fun hb5 => ?_)
     ·simp only [go_sem, reduceAdd, reduceLT, reduceLeDiff, reduceEqDiff, Nat.reduceBEq, Nat.reduceBNe]
      refine grd_ (fun hb6 => ?_) (fun hb6 => ?_)
      ·simp only [go_sem, reduceAdd, reduceLT, reduceLeDiff, reduceEqDiff, Nat.reduceBEq, Nat.reduceBNe]
       exact atJ (wkn Jg1 ⟨congrArg AV.bool (by first | rfl | (rw [hb2, hb3, hb4, hb5, hb6]; rfl) | (simp [hb2, hb3, hb4, hb5, hb6]; done) | simp_all), trivial⟩)
      ·simp only [go_sem, reduceAdd, reduceLT, reduceLeDiff, reduceEqDiff, Nat.reduceBEq, Nat.reduceBNe]
       exact atJ (wkn Jg1 ⟨congrArg AV.bool (by first | rfl | (rw [hb2, hb3, hb4, hb5, hb6]; rfl) | (simp [hb2, hb3, hb4, hb5, hb6]; done) | simp_all), trivial⟩)
     ·simp only [go_sem, reduceAdd, reduceLT, reduceLeDiff, reduceEqDiff, Nat.reduceBEq, Nat.reduceBNe]
      exact atJ (wkn Jg1 ⟨congrArg AV.bool (by first | rfl | (rw [hb2, hb3, hb4, hb5]; rfl) | (simp [hb2, hb3, hb4, hb5]; done) | simp_all), trivial⟩)
    ·simp only [go_sem, reduceAdd, reduceLT, reduceLeDiff, reduceEqDiff, Nat.reduceBEq, Nat.reduceBNe]
     refine grd_ (fun hb7 => ?_) (fun hb7 => ?_)
     ·simp only [go_sem, reduceAdd, reduceLT, reduceLeDiff, reduceEqDiff, Nat.reduceBEq, Nat.reduceBNe]
      exact atJ (wkn Jg1 ⟨congrArg AV.bool (by first | rfl | (rw [hb2, hb3, hb4, hb7]; rfl) | (simp [hb2, hb3, hb4, hb7]; done) | simp_all), trivial⟩)
     ·simp only [go_sem, reduceAdd, reduceLT, reduceLeDiff, reduceEqDiff, Nat.reduceBEq, Nat.reduceBNe]
      exact atJ (wkn Jg1 ⟨congrArg AV.bool (by first | rfl | (rw [hb2, hb3, hb4, hb7]; rfl) | (simp [hb2, hb3, hb4, hb7]; done) | simp_all), trivial⟩)
   ·simp only [go_sem, reduceAdd, reduceLT, reduceLeDiff, reduceEqDiff, Nat.reduceBEq, Nat.reduceBNe]
    exact atJ (wkn Jg1 ⟨congrArg AV.bool (by first | rfl | (rw [hb2, hb3]; rfl) | (simp [hb2, hb3]; done) | simp_all), trivial⟩)
  ·simp only [go_sem, reduceAdd, reduceLT, reduceLeDiff, reduceEqDiff, Nat.reduceBEq, Nat.reduceBNe]
   refine grd_ (fun hb8 => ?_) (fun hb8 => ?_)
   ·simp only [go_sem, reduceAdd, reduceLT, reduceLeDiff, reduceEqDiff, Nat.reduceBEq, Nat.reduceBNe]
    refine grd_ (fun hb9 => ?_) (fun hb9 => ?_)
    ·simp only [go_sem, reduceAdd, reduceLT, reduceLeDiff, reduceEqDiff, Nat.reduceBEq, Nat.reduceBNe]
     refine grd_ (fun hb10 => ?_) (fun hb10 => ?_)
     ·simp only [go_sem, reduceAdd, reduceLT, reduceLeDiff, reduceEqDiff, Nat.reduceBEq, Nat.reduceBNe]
      exact atJ (wkn Jg1 ⟨congrArg AV.bool (by first | rfl | (rw [hb2, hb8, hb9, hb10]; rfl) | (simp [hb2, hb8, hb9, hb10]; done) | simp_all), trivial⟩)
     ·simp only [go_sem, reduceAdd, reduceLT, reduceLeDiff, reduceEqDiff, Nat.reduceBEq, Nat.reduceBNe]
      exact atJ (wkn Jg1 ⟨congrArg AV.bool (by first | rfl | (rw [hb2, hb8, hb9, hb10]; rfl) | (simp [hb2, hb8, hb9, hb10]; done) | simp_all), trivial⟩)
    ·simp only [go_sem, reduceAdd, reduceLT, reduceLeDiff, reduceEqDiff, Nat.reduceBEq, Nat.reduceBNe]
     exact atJ (wkn Jg1 ⟨congrArg AV.bool (by first | rfl | (rw [hb2, hb8, hb9]; rfl) | (simp [hb2, hb8, hb9]; done) | simp_all), trivial⟩)
   ·simp only [go_sem, reduceAdd, reduceLT, reduceLeDiff, reduceEqDiff, Nat.reduceBEq, Nat.reduceBNe]
    refine grd_ (fun hb11 => ?_) (fun hb11 => ?_)
    ·simp only [go_sem, reduceAdd, reduceLT, reduceLeDiff, reduceEqDiff, Nat.reduceBEq, Nat.reduceBNe]
     exact atJ (wkn Jg1 ⟨congrArg AV.bool (by first | rfl | (rw [hb2, hb8, hb11]; rfl) | (simp [hb2, hb8, hb11]; done) | simp_all), trivial⟩)
    ·simp only [go_sem, reduceAdd, reduceLT, reduceLeDiff, reduceEqDiff, Nat.reduceBEq, Nat.reduceBNe]
     exact atJ (wkn Jg1 ⟨congrArg AV.bool (by first | rfl | (rw [hb2, hb8, hb11]; rfl) | (simp [hb2, hb8, hb11]; done) | simp_all), trivial⟩)
theorem w_method_name_1 {c : Int}   {r : Bool} (h : method_name_1 c = some r) : ACall Tryz.prog 209 [.int .u8 c] [] (.bool r) [] := by
 refine acallX 10000 hf209 ok209 (by first | rfl | simp only [go_sem]) meek_bool ?_
 dsimp only [Tryz.f209, nums, Option.getD, List.append]
 unfold method_name_1 at h
 refine bsome h fun v1 hv1 h => ?_
 simp only [go_sem, reduceAdd, reduceLT, reduceLeDiff, reduceEqDiff, Nat.reduceBEq, Nat.reduceBNe]
 refine callX_ 10000 (w_method_letter  hv1) (by first | rfl | simp only [go_sem]) (by first | rfl | simp only [go_sem]) ?_
 simp only [go_sem, reduceAdd, reduceLT, reduceLeDiff, reduceEqDiff, Nat.reduceBEq, Nat.reduceBNe]
 refine ret_s (fun x => .bool x) h ?_
 first | rfl | simp only [go_sem, resAV, resAll, resOne, reduceAdd, reduceLT, reduceLeDiff, reduceEqDiff, Nat.reduceBEq, Nat.reduceBNe]
theorem w_method_name {s : Str}   {r : Bool} (h : method_name s = some r) : ACall Tryz.prog 173 [.str s] [] (.bool r) [] := by
 refine acallX 10000 hf173 ok173 (by first | rfl | simp only [go_sem]) meek_bool ?_
 dsimp only [Tryz.f173, nums, Option.getD, List.append]
 unfold method_name at h
 simp only [go_sem, reduceAdd, reduceLT, reduceLeDiff, reduceEqDiff, Nat.reduceBEq, Nat.reduceBNe]
 refine bsome h fun y1 hy1 h => ?_
 refine rgJ 19 10000 (.inl rfl) (fun w => w [(0, .str s), (14, .bool y1)] []) (runX 10000 ?_) (fun Jy1 => ?_)
 ·clear hy1
  simp only [go_sem, reduceAdd, reduceLT, reduceLeDiff, reduceEqDiff, Nat.reduceBEq, Nat.reduceBNe]
  refine cnd_s 10000 h (fun hb h => ?_) (fun hb h => ?_)
  ·simp only [go_sem, reduceAdd, reduceLT, reduceLeDiff, reduceEqDiff, Nat.reduceBEq, Nat.reduceBNe]
   refine ret_s (fun x => .bool x) h ?_
   first | rfl | simp only [go_sem, resAV, resAll, resOne, reduceAdd, reduceLT, reduceLeDiff, reduceEqDiff, Nat.reduceBEq, Nat.reduceBNe]
  ·refine bsome h fun v10 hv10 h => ?_
   simp only [go_sem, reduceAdd, reduceLT, reduceLeDiff, reduceEqDiff, Nat.reduceBEq, Nat.reduceBNe, (bytes_e (P := Tryz.prog) (s := 9) (d := 148) (by rw [kd148]; rfl) (by rw [kd148]; rfl) s)]
   refine callX_ 10000 (w_slices_ContainsFunc_Lbyte_byte 209 (fun _ _ h => w_method_name_1 h) hv10) (by first | rfl | simp only [go_sem]) (by first | rfl | simp only [go_sem]) ?_
   simp only [go_sem, reduceAdd, reduceLT, reduceLeDiff, reduceEqDiff, Nat.reduceBEq, Nat.reduceBNe]
   refine ret_s (fun x => .bool x) h ?_
   first | rfl | simp only [go_sem, resAV, resAll, resOne, reduceAdd, reduceLT, reduceLeDiff, reduceEqDiff, Nat.reduceBEq, Nat.reduceBNe]
 ·clear h
  have h := hy1
  simp only [go_sem, reduceAdd, reduceLT, reduceLeDiff, reduceEqDiff, Nat.reduceBEq, Nat.reduceBNe]
  refine grd_ (fun hb3 => ?_) (fun hb3 => ?_)
  ·have h := ite_f hb3 h
   refine sIdx_s .i64 h fun v6 _ b4 e5 h => ?_
   simp only [go_sem, reduceAdd, reduceLT, reduceLeDiff, reduceEqDiff, Nat.reduceBEq, Nat.reduceBNe, b4, e5]
   refine grd_ (fun hb7 => ?_) (fun hb7 => ?_)
   ·have h := ite_f hb7 h
    simp only [go_sem, reduceAdd, reduceLT, reduceLeDiff, reduceEqDiff, Nat.reduceBEq, Nat.reduceBNe, b4, e5]
    obtain rfl := Option.some.inj h
    exact atJ (wkn (Jy1) ⟨rfl, rfl, trivial⟩)
   ·have h := ite_t hb7 h
    simp only [go_sem, reduceAdd, reduceLT, reduceLeDiff, reduceEqDiff, Nat.reduceBEq, Nat.reduceBNe]
    obtain rfl := Option.some.inj h
    exact atJ (wkn (Jy1) ⟨rfl, rfl, trivial⟩)
  ·have h := ite_t hb3 h
   simp only [go_sem, reduceAdd, reduceLT, reduceLeDiff, reduceEqDiff, Nat.reduceBEq, Nat.reduceBNe]
   obtain rfl := Option.some.inj h
   exact atJ (wkn (Jy1) ⟨rfl, rfl, trivial⟩)
theorem w_strings_HasSuffix {s : Str} {suffix : Str}   {r : Bool} (h : strings_HasSuffix s suffix = some r) : ACall Tryz.prog 175 [.str s, .str suffix] [] (.bool r) [] := by
 refine acallX 10000 hf175 ok175 (by first | rfl | simp only [go_sem]) meek_bool ?_
 dsimp only [Tryz.f175, nums, Option.getD, List.append]
 unfold strings_HasSuffix at h
 refine bsome h fun v1 hv1 h => ?_
 simp only [go_sem, reduceAdd, reduceLT, reduceLeDiff, reduceEqDiff, Nat.reduceBEq, Nat.reduceBNe]
 refine callX_ 10000 (w_internal_stringslite_HasSuffix  hv1) (by first | rfl | simp only [go_sem]) (by first | rfl | simp only [go_sem]) ?_
 simp only [go_sem, reduceAdd, reduceLT, reduceLeDiff, reduceEqDiff, Nat.reduceBEq, Nat.reduceBNe]
 refine ret_s (fun x => .bool x) h ?_
 first | rfl | simp only [go_sem, resAV, resAll, resOne, reduceAdd, reduceLT, reduceLeDiff, reduceEqDiff, Nat.reduceBEq, Nat.reduceBNe]
theorem w_method_Arity_1 {s : Str}   {r : Bool} (h : method_Arity_1 s = some r) : ACall Tryz.prog 176 [.str s] [] (.bool r) [] := by
 refine acallX 10000 hf176 ok176 (by first | rfl | simp only [go_sem]) meek_bool ?_
 dsimp only [Tryz.f176, nums, Option.getD, List.append]
 unfold method_Arity_1 at h
 refine bsome h fun v1 hv1 h => ?_
 simp only [go_sem, reduceAdd, reduceLT, reduceLeDiff, reduceEqDiff, Nat.reduceBEq, Nat.reduceBNe]
 refine callX_ 10000 (w_method_name  hv1) (by first | rfl | simp only [go_sem]) (by first | rfl | simp only [go_sem]) ?_
 simp only [go_sem, reduceAdd, reduceLT, reduceLeDiff, reduceEqDiff, Nat.reduceBEq, Nat.reduceBNe]
 refine ret_s (fun x => .bool x) h ?_
 first | rfl | simp only [go_sem, resAV, resAll, resOne, reduceAdd, reduceLT, reduceLeDiff, reduceEqDiff, Nat.reduceBEq, Nat.reduceBNe]
theorem w_method_Arity {sel : Str}   {r : (Int × Bool)} (h : method_Arity sel = some r) : ACall Tryz.prog 118 [.str sel] [] (.tup [.int .i64 r.1, .bool r.2]) [] := by
 refine acallX 10000 hf118 ok118 (by first | rfl | simp only [go_sem]) meek_tup ?_
 dsimp only [Tryz.f118, nums, Option.getD, List.append]
 unfold method_Arity at h
 simp only [go_sem, reduceAdd, reduceLT, reduceLeDiff, reduceEqDiff, Nat.reduceBEq, Nat.reduceBNe]
 refine blk_ 10000 ?_
 simp only [go_sem, reduceAdd, reduceLT, reduceLeDiff, reduceEqDiff, Nat.reduceBEq, Nat.reduceBNe]
 refine rgJ 41 10000 (.inl rfl) (fun w => w [(0, .str sel), (5, .bool ((sel == []) || (decide ((64 : Int) < (sel.length : Int)))))] []) (runX 10000 ?_) (fun Jg1 => ?_)
 ·simp only [go_sem, reduceAdd, reduceLT, reduceLeDiff, reduceEqDiff, Nat.reduceBEq, Nat.reduceBNe]
  refine cnd_s 10000 h (fun hb h => ?_) (fun hb h => ?_)
  ·simp only [go_sem, reduceAdd, reduceLT, reduceLeDiff, reduceEqDiff, Nat.reduceBEq, Nat.reduceBNe]
   refine ret_s (fun x => .tup [.int .i64 x.1, .bool x.2]) h ?_
   first | rfl | simp only [go_sem, resAV, resAll, resOne, reduceAdd, reduceLT, reduceLeDiff, reduceEqDiff, Nat.reduceBEq, Nat.reduceBNe]
  ·refine bsome h fun v2 hv2 h => ?_
   simp only [go_sem, reduceAdd, reduceLT, reduceLeDiff, reduceEqDiff, Nat.reduceBEq, Nat.reduceBNe]
   refine callX_ 10000 (w_method_name  hv2) (by first | rfl | simp only [go_sem]) (by first | rfl | simp only [go_sem]) ?_
   simp only [go_sem, reduceAdd, reduceLT, reduceLeDiff, reduceEqDiff, Nat.reduceBEq, Nat.reduceBNe]
   refine cnd_s 10000 h (fun hb h => ?_) (fun hb h => ?_)
   ·simp only [go_sem, reduceAdd, reduceLT, reduceLeDiff, reduceEqDiff, Nat.reduceBEq, Nat.reduceBNe]
    refine ret_s (fun x => .tup [.int .i64 x.1, .bool x.2]) h ?_
    first | rfl | simp only [go_sem, resAV, resAll, resOne, reduceAdd, reduceLT, reduceLeDiff, reduceEqDiff, Nat.reduceBEq, Nat.reduceBNe]
   ·simp only [go_sem, reduceAdd, reduceLT, reduceLeDiff, reduceEqDiff, Nat.reduceBEq, Nat.reduceBNe]
    refine bsome h fun y3 hy3 h => ?_
    refine rgJ 41 10000 (.inl rfl) (fun w => w [(0, .str sel), (16, .bool y3)] []) (runX 10000 ?_) (fun Jy3 => ?_)
    ·clear hy3
     simp only [go_sem, reduceAdd, reduceLT, reduceLeDiff, reduceEqDiff, Nat.reduceBEq, Nat.reduceBNe]
     refine cnd_s 10000 h (fun hb h => ?_) (fun hb h => ?_)
     ·simp only [go_sem, reduceAdd, reduceLT, reduceLeDiff, reduceEqDiff, Nat.reduceBEq, Nat.reduceBNe]
      refine ret_s (fun x => .tup [.int .i64 x.1, .bool x.2]) h ?_
      first | rfl | simp only [go_sem, resAV, resAll, resOne, reduceAdd, reduceLT, reduceLeDiff, reduceEqDiff, Nat.reduceBEq, Nat.reduceBNe]
     ·refine bsome h fun v7 hv7 h => ?_
      simp only [go_sem, reduceAdd, reduceLT, reduceLeDiff, reduceEqDiff, Nat.reduceBEq, Nat.reduceBNe]
      refine callX_ 10000 (w_strings_HasSuffix  hv7) (by first | rfl | simp only [go_sem]) (by first | rfl | simp only [go_sem]) ?_
      simp only [go_sem, reduceAdd, reduceLT, reduceLeDiff, reduceEqDiff, Nat.reduceBEq, Nat.reduceBNe]
      refine cnd_s 10000 h (fun hb h => ?_) (fun hb h => ?_)
      ·simp only [go_sem, reduceAdd, reduceLT, reduceLeDiff, reduceEqDiff, Nat.reduceBEq, Nat.reduceBNe]
       refine ret_s (fun x => .tup [.int .i64 x.1, .bool x.2]) h ?_
       first | rfl | simp only [go_sem, resAV, resAll, resOne, reduceAdd, reduceLT, reduceLeDiff, reduceEqDiff, Nat.reduceBEq, Nat.reduceBNe]
      ·refine bsome h fun v8 hv8 h => ?_
       simp only [go_sem, reduceAdd, reduceLT, reduceLeDiff, reduceEqDiff, Nat.reduceBEq, Nat.reduceBNe]
       refine callX_ 10000 (w_strings_TrimSuffix  hv8) (by first | rfl | simp only [go_sem]) (by first | rfl | simp only [go_sem]) ?_
       refine bsome h fun v9 hv9 h => ?_
       simp only [go_sem, reduceAdd, reduceLT, reduceLeDiff, reduceEqDiff, Nat.reduceBEq, Nat.reduceBNe]
       refine callX_ 10000 (w_strings_Split  hv9) (by first | rfl | simp only [go_sem]) (by first | rfl | simp only [go_sem]) ?_
       simp only [go_sem, reduceAdd, reduceLT, reduceLeDiff, reduceEqDiff, Nat.reduceBEq, Nat.reduceBNe]
       refine bsome h fun y10 hy10 h => ?_
       refine rgJ 41 10000 (.inl rfl) (fun w => w [(4, .sl none (List.map AV.str v9)), (38, .bool y10)] []) (runX 10000 ?_) (fun Jy10 => ?_)
       ·clear hy10
        simp only [go_sem, reduceAdd, reduceLT, reduceLeDiff, reduceEqDiff, Nat.reduceBEq, Nat.reduceBNe]
        refine cnd_s 10000 h (fun hb h => ?_) (fun hb h => ?_)
        ·simp only [go_sem, reduceAdd, reduceLT, reduceLeDiff, reduceEqDiff, Nat.reduceBEq, Nat.reduceBNe]
         refine ret_s (fun x => .tup [.int .i64 x.1, .bool x.2]) h ?_
         first | rfl | simp only [go_sem, resAV, resAll, resOne, reduceAdd, reduceLT, reduceLeDiff, reduceEqDiff, Nat.reduceBEq, Nat.reduceBNe]
        ·simp only [go_sem, reduceAdd, reduceLT, reduceLeDiff, reduceEqDiff, Nat.reduceBEq, Nat.reduceBNe]
         refine ret_s (fun x => .tup [.int .i64 x.1, .bool x.2]) h ?_
         first | rfl | simp only [go_sem, resAV, resAll, resOne, reduceAdd, reduceLT, reduceLeDiff, reduceEqDiff, Nat.reduceBEq, Nat.reduceBNe]
       ·clear h
        have h := hy10
        simp only [go_sem, reduceAdd, reduceLT, reduceLeDiff, reduceEqDiff, Nat.reduceBEq, Nat.reduceBNe]
        refine grd_ (fun hb12 => ?_) (fun hb12 => ?_)
        ·have h := ite_f hb12 h
         refine bsome h fun v13 hv13 h => ?_
         simp only [go_sem, reduceAdd, reduceLT, reduceLeDiff, reduceEqDiff, Nat.reduceBEq, Nat.reduceBNe]
         refine callX_ 10000 (w_slices_ContainsFunc_Lstring_string 176 (fun _ _ h => w_method_Arity_1 h) hv13) (by first | rfl | simp only [go_sem]) (by first | rfl | simp only [go_sem]) ?_
         simp only [go_sem, reduceAdd, reduceLT, reduceLeDiff, reduceEqDiff, Nat.reduceBEq, Nat.reduceBNe]
         obtain rfl := Option.some.inj h
         exact atJ (wkn (Jy10) ⟨rfl, rfl, trivial⟩)
        ·have h := ite_t hb12 h
         simp only [go_sem, reduceAdd, reduceLT, reduceLeDiff, reduceEqDiff, Nat.reduceBEq, Nat.reduceBNe]
         obtain rfl := Option.some.inj h
         exact atJ (wkn (Jy10) ⟨rfl, rfl, trivial⟩)
    ·clear h
     have h := hy3
     refine bsome h fun v5 hv5 h => ?_
     simp only [go_sem, reduceAdd, reduceLT, reduceLeDiff, reduceEqDiff, Nat.reduceBEq, Nat.reduceBNe]
     refine callX_ 10000 (w_strings_Trim  hv5) (by first | rfl | simp only [go_sem]) (by first | rfl | simp only [go_sem]) ?_
     simp only [go_sem, reduceAdd, reduceLT, reduceLeDiff, reduceEqDiff, Nat.reduceBEq, Nat.reduceBNe]
     refine grd_ (fun hb6 => ?_) (fun hb6 => ?_)
     ·have h := ite_t hb6 h
      simp only [go_sem, reduceAdd, reduceLT, reduceLeDiff, reduceEqDiff, Nat.reduceBEq, Nat.reduceBNe]
      obtain rfl := Option.some.inj h
      exact atJ (wkn (Jy3) ⟨rfl, rfl, trivial⟩)
     ·have h := ite_f hb6 h
      simp only [go_sem, reduceAdd, reduceLT, reduceLeDiff, reduceEqDiff, Nat.reduceBEq, Nat.reduceBNe]
      obtain rfl := Option.some.inj h
      exact atJ (wkn (Jy3) ⟨rfl, rfl, trivial⟩)
 ·simp only [go_sem, reduceAdd, reduceLT, reduceLeDiff, reduceEqDiff, Nat.reduceBEq, Nat.reduceBNe]
  refine grd_ (fun hb14 => ?_) (fun hb14 => ?_)
  ·simp only [go_sem, reduceAdd, reduceLT, reduceLeDiff, reduceEqDiff, Nat.reduceBEq, Nat.reduceBNe]
   exact atJ (wkn Jg1 ⟨rfl, congrArg AV.bool (by first | rfl | (rw [hb14]; rfl) | (simp [hb14]; done) | simp_all), trivial⟩)
  ·simp only [go_sem, reduceAdd, reduceLT, reduceLeDiff, reduceEqDiff, Nat.reduceBEq, Nat.reduceBNe]
   exact atJ (wkn Jg1 ⟨rfl, congrArg AV.bool (by first | rfl | (rw [hb14]; rfl) | (simp [hb14]; done) | simp_all), trivial⟩)
theorem w_tree_sends {sel : Str} {n : Int}   {r : Bool} (h : tree_sends sel n = some r) : ACall Tryz.prog 64 [.str sel, .int .i64 n] [] (.bool r) [] := by
 refine acallX 10000 hf64 ok64 (by first | rfl | simp only [go_sem]) meek_bool ?_
 dsimp only [Tryz.f64, nums, Option.getD, List.append]
 unfold tree_sends at h
 refine bsome h fun v1 hv1 h => ?_
 simp only [go_sem, reduceAdd, reduceLT, reduceLeDiff, reduceEqDiff, Nat.reduceBEq, Nat.reduceBNe]
 refine callX_ 10000 (w_method_Arity  hv1) (by first | rfl | simp only [go_sem]) (by first | rfl | simp only [go_sem]) ?_
 simp only [go_sem, reduceAdd, reduceLT, reduceLeDiff, reduceEqDiff, Nat.reduceBEq, Nat.reduceBNe]
 refine rgJ 18 10000 (.inl rfl) (fun w => w [(4, .bool (v1.2 && (decide (v1.1 = n))))] []) (runX 10000 ?_) (fun Jg2 => ?_)
 ·simp only [go_sem, reduceAdd, reduceLT, reduceLeDiff, reduceEqDiff, Nat.reduceBEq, Nat.reduceBNe]
  refine ret_s (fun x => .bool x) h ?_
  first | rfl | simp only [go_sem, resAV, resAll, resOne, reduceAdd, reduceLT, reduceLeDiff, reduceEqDiff, Nat.reduceBEq, Nat.reduceBNe]
 ·simp only [go_sem, reduceAdd, reduceLT, reduceLeDiff, reduceEqDiff, Nat.reduceBEq, Nat.reduceBNe]
  refine grd_ (fun hb3 => ?_) (fun hb3 => ?_)
  ·simp only [go_sem, reduceAdd, reduceLT, reduceLeDiff, reduceEqDiff, Nat.reduceBEq, Nat.reduceBNe]
   exact atJ (wkn Jg2 ⟨congrArg AV.bool (by first | rfl | (rw [hb3]; rfl) | (simp [hb3]; done) | simp_all), trivial⟩)
  ·simp only [go_sem, reduceAdd, reduceLT, reduceLeDiff, reduceEqDiff, Nat.reduceBEq, Nat.reduceBNe]
   exact atJ (wkn Jg2 ⟨congrArg AV.bool (by first | rfl | (rw [hb3]; rfl) | (simp [hb3]; done) | simp_all), trivial⟩)
theorem w_slices_Index_Lstring_string {s : (List Str)} {p1_v : Str}   {r : Int} (h : slices_Index_Lstring_string s p1_v = some r) : ACall Tryz.prog 177 [.sl none (List.map AV.str s), .str p1_v] [] (.int .i64 r) [] := by
 refine acallX 10000 hf177 ok177 (by first | rfl | simp only [go_sem]) meek_int ?_
 dsimp only [Tryz.f177, nums, Option.getD, List.append]
 unfold slices_Index_Lstring_string at h
 simp only [go_sem, reduceAdd, reduceLT, reduceLeDiff, reduceEqDiff, Nat.reduceBEq, Nat.reduceBNe]
 refine letK_s h fun K2 hK2 h => ?_
 refine blkJ 19 10000 (fun w => K2 () = some r → w [] []) (fun  h => runX 10000 ?_) (fun JK2 => ?_)
 ·subst hK2
  dsimp only at h
  simp only [go_sem, reduceAdd, reduceLT, reduceLeDiff, reduceEqDiff, Nat.reduceBEq, Nat.reduceBNe]
  refine ret_s (fun x => .int .i64 x) h ?_
  first | rfl | simp only [go_sem, resAV, resAll, resOne, reduceAdd, reduceLT, reduceLeDiff, reduceEqDiff, Nat.reduceBEq, Nat.reduceBNe]
 ·clear hK2
  simp only [go_sem, reduceAdd, reduceLT, reduceLeDiff, reduceEqDiff, Nat.reduceBEq, Nat.reduceBNe]
  refine lpJ 19 fuel (fun q1 w => ∀ (v3 : Int), slices_Index_Lstring_string_l1 s p1_v K2 q1 v3 = some r → w [(0, .sl none (List.map AV.str s)), (1, .str p1_v), (7, .int .i64 (s.length : Int)), (8, .int .i64 v3)] []) (fun w _ h => nomatch h) (fun q1 ih1 v3 h => ?_) (fun L1 => ?_)
  ·unfold slices_Index_Lstring_string_l1 at h
   refine runL 10000 ?_
   simp only [go_sem, reduceAdd, reduceLT, reduceLeDiff, reduceEqDiff, Nat.reduceBEq, Nat.reduceBNe]
   refine cnd_s 10000 h (fun hb h => ?_) (fun hb h => ?_)
   ·simp only [go_sem, reduceAdd, reduceLT, reduceLeDiff, reduceEqDiff, Nat.reduceBEq, Nat.reduceBNe]
    refine blk_ 10000 ?_
    refine lAt_s AV.str none .i64 ⟨9, 1, false, 16⟩ (fun _ => rfl) h fun v6 _ b4 e5 h => ?_
    simp only [go_sem, reduceAdd, reduceLT, reduceLeDiff, reduceEqDiff, Nat.reduceBEq, Nat.reduceBNe, b4, e5]
    refine cnd_s 10000 h (fun hb h => ?_) (fun hb h => ?_)
    ·simp only [go_sem, reduceAdd, reduceLT, reduceLeDiff, reduceEqDiff, Nat.reduceBEq, Nat.reduceBNe]
     refine ret_s (fun x => .int .i64 x) h ?_
     first | rfl | simp only [go_sem, resAV, resAll, resOne, reduceAdd, reduceLT, reduceLeDiff, reduceEqDiff, Nat.reduceBEq, Nat.reduceBNe]
    ·refine add_s h fun v8 _ e7 h => ?_
     simp only [go_sem, reduceAdd, reduceLT, reduceLeDiff, reduceEqDiff, Nat.reduceBEq, Nat.reduceBNe, e7]
     exact lp_back (ih1 v8 h) ⟨rfl, rfl, rfl, rfl, trivial⟩
   ·simp only [go_sem, reduceAdd, reduceLT, reduceLeDiff, reduceEqDiff, Nat.reduceBEq, Nat.reduceBNe]
    exact atJ (wkn (JK2  h) trivial)
  ·exact lp_back (L1 0 h) ⟨rfl, rfl, rfl, rfl, trivial⟩
theorem w_slices_Contains_Lstring_string {s : (List Str)} {p1_v : Str}   {r : Bool} (h : slices_Contains_Lstring_string s p1_v = some r) : ACall Tryz.prog 120 [.sl none (List.map AV.str s), .str p1_v] [] (.bool r) [] := by
 refine acallX 10000 hf120 ok120 (by first | rfl | simp only [go_sem]) meek_bool ?_
 dsimp only [Tryz.f120, nums, Option.getD, List.append]
 unfold slices_Contains_Lstring_string at h
 refine bsome h fun v1 hv1 h => ?_
 simp only [go_sem, reduceAdd, reduceLT, reduceLeDiff, reduceEqDiff, Nat.reduceBEq, Nat.reduceBNe]
 refine callX_ 10000 (w_slices_Index_Lstring_string  hv1) (by first | rfl | simp only [go_sem]) (by first | rfl | simp only [go_sem]) ?_
 simp only [go_sem, reduceAdd, reduceLT, reduceLeDiff, reduceEqDiff, Nat.reduceBEq, Nat.reduceBNe]
 refine ret_s (fun x => .bool x) h ?_
 first | rfl | simp only [go_sem, resAV, resAll, resOne, reduceAdd, reduceLT, reduceLeDiff, reduceEqDiff, Nat.reduceBEq, Nat.reduceBNe]
theorem w_internal_stringslite_IndexByte {s : Str} {c : Int}   {r : Int} (h : internal_stringslite_IndexByte s c = some r) : ACall Tryz.prog 147 [.str s, .int .u8 c] [] (.int .i64 r) [] := by
 refine acallX 10000 hf147 ok147 (by first | rfl | simp only [go_sem]) meek_int ?_
 dsimp only [Tryz.f147, nums, Option.getD, List.append]
 unfold internal_stringslite_IndexByte at h
 refine bsome h fun v1 hv1 h => ?_
 simp only [go_sem, reduceAdd, reduceLT, reduceLeDiff, reduceEqDiff, Nat.reduceBEq, Nat.reduceBNe]
 refine callX_ 10000 (w_bytealg_idx  hv1) (by first | rfl | simp only [go_sem]) (by first | rfl | simp only [go_sem]) ?_
 simp only [go_sem, reduceAdd, reduceLT, reduceLeDiff, reduceEqDiff, Nat.reduceBEq, Nat.reduceBNe]
 refine ret_s (fun x => .int .i64 x) h ?_
 first | rfl | simp only [go_sem, resAV, resAll, resOne, reduceAdd, reduceLT, reduceLeDiff, reduceEqDiff, Nat.reduceBEq, Nat.reduceBNe]
theorem w_strings_IndexByte {s : Str} {c : Int}   {r : Int} (h : strings_IndexByte s c = some r) : ACall Tryz.prog 100 [.str s, .int .u8 c] [] (.int .i64 r) [] := by
 refine acallX 10000 hf100 ok100 (by first | rfl | simp only [go_sem]) meek_int ?_
 dsimp only [Tryz.f100, nums, Option.getD, List.append]
 unfold strings_IndexByte at h
 refine bsome h fun v1 hv1 h => ?_
 simp only [go_sem, reduceAdd, reduceLT, reduceLeDiff, reduceEqDiff, Nat.reduceBEq, Nat.reduceBNe]
 refine callX_ 10000 (w_internal_stringslite_IndexByte  hv1) (by first | rfl | simp only [go_sem]) (by first | rfl | simp only [go_sem]) ?_
 simp only [go_sem, reduceAdd, reduceLT, reduceLeDiff, reduceEqDiff, Nat.reduceBEq, Nat.reduceBNe]
 refine ret_s (fun x => .int .i64 x) h ?_
 first | rfl | simp only [go_sem, resAV, resAll, resOne, reduceAdd, reduceLT, reduceLeDiff, reduceEqDiff, Nat.reduceBEq, Nat.reduceBNe]
theorem w_tree_named {s : Str} {first : Str}   {r : Bool} (h : tree_named s first = some r) : ACall Tryz.prog 129 [.str s, .str first] [] (.bool r) [] := by
 refine acallX 10000 hf129 ok129 (by first | rfl | simp only [go_sem]) meek_bool ?_
 dsimp only [Tryz.f129, nums, Option.getD, List.append]
 unfold tree_named at h
 simp only [go_sem, reduceAdd, reduceLT, reduceLeDiff, reduceEqDiff, Nat.reduceBEq, Nat.reduceBNe]
 refine bsome h fun y1 hy1 h => ?_
 refine rgJ 24 10000 (.inl rfl) (fun w => w [(4, .bool y1)] []) (runX 10000 ?_) (fun Jy1 => ?_)
 ·clear hy1
  simp only [go_sem, reduceAdd, reduceLT, reduceLeDiff, reduceEqDiff, Nat.reduceBEq, Nat.reduceBNe]
  refine ret_s (fun x => .bool x) h ?_
  first | rfl | simp only [go_sem, resAV, resAll, resOne, reduceAdd, reduceLT, reduceLeDiff, reduceEqDiff, Nat.reduceBEq, Nat.reduceBNe]
 ·clear h
  have h := hy1
  simp only [go_sem, reduceAdd, reduceLT, reduceLeDiff, reduceEqDiff, Nat.reduceBEq, Nat.reduceBNe]
  refine grd_ (fun hb3 => ?_) (fun hb3 => ?_)
  ·have h := ite_t hb3 h
   simp only [go_sem, reduceAdd, reduceLT, reduceLeDiff, reduceEqDiff, Nat.reduceBEq, Nat.reduceBNe]
   refine grd_ (fun hb4 => ?_) (fun hb4 => ?_)
   ·have h := ite_t hb4 h
    refine sIdx_s .i64 h fun v7 _ b5 e6 h => ?_
    refine bsome h fun v8 hv8 h => ?_
    simp only [go_sem, reduceAdd, reduceLT, reduceLeDiff, reduceEqDiff, Nat.reduceBEq, Nat.reduceBNe, b5, e6]
    refine callX_ 10000 (w_strings_IndexByte  hv8) (by first | rfl | simp only [go_sem]) (by first | rfl | simp only [go_sem]) ?_
    simp only [go_sem, reduceAdd, reduceLT, reduceLeDiff, reduceEqDiff, Nat.reduceBEq, Nat.reduceBNe]
    refine grd_ (fun hb9 => ?_) (fun hb9 => ?_)
    ·have h := ite_t hb9 h
     refine bsome h fun v10 hv10 h => ?_
     simp only [go_sem, reduceAdd, reduceLT, reduceLeDiff, reduceEqDiff, Nat.reduceBEq, Nat.reduceBNe]
     refine callX_ 10000 (w_strings_Trim  hv10) (by first | rfl | simp only [go_sem]) (by first | rfl | simp only [go_sem]) ?_
     simp only [go_sem, reduceAdd, reduceLT, reduceLeDiff, reduceEqDiff, Nat.reduceBEq, Nat.reduceBNe]
     obtain rfl := Option.some.inj h
     exact atJ (wkn (Jy1) ⟨rfl, trivial⟩)
    ·have h := ite_f hb9 h
     simp only [go_sem, reduceAdd, reduceLT, reduceLeDiff, reduceEqDiff, Nat.reduceBEq, Nat.reduceBNe]
     obtain rfl := Option.some.inj h
     exact atJ (wkn (Jy1) ⟨rfl, trivial⟩)
   ·have h := ite_f hb4 h
    simp only [go_sem, reduceAdd, reduceLT, reduceLeDiff, reduceEqDiff, Nat.reduceBEq, Nat.reduceBNe]
    obtain rfl := Option.some.inj h
    exact atJ (wkn (Jy1) ⟨rfl, trivial⟩)
  ·have h := ite_f hb3 h
   simp only [go_sem, reduceAdd, reduceLT, reduceLeDiff, reduceEqDiff, Nat.reduceBEq, Nat.reduceBNe]
   obtain rfl := Option.some.inj h
   exact atJ (wkn (Jy1) ⟨rfl, trivial⟩)
theorem w_tree_variable {s : Str}   {r : Bool} (h : tree_variable s = some r) : ACall Tryz.prog 119 [.str s] [] (.bool r) [] := by
 refine acallX 10000 hf119 ok119 (by first | rfl | simp only [go_sem]) meek_bool ?_
 dsimp only [Tryz.f119, nums, Option.getD, List.append]
 unfold tree_variable at h
 simp only [go_sem, reduceAdd, reduceLT, reduceLeDiff, reduceEqDiff, Nat.reduceBEq, Nat.reduceBNe]
 refine bsome h fun y1 hy1 h => ?_
 refine rgJ 11 10000 (.inl rfl) (fun w => w [(2, .bool y1)] []) (runX 10000 ?_) (fun Jy1 => ?_)
 ·clear hy1
  simp only [go_sem, reduceAdd, reduceLT, reduceLeDiff, reduceEqDiff, Nat.reduceBEq, Nat.reduceBNe]
  refine ret_s (fun x => .bool x) h ?_
  first | rfl | simp only [go_sem, resAV, resAll, resOne, reduceAdd, reduceLT, reduceLeDiff, reduceEqDiff, Nat.reduceBEq, Nat.reduceBNe]
 ·clear h
  have h := hy1
  refine bsome h fun v3 hv3 h => ?_
  simp only [go_sem, reduceAdd, reduceLT, reduceLeDiff, reduceEqDiff, Nat.reduceBEq, Nat.reduceBNe]
  refine callX_ 10000 (w_tree_named  hv3) (by first | rfl | simp only [go_sem]) (by first | rfl | simp only [go_sem]) ?_
  simp only [go_sem, reduceAdd, reduceLT, reduceLeDiff, reduceEqDiff, Nat.reduceBEq, Nat.reduceBNe]
  refine grd_ (fun hb4 => ?_) (fun hb4 => ?_)
  ·have h := ite_t hb4 h
   refine bsome h fun v5 hv5 h => ?_
   simp only [go_sem, reduceAdd, reduceLT, reduceLeDiff, reduceEqDiff, Nat.reduceBEq, Nat.reduceBNe]
   refine callX_ 10000 (w_slices_Contains_Lstring_string  hv5) (by first | rfl | simp only [go_sem]) (by first | rfl | simp only [go_sem]) ?_
   simp only [go_sem, reduceAdd, reduceLT, reduceLeDiff, reduceEqDiff, Nat.reduceBEq, Nat.reduceBNe]
   obtain rfl := Option.some.inj h
   exact atJ (wkn (Jy1) ⟨rfl, trivial⟩)
  ·have h := ite_f hb4 h
   simp only [go_sem, reduceAdd, reduceLT, reduceLeDiff, reduceEqDiff, Nat.reduceBEq, Nat.reduceBNe]
   obtain rfl := Option.some.inj h
   exact atJ (wkn (Jy1) ⟨rfl, trivial⟩)
theorem w_tree_unlike {l : (List Str)}   {r : Bool} (h : tree_unlike l = some r) : ACall Tryz.prog 65 [.sl none (List.map AV.str l)] [] (.bool r) [] := by
 refine acallX 10000 hf65 ok65 (by first | rfl | simp only [go_sem]) meek_bool ?_
 dsimp only [Tryz.f65, nums, Option.getD, List.append]
 unfold tree_unlike at h
 simp only [go_sem, reduceAdd, reduceLT, reduceLeDiff, reduceEqDiff, Nat.reduceBEq, Nat.reduceBNe]
 refine letK_s h fun K2 hK2 h => ?_
 refine blkJ 23 10000 (fun w => K2 () = some r → w [] []) (fun  h => runX 10000 ?_) (fun JK2 => ?_)
 ·subst hK2
  dsimp only at h
  simp only [go_sem, reduceAdd, reduceLT, reduceLeDiff, reduceEqDiff, Nat.reduceBEq, Nat.reduceBNe]
  refine ret_s (fun x => .bool x) h ?_
  first | rfl | simp only [go_sem, resAV, resAll, resOne, reduceAdd, reduceLT, reduceLeDiff, reduceEqDiff, Nat.reduceBEq, Nat.reduceBNe]
 ·clear hK2
  simp only [go_sem, reduceAdd, reduceLT, reduceLeDiff, reduceEqDiff, Nat.reduceBEq, Nat.reduceBNe]
  refine lpJ 23 fuel (fun q1 w => ∀ (v3 : Int), tree_unlike_l1 l K2 q1 v3 = some r → w [(0, .sl none (List.map AV.str l)), (5, .sl none (List.map AV.str l)), (6, .int .i64 (l.length : Int)), (7, .int .i64 v3)] []) (fun w _ h => nomatch h) (fun q1 ih1 v3 h => ?_) (fun L1 => ?_)
  ·unfold tree_unlike_l1 at h
   refine runL 10000 ?_
   simp only [go_sem, reduceAdd, reduceLT, reduceLeDiff, reduceEqDiff, Nat.reduceBEq, Nat.reduceBNe]
   refine cnd_s 10000 h (fun hb h => ?_) (fun hb h => ?_)
   ·simp only [go_sem, reduceAdd, reduceLT, reduceLeDiff, reduceEqDiff, Nat.reduceBEq, Nat.reduceBNe]
    refine blk_ 10000 ?_
    refine lAt_s AV.str none .i64 ⟨9, 1, false, 16⟩ (fun _ => rfl) h fun v6 _ b4 e5 h => ?_
    simp only [go_sem, reduceAdd, reduceLT, reduceLeDiff, reduceEqDiff, Nat.reduceBEq, Nat.reduceBNe, b4, e5]
    refine bsome h fun y7 hy7 h => ?_
    refine rgJ 23 10000 (.inl rfl) (fun w => w [(0, .sl none (List.map AV.str l)), (5, .sl none (List.map AV.str l)), (6, .int .i64 (l.length : Int)), (7, .int .i64 v3), (21, .bool y7)] []) (runX 10000 ?_) (fun Jy7 => ?_)
    ·clear hy7
     simp only [go_sem, reduceAdd, reduceLT, reduceLeDiff, reduceEqDiff, Nat.reduceBEq, Nat.reduceBNe]
     refine cnd_s 10000 h (fun hb h => ?_) (fun hb h => ?_)
     ·simp only [go_sem, reduceAdd, reduceLT, reduceLeDiff, reduceEqDiff, Nat.reduceBEq, Nat.reduceBNe]
      refine ret_s (fun x => .bool x) h ?_
      first | rfl | simp only [go_sem, resAV, resAll, resOne, reduceAdd, reduceLT, reduceLeDiff, reduceEqDiff, Nat.reduceBEq, Nat.reduceBNe]
     ·refine add_s h fun v16 _ e15 h => ?_
      simp only [go_sem, reduceAdd, reduceLT, reduceLeDiff, reduceEqDiff, Nat.reduceBEq, Nat.reduceBNe, e15]
      exact lp_back (ih1 v16 h) ⟨rfl, rfl, rfl, rfl, trivial⟩
    ·clear h
     have h := hy7
     refine bsome h fun v9 hv9 h => ?_
     simp only [go_sem, reduceAdd, reduceLT, reduceLeDiff, reduceEqDiff, Nat.reduceBEq, Nat.reduceBNe]
     refine callX_ 10000 (w_tree_variable  hv9) (by first | rfl | simp only [go_sem]) (by first | rfl | simp only [go_sem]) ?_
     simp only [go_sem, reduceAdd, reduceLT, reduceLeDiff, reduceEqDiff, Nat.reduceBEq, Nat.reduceBNe]
     refine grd_ (fun hb10 => ?_) (fun hb10 => ?_)
     ·have h := ite_f hb10 h
      refine subL_s AV.str none ⟨9, 1, false, 16⟩ (fun _ => rfl) none (some (.int .i64 v3)) rfl rfl h fun v13 _ b11 e12 h => ?_
      refine bsome h fun v14 hv14 h => ?_
      simp only [go_sem, reduceAdd, reduceLT, reduceLeDiff, reduceEqDiff, Nat.reduceBEq, Nat.reduceBNe, b11, e12]
      refine callX_ 10000 (w_slices_Contains_Lstring_string  hv14) (by first | rfl | simp only [go_sem]) (by first | rfl | simp only [go_sem]) ?_
      simp only [go_sem, reduceAdd, reduceLT, reduceLeDiff, reduceEqDiff, Nat.reduceBEq, Nat.reduceBNe]
      obtain rfl := Option.some.inj h
      exact atJ (wkn (Jy7) ⟨rfl, rfl, rfl, rfl, rfl, trivial⟩)
     ·have h := ite_t hb10 h
      simp only [go_sem, reduceAdd, reduceLT, reduceLeDiff, reduceEqDiff, Nat.reduceBEq, Nat.reduceBNe]
      obtain rfl := Option.some.inj h
      exact atJ (wkn (Jy7) ⟨rfl, rfl, rfl, rfl, rfl, trivial⟩)
   ·simp only [go_sem, reduceAdd, reduceLT, reduceLeDiff, reduceEqDiff, Nat.reduceBEq, Nat.reduceBNe]
    exact atJ (wkn (JK2  h) trivial)
  ·exact lp_back (L1 0 h) ⟨rfl, rfl, rfl, rfl, trivial⟩
theorem w_tree_Node_bare {n : tree_Node} {text : Bool} {names : Bool} {kids : Bool}   {r : Bool} (h : tree_Node_bare n text names kids = some r) : ACall Tryz.prog 178 [enc_tree_Node n, .bool text, .bool names, .bool kids] [] (.bool r) [] := by
 refine acallX 10000 hf178 ok178 (by first | rfl | simp only [go_sem]) meek_bool ?_
 dsimp only [Tryz.f178, nums, Option.getD, List.append]
 unfold tree_Node_bare at h
 simp only [go_sem, reduceAdd, reduceLT, reduceLeDiff, reduceEqDiff, Nat.reduceBEq, Nat.reduceBNe]
 refine rgJ 38 10000 (.inl rfl) (fun w => w [(8, .bool (((text || (n.S == [])) && (names || ((decide (n.N = 0)) && (decide ((n.L.length : Int) = 0))))) && (kids || (decide ((n.Kids.length : Int) = 0)))))] [some [.int .u8 n.K, .str n.S, .int .i64 n.N, .sl none (List.map AV.str n.L), .sl none (List.map (AV.int .i64) n.Kids)]]) (runX 10000 ?_) (fun Jg1 => ?_)
 ·simp only [go_sem, reduceAdd, reduceLT, reduceLeDiff, reduceEqDiff, Nat.reduceBEq, Nat.reduceBNe]
  refine ret_s (fun x => .bool x) h ?_
  first | rfl | simp only [go_sem, resAV, resAll, resOne, reduceAdd, reduceLT, reduceLeDiff, reduceEqDiff, Nat.reduceBEq, Nat.reduceBNe]
 ·simp only [go_sem, reduceAdd, reduceLT, reduceLeDiff, reduceEqDiff, Nat.reduceBEq, Nat.reduceBNe]
  refine grd_ (fun hb2 => ?_) (fun hb2 => ?_)
  ·simp only [go_sem, reduceAdd, reduceLT, reduceLeDiff, reduceEqDiff, Nat.reduceBEq, Nat.reduceBNe]
   refine grd_ (fun hb3 => ?_) (fun hb3 => ?_)
   ·simp only [go_sem, reduceAdd, reduceLT, reduceLeDiff, reduceEqDiff, Nat.reduceBEq, Nat.reduceBNe]
    refine grd_ (fun hb4 => ?_) (fun hb4 => ?_)
    ·simp only [go_sem, reduceAdd, reduceLT, reduceLeDiff, reduceEqDiff, Nat.reduceBEq, Nat.reduceBNe]
     refine grd_ (fun hb5 => ?_) (fun hb5 => ?_)
     ·simp only [go_sem, reduceAdd, reduceLT, reduceLeDiff, reduceEqDiff, Nat.reduceBEq, Nat.reduceBNe]
      refine grd_ (fun hb6 => ?_) (fun hb6 => ?_)
      ·simp only [go_sem, reduceAdd, reduceLT, reduceLeDiff, reduceEqDiff, Nat.reduceBEq, Nat.reduceBNe]
       refine grd_ (fun hb7 => ?_) (fun hb7 => ?_)
       ·simp only [go_sem, reduceAdd, reduceLT, reduceLeDiff, reduceEqDiff, Nat.reduceBEq, Nat.reduceBNe]
        exact atJ (wkn Jg1 ⟨congrArg AV.bool (by first | rfl | (rw [hb2, hb3, hb4, hb5, hb6, hb7]; rfl) | (simp [hb2, hb3, hb4, hb5, hb6, hb7]; done) | simp_all), trivial⟩)
       ·simp only [go_sem, reduceAdd, reduceLT, reduceLeDiff, reduceEqDiff, Nat.reduceBEq, Nat.reduceBNe]
        exact atJ (wkn Jg1 ⟨congrArg AV.bool (by first | rfl | (rw [hb2, hb3, hb4, hb5, hb6, hb7]; rfl) | (simp [hb2, hb3, hb4, hb5, hb6, hb7]; done) | simp_all), trivial⟩)
      ·simp only [go_sem, reduceAdd, reduceLT, reduceLeDiff, reduceEqDiff, Nat.reduceBEq, Nat.reduceBNe]
       exact atJ (wkn Jg1 ⟨congrArg AV.bool (by first | rfl | (rw [hb2, hb3, hb4, hb5, hb6]; rfl) | (simp [hb2, hb3, hb4, hb5, hb6]; done) | simp_all), trivial⟩)
     ·simp only [go_sem, reduceAdd, reduceLT, reduceLeDiff, reduceEqDiff, Nat.reduceBEq, Nat.reduceBNe]
      exact atJ (wkn Jg1 ⟨congrArg AV.bool (by first | rfl | (rw [hb2, hb3, hb4, hb5]; rfl) | (simp [hb2, hb3, hb4, hb5]; done) | simp_all), trivial⟩)
    ·simp only [go_sem, reduceAdd, reduceLT, reduceLeDiff, reduceEqDiff, Nat.reduceBEq, Nat.reduceBNe]
     refine grd_ (fun hb8 => ?_) (fun hb8 => ?_)
     ·simp only [go_sem, reduceAdd, reduceLT, reduceLeDiff, reduceEqDiff, Nat.reduceBEq, Nat.reduceBNe]
      exact atJ (wkn Jg1 ⟨congrArg AV.bool (by first | rfl | (rw [hb2, hb3, hb4, hb8]; rfl) | (simp [hb2, hb3, hb4, hb8]; done) | simp_all), trivial⟩)
     ·simp only [go_sem, reduceAdd, reduceLT, reduceLeDiff, reduceEqDiff, Nat.reduceBEq, Nat.reduceBNe]
      exact atJ (wkn Jg1 ⟨congrArg AV.bool (by first | rfl | (rw [hb2, hb3, hb4, hb8]; rfl) | (simp [hb2, hb3, hb4, hb8]; done) | simp_all), trivial⟩)
   ·simp only [go_sem, reduceAdd, reduceLT, reduceLeDiff, reduceEqDiff, Nat.reduceBEq, Nat.reduceBNe]
    exact atJ (wkn Jg1 ⟨congrArg AV.bool (by first | rfl | (rw [hb2, hb3]; rfl) | (simp [hb2, hb3]; done) | simp_all), trivial⟩)
  ·simp only [go_sem, reduceAdd, reduceLT, reduceLeDiff, reduceEqDiff, Nat.reduceBEq, Nat.reduceBNe]
   refine grd_ (fun hb9 => ?_) (fun hb9 => ?_)
   ·simp only [go_sem, reduceAdd, reduceLT, reduceLeDiff, reduceEqDiff, Nat.reduceBEq, Nat.reduceBNe]
    refine grd_ (fun hb10 => ?_) (fun hb10 => ?_)
    ·simp only [go_sem, reduceAdd, reduceLT, reduceLeDiff, reduceEqDiff, Nat.reduceBEq, Nat.reduceBNe]
     refine grd_ (fun hb11 => ?_) (fun hb11 => ?_)
     ·simp only [go_sem, reduceAdd, reduceLT, reduceLeDiff, reduceEqDiff, Nat.reduceBEq, Nat.reduceBNe]
      refine grd_ (fun hb12 => ?_) (fun hb12 => ?_)
      ·simp only [go_sem, reduceAdd, reduceLT, reduceLeDiff, reduceEqDiff, Nat.reduceBEq, Nat.reduceBNe]
       exact atJ (wkn Jg1 ⟨congrArg AV.bool (by first | rfl | (rw [hb2, hb9, hb10, hb11, hb12]; rfl) | (simp [hb2, hb9, hb10, hb11, hb12]; done) | simp_all), trivial⟩)
      ·simp only [go_sem, reduceAdd, reduceLT, reduceLeDiff, reduceEqDiff, Nat.reduceBEq, Nat.reduceBNe]
       exact atJ (wkn Jg1 ⟨congrArg AV.bool (by first | rfl | (rw [hb2, hb9, hb10, hb11, hb12]; rfl) | (simp [hb2, hb9, hb10, hb11, hb12]; done) | simp_all), trivial⟩)
     ·simp only [go_sem, reduceAdd, reduceLT, reduceLeDiff, reduceEqDiff, Nat.reduceBEq, Nat.reduceBNe]
      exact atJ (wkn Jg1 ⟨congrArg AV.bool (by first | rfl | (rw [hb2, hb9, hb10, hb11]; rfl) | (simp [hb2, hb9, hb10, hb11]; done) | simp_all), trivial⟩)
    ·simp only [go_sem, reduceAdd, reduceLT, reduceLeDiff, reduceEqDiff, Nat.reduceBEq, Nat.reduceBNe]
     exact atJ (wkn Jg1 ⟨congrArg AV.bool (by first | rfl | (rw [hb2, hb9, hb10]; rfl) | (simp [hb2, hb9, hb10]; done) | simp_all), trivial⟩)
   ·simp only [go_sem, reduceAdd, reduceLT, reduceLeDiff, reduceEqDiff, Nat.reduceBEq, Nat.reduceBNe]
    refine grd_ (fun hb13 => ?_) (fun hb13 => ?_)
    ·simp only [go_sem, reduceAdd, reduceLT, reduceLeDiff, reduceEqDiff, Nat.reduceBEq, Nat.reduceBNe]
     exact atJ (wkn Jg1 ⟨congrArg AV.bool (by first | rfl | (rw [hb2, hb9, hb13]; rfl) | (simp [hb2, hb9, hb13]; done) | simp_all), trivial⟩)
    ·simp only [go_sem, reduceAdd, reduceLT, reduceLeDiff, reduceEqDiff, Nat.reduceBEq, Nat.reduceBNe]
     exact atJ (wkn Jg1 ⟨congrArg AV.bool (by first | rfl | (rw [hb2, hb9, hb13]; rfl) | (simp [hb2, hb9, hb13]; done) | simp_all), trivial⟩)
theorem w_internal_stringslite_HasPrefix {s : Str} {prefix_ : Str}   {r : Bool} (h : internal_stringslite_HasPrefix s prefix_ = some r) : ACall Tryz.prog 281 [.str s, .str prefix_] [] (.bool r) [] := by
 refine acallX 10000 hf281 ok281 (by first | rfl | simp only [go_sem]) meek_bool ?_
 dsimp only [Tryz.f281, nums, Option.getD, List.append]
 unfold internal_stringslite_HasPrefix at h
 simp only [go_sem, reduceAdd, reduceLT, reduceLeDiff, reduceEqDiff, Nat.reduceBEq, Nat.reduceBNe]
 refine bsome h fun y1 hy1 h => ?_
 refine rgJ 18 10000 (.inl rfl) (fun w => w [(4, .bool y1)] []) (runX 10000 ?_) (fun Jy1 => ?_)
 ·clear hy1
  simp only [go_sem, reduceAdd, reduceLT, reduceLeDiff, reduceEqDiff, Nat.reduceBEq, Nat.reduceBNe]
  refine ret_s (fun x => .bool x) h ?_
  first | rfl | simp only [go_sem, resAV, resAll, resOne, reduceAdd, reduceLT, reduceLeDiff, reduceEqDiff, Nat.reduceBEq, Nat.reduceBNe]
 ·clear h
  have h := hy1
  simp only [go_sem, reduceAdd, reduceLT, reduceLeDiff, reduceEqDiff, Nat.reduceBEq, Nat.reduceBNe]
  refine grd_ (fun hb3 => ?_) (fun hb3 => ?_)
  ·have h := ite_t hb3 h
   refine subS_s none (some (.int .i64 (prefix_.length : Int))) rfl rfl h fun v6 _ b4 e5 h => ?_
   simp only [go_sem, reduceAdd, reduceLT, reduceLeDiff, reduceEqDiff, Nat.reduceBEq, Nat.reduceBNe, b4, e5]
   obtain rfl := Option.some.inj h
   exact atJ (wkn (Jy1) ⟨rfl, trivial⟩)
  ·have h := ite_f hb3 h
   simp only [go_sem, reduceAdd, reduceLT, reduceLeDiff, reduceEqDiff, Nat.reduceBEq, Nat.reduceBNe]
   obtain rfl := Option.some.inj h
   exact atJ (wkn (Jy1) ⟨rfl, trivial⟩)
theorem w_internal_stringslite_CutPrefix {s : Str} {prefix_ : Str}   {r : (Str × Bool)} (h : internal_stringslite_CutPrefix s prefix_ = some r) : ACall Tryz.prog 267 [.str s, .str prefix_] [] (.tup [.str r.1, .bool r.2]) [] := by
 refine acallX 10000 hf267 ok267 (by first | rfl | simp only [go_sem]) meek_tup ?_
 dsimp only [Tryz.f267, nums, Option.getD, List.append]
 unfold internal_stringslite_CutPrefix at h
 refine bsome h fun v1 hv1 h => ?_
 simp only [go_sem, reduceAdd, reduceLT, reduceLeDiff, reduceEqDiff, Nat.reduceBEq, Nat.reduceBNe]
 refine callX_ 10000 (w_internal_stringslite_HasPrefix  hv1) (by first | rfl | simp only [go_sem]) (by first | rfl | simp only [go_sem]) ?_
 simp only [go_sem, reduceAdd, reduceLT, reduceLeDiff, reduceEqDiff, Nat.reduceBEq, Nat.reduceBNe]
 refine cnd_s 10000 h (fun hb h => ?_) (fun hb h => ?_)
 ·simp only [go_sem, reduceAdd, reduceLT, reduceLeDiff, reduceEqDiff, Nat.reduceBEq, Nat.reduceBNe]
  refine ret_s (fun x => .tup [.str x.1, .bool x.2]) h ?_
  first | rfl | simp only [go_sem, resAV, resAll, resOne, reduceAdd, reduceLT, reduceLeDiff, reduceEqDiff, Nat.reduceBEq, Nat.reduceBNe]
 ·refine subS_s (some (.int .i64 (prefix_.length : Int))) none rfl rfl h fun v4 _ b2 e3 h => ?_
  simp only [go_sem, reduceAdd, reduceLT, reduceLeDiff, reduceEqDiff, Nat.reduceBEq, Nat.reduceBNe, b2, e3]
  refine ret_s (fun x => .tup [.str x.1, .bool x.2]) h ?_
  first | rfl | simp only [go_sem, resAV, resAll, resOne, reduceAdd, reduceLT, reduceLeDiff, reduceEqDiff, Nat.reduceBEq, Nat.reduceBNe]
theorem w_strings_CutPrefix {s : Str} {prefix_ : Str}   {r : (Str × Bool)} (h : strings_CutPrefix s prefix_ = some r) : ACall Tryz.prog 244 [.str s, .str prefix_] [] (.tup [.str r.1, .bool r.2]) [] := by
 refine acallX 10000 hf244 ok244 (by first | rfl | simp only [go_sem]) meek_tup ?_
 dsimp only [Tryz.f244, nums, Option.getD, List.append]
 unfold strings_CutPrefix at h
 refine bsome h fun v1 hv1 h => ?_
 simp only [go_sem, reduceAdd, reduceLT, reduceLeDiff, reduceEqDiff, Nat.reduceBEq, Nat.reduceBNe]
 refine callX_ 10000 (w_internal_stringslite_CutPrefix  hv1) (by first | rfl | simp only [go_sem]) (by first | rfl | simp only [go_sem]) ?_
 simp only [go_sem, reduceAdd, reduceLT, reduceLeDiff, reduceEqDiff, Nat.reduceBEq, Nat.reduceBNe]
 refine ret_s (fun x => .tup [.str x.1, .bool x.2]) h ?_
 first | rfl | simp only [go_sem, resAV, resAll, resOne, reduceAdd, reduceLT, reduceLeDiff, reduceEqDiff, Nat.reduceBEq, Nat.reduceBNe]
theorem w_large_digits {s : Str}   {r : (Str × Bool × Bool)} (h : large_digits s = some r) : ACall Tryz.prog 250 [.str s] [] (.tup [.str r.1, .bool r.2.1, .bool r.2.2]) [] := by
 refine acallX 10000 hf250 ok250 (by first | rfl | simp only [go_sem]) meek_tup ?_
 dsimp only [Tryz.f250, nums, Option.getD, List.append]
 unfold large_digits at h
 refine bsome h fun v1 hv1 h => ?_
 simp only [go_sem, reduceAdd, reduceLT, reduceLeDiff, reduceEqDiff, Nat.reduceBEq, Nat.reduceBNe]
 refine callX_ 10000 (w_strings_CutPrefix  hv1) (by first | rfl | simp only [go_sem]) (by first | rfl | simp only [go_sem]) ?_
 simp only [go_sem, reduceAdd, reduceLT, reduceLeDiff, reduceEqDiff, Nat.reduceBEq, Nat.reduceBNe]
 refine bsome h fun y2 hy2 h => ?_
 refine rgJ 43 10000 (.inl rfl) (fun w => w [(5, .str v1.1), (6, .bool v1.2), (40, .bool y2)] []) (runX 10000 ?_) (fun Jy2 => ?_)
 ·clear hy2
  simp only [go_sem, reduceAdd, reduceLT, reduceLeDiff, reduceEqDiff, Nat.reduceBEq, Nat.reduceBNe]
  refine cnd_s 10000 h (fun hb h => ?_) (fun hb h => ?_)
  ·simp only [go_sem, reduceAdd, reduceLT, reduceLeDiff, reduceEqDiff, Nat.reduceBEq, Nat.reduceBNe]
   refine ret_s (fun x => .tup [.str x.1, .bool x.2.1, .bool x.2.2]) h ?_
   first | rfl | simp only [go_sem, resAV, resAll, resOne, reduceAdd, reduceLT, reduceLeDiff, reduceEqDiff, Nat.reduceBEq, Nat.reduceBNe]
  ·simp only [go_sem, reduceAdd, reduceLT, reduceLeDiff, reduceEqDiff, Nat.reduceBEq, Nat.reduceBNe]
   refine ret_s (fun x => .tup [.str x.1, .bool x.2.1, .bool x.2.2]) h ?_
   first | rfl | simp only [go_sem, resAV, resAll, resOne, reduceAdd, reduceLT, reduceLeDiff, reduceEqDiff, Nat.reduceBEq, Nat.reduceBNe]
 ·clear h
  have h := hy2
  simp only [go_sem, reduceAdd, reduceLT, reduceLeDiff, reduceEqDiff, Nat.reduceBEq, Nat.reduceBNe]
  refine grd_ (fun hb4 => ?_) (fun hb4 => ?_)
  ·have h := ite_f hb4 h
   simp only [go_sem, reduceAdd, reduceLT, reduceLeDiff, reduceEqDiff, Nat.reduceBEq, Nat.reduceBNe]
   refine grd_ (fun hb5 => ?_) (fun hb5 => ?_)
   ·have h := ite_f hb5 h
    simp only [go_sem, reduceAdd, reduceLT, reduceLeDiff, reduceEqDiff, Nat.reduceBEq, Nat.reduceBNe]
    refine grd_ (fun hb6 => ?_) (fun hb6 => ?_)
    ·have h := ite_t hb6 h
     refine sIdx_s .i64 h fun v9 _ b7 e8 h => ?_
     simp only [go_sem, reduceAdd, reduceLT, reduceLeDiff, reduceEqDiff, Nat.reduceBEq, Nat.reduceBNe, b7, e8]
     refine grd_ (fun hb10 => ?_) (fun hb10 => ?_)
     ·have h := ite_f hb10 h
      simp only [go_sem, reduceAdd, reduceLT, reduceLeDiff, reduceEqDiff, Nat.reduceBEq, Nat.reduceBNe]
      refine grd_ (fun hb11 => ?_) (fun hb11 => ?_)
      ·have h := ite_t hb11 h
       simp only [go_sem, reduceAdd, reduceLT, reduceLeDiff, reduceEqDiff, Nat.reduceBEq, Nat.reduceBNe]
       refine grd_ (fun hb12 => ?_) (fun hb12 => ?_)
       ·have h := ite_f hb12 h
        refine bsome h fun v13 hv13 h => ?_
        simp only [go_sem, reduceAdd, reduceLT, reduceLeDiff, reduceEqDiff, Nat.reduceBEq, Nat.reduceBNe]
        refine callX_ 10000 (w_strings_Trim  hv13) (by first | rfl | simp only [go_sem]) (by first | rfl | simp only [go_sem]) ?_
        simp only [go_sem, reduceAdd, reduceLT, reduceLeDiff, reduceEqDiff, Nat.reduceBEq, Nat.reduceBNe]
        obtain rfl := Option.some.inj h
        exact atJ (wkn (Jy2) ⟨rfl, rfl, rfl, trivial⟩)
       ·have h := ite_t hb12 h
        simp only [go_sem, reduceAdd, reduceLT, reduceLeDiff, reduceEqDiff, Nat.reduceBEq, Nat.reduceBNe]
        obtain rfl := Option.some.inj h
        exact atJ (wkn (Jy2) ⟨rfl, rfl, rfl, trivial⟩)
      ·have h := ite_f hb11 h
       refine bsome h fun v14 hv14 h => ?_
       simp only [go_sem, reduceAdd, reduceLT, reduceLeDiff, reduceEqDiff, Nat.reduceBEq, Nat.reduceBNe]
       refine callX_ 10000 (w_strings_Trim  hv14) (by first | rfl | simp only [go_sem]) (by first | rfl | simp only [go_sem]) ?_
       simp only [go_sem, reduceAdd, reduceLT, reduceLeDiff, reduceEqDiff, Nat.reduceBEq, Nat.reduceBNe]
       obtain rfl := Option.some.inj h
       exact atJ (wkn (Jy2) ⟨rfl, rfl, rfl, trivial⟩)
     ·have h := ite_t hb10 h
      simp only [go_sem, reduceAdd, reduceLT, reduceLeDiff, reduceEqDiff, Nat.reduceBEq, Nat.reduceBNe]
      obtain rfl := Option.some.inj h
      exact atJ (wkn (Jy2) ⟨rfl, rfl, rfl, trivial⟩)
    ·have h := ite_f hb6 h
     simp only [go_sem, reduceAdd, reduceLT, reduceLeDiff, reduceEqDiff, Nat.reduceBEq, Nat.reduceBNe]
     refine grd_ (fun hb15 => ?_) (fun hb15 => ?_)
     ·have h := ite_t hb15 h
      simp only [go_sem, reduceAdd, reduceLT, reduceLeDiff, reduceEqDiff, Nat.reduceBEq, Nat.reduceBNe]
      refine grd_ (fun hb16 => ?_) (fun hb16 => ?_)
      ·have h := ite_f hb16 h
       refine bsome h fun v17 hv17 h => ?_
       simp only [go_sem, reduceAdd, reduceLT, reduceLeDiff, reduceEqDiff, Nat.reduceBEq, Nat.reduceBNe]
       refine callX_ 10000 (w_strings_Trim  hv17) (by first | rfl | simp only [go_sem]) (by first | rfl | simp only [go_sem]) ?_
       simp only [go_sem, reduceAdd, reduceLT, reduceLeDiff, reduceEqDiff, Nat.reduceBEq, Nat.reduceBNe]
       obtain rfl := Option.some.inj h
       exact atJ (wkn (Jy2) ⟨rfl, rfl, rfl, trivial⟩)
      ·have h := ite_t hb16 h
       simp only [go_sem, reduceAdd, reduceLT, reduceLeDiff, reduceEqDiff, Nat.reduceBEq, Nat.reduceBNe]
       obtain rfl := Option.some.inj h
       exact atJ (wkn (Jy2) ⟨rfl, rfl, rfl, trivial⟩)
     ·have h := ite_f hb15 h
      refine bsome h fun v18 hv18 h => ?_
      simp only [go_sem, reduceAdd, reduceLT, reduceLeDiff, reduceEqDiff, Nat.reduceBEq, Nat.reduceBNe]
      refine callX_ 10000 (w_strings_Trim  hv18) (by first | rfl | simp only [go_sem]) (by first | rfl | simp only [go_sem]) ?_
      simp only [go_sem, reduceAdd, reduceLT, reduceLeDiff, reduceEqDiff, Nat.reduceBEq, Nat.reduceBNe]
      obtain rfl := Option.some.inj h
      exact atJ (wkn (Jy2) ⟨rfl, rfl, rfl, trivial⟩)
   ·have h := ite_t hb5 h
    simp only [go_sem, reduceAdd, reduceLT, reduceLeDiff, reduceEqDiff, Nat.reduceBEq, Nat.reduceBNe]
    obtain rfl := Option.some.inj h
    exact atJ (wkn (Jy2) ⟨rfl, rfl, rfl, trivial⟩)
  ·have h := ite_t hb4 h
   simp only [go_sem, reduceAdd, reduceLT, reduceLeDiff, reduceEqDiff, Nat.reduceBEq, Nat.reduceBNe]
   obtain rfl := Option.some.inj h
   exact atJ (wkn (Jy2) ⟨rfl, rfl, rfl, trivial⟩)
theorem w_large_cut {m : (List Int)}   {r : (List Int)} (h : large_cut m = some r) : ACall Tryz.prog 271 [.sl none (List.map (AV.int .u32) m)] [] (.sl none (List.map (AV.int .u32) r)) [] := by
 refine acallX 10000 hf271 ok271 (by first | rfl | simp only [go_sem]) meek_sl ?_
 dsimp only [Tryz.f271, nums, Option.getD, List.append]
 unfold large_cut at h
 simp only [go_sem, reduceAdd, reduceLT, reduceLeDiff, reduceEqDiff, Nat.reduceBEq, Nat.reduceBNe]
 refine bsome h fun y1 hy1 h => ?_
 refine blkJ 21 10000 (fun w => w [(0, .sl none (List.map (AV.int .u32) y1))] []) (runX 10000 ?_) (fun Jy1 => ?_)
 ·clear hy1
  simp only [go_sem, reduceAdd, reduceLT, reduceLeDiff, reduceEqDiff, Nat.reduceBEq, Nat.reduceBNe]
  refine ret_s (fun x => .sl none (List.map (AV.int .u32) x)) h ?_
  first | rfl | simp only [go_sem, resAV, resAll, resOne, reduceAdd, reduceLT, reduceLeDiff, reduceEqDiff, Nat.reduceBEq, Nat.reduceBNe]
 ·clear h
  have h := hy1
  simp only [go_sem, reduceAdd, reduceLT, reduceLeDiff, reduceEqDiff, Nat.reduceBEq, Nat.reduceBNe]
  refine lpJ 21 fuel (fun q1 w => ∀ (v3 : (List Int)), large_cut_l1  q1 v3 = some y1 → w [(0, .sl none (List.map (AV.int .u32) v3))] []) (fun w _ h => nomatch h) (fun q1 ih1 v3 h => ?_) (fun L1 => ?_)
  ·unfold large_cut_l1 at h
   refine runL 10000 ?_
   simp only [go_sem, reduceAdd, reduceLT, reduceLeDiff, reduceEqDiff, Nat.reduceBEq, Nat.reduceBNe]
   refine bsome h fun y4 hy4 h => ?_
   refine rgJ 21 10000 (.inl rfl) (fun w => w [(0, .sl none (List.map (AV.int .u32) v3)), (14, .bool y4)] []) (runX 10000 ?_) (fun Jy4 => ?_)
   ·clear hy4
    simp only [go_sem, reduceAdd, reduceLT, reduceLeDiff, reduceEqDiff, Nat.reduceBEq, Nat.reduceBNe]
    refine cnd_s 10000 h (fun hb h => ?_) (fun hb h => ?_)
    ·simp only [go_sem, reduceAdd, reduceLT, reduceLeDiff, reduceEqDiff, Nat.reduceBEq, Nat.reduceBNe]
     refine blk_ 10000 ?_
     refine sub_s h fun v13 _ e12 h => ?_
     refine subL_s (AV.int .u32) none ⟨272, 1, false, 4⟩ (fun _ => rfl) none (some (.int .i64 v13)) rfl rfl h fun v16 _ b14 e15 h => ?_
     simp only [go_sem, reduceAdd, reduceLT, reduceLeDiff, reduceEqDiff, Nat.reduceBEq, Nat.reduceBNe, e12, b14, e15]
     exact lp_back (ih1 v16 h) ⟨rfl, trivial⟩
    ·simp only [go_sem, reduceAdd, reduceLT, reduceLeDiff, reduceEqDiff, Nat.reduceBEq, Nat.reduceBNe]
     obtain rfl := Option.some.inj h
     exact atJ (wkn (Jy1) ⟨rfl, trivial⟩)
   ·clear h
    have h := hy4
    simp only [go_sem, reduceAdd, reduceLT, reduceLeDiff, reduceEqDiff, Nat.reduceBEq, Nat.reduceBNe]
    refine grd_ (fun hb6 => ?_) (fun hb6 => ?_)
    ·have h := ite_t hb6 h
     refine sub_s h fun v8 _ e7 h => ?_
     refine lAt_s (AV.int .u32) none .i64 ⟨272, 1, false, 4⟩ (fun _ => rfl) h fun v11 _ b9 e10 h => ?_
     simp only [go_sem, reduceAdd, reduceLT, reduceLeDiff, reduceEqDiff, Nat.reduceBEq, Nat.reduceBNe, e7, b9, e10]
     obtain rfl := Option.some.inj h
     exact atJ (wkn (Jy4) ⟨rfl, rfl, trivial⟩)
    ·have h := ite_f hb6 h
     simp only [go_sem, reduceAdd, reduceLT, reduceLeDiff, reduceEqDiff, Nat.reduceBEq, Nat.reduceBNe]
     obtain rfl := Option.some.inj h
     exact atJ (wkn (Jy4) ⟨rfl, rfl, trivial⟩)
  ·exact lp_back (L1 m h) ⟨rfl, trivial⟩
theorem w_large_made {neg : Bool} {m : (List Int)}   {r : (large_Num × (Option Int))} (h : large_made neg m = some r) : ACall Tryz.prog 251 [.bool neg, .sl none (List.map (AV.int .u32) m)] [] (.tup [enc_large_Num r.1, encE 86 r.2]) [] := by
 refine acallX 10000 hf251 ok251 (by first | rfl | simp only [go_sem]) meek_tup ?_
 dsimp only [Tryz.f251, nums, Option.getD, List.append]
 unfold large_made at h
 refine bsome h fun v1 hv1 h => ?_
 simp only [go_sem, reduceAdd, reduceLT, reduceLeDiff, reduceEqDiff, Nat.reduceBEq, Nat.reduceBNe]
 refine callX_ 10000 (w_large_cut  hv1) (by first | rfl | simp only [go_sem]) (by first | rfl | simp only [go_sem]) ?_
 simp only [go_sem, reduceAdd, reduceLT, reduceLeDiff, reduceEqDiff, Nat.reduceBEq, Nat.reduceBNe]
 refine cnd_s 10000 h (fun hb h => ?_) (fun hb h => ?_)
 ·simp only [go_sem, reduceAdd, reduceLT, reduceLeDiff, reduceEqDiff, Nat.reduceBEq, Nat.reduceBNe]
  refine ret_s (fun x => .tup [enc_large_Num x.1, encE 86 x.2]) h ?_
  first | rfl | simp only [go_sem, resAV, resAll, resOne, reduceAdd, reduceLT, reduceLeDiff, reduceEqDiff, Nat.reduceBEq, Nat.reduceBNe]
 ·simp only [go_sem, reduceAdd, reduceLT, reduceLeDiff, reduceEqDiff, Nat.reduceBEq, Nat.reduceBNe]
  refine bsome h fun y2 hy2 h => ?_
  refine rgJ 21 10000 (.inl rfl) (fun w => w [(4, .ptr 0 0), (5, .nilI)] [some [.bool y2, .sl none (List.map (AV.int .u32) v1)]]) (runX 10000 ?_) (fun Jy2 => ?_)
  ·clear hy2
   simp only [go_sem, reduceAdd, reduceLT, reduceLeDiff, reduceEqDiff, Nat.reduceBEq, Nat.reduceBNe]
   refine ret_s (fun x => .tup [enc_large_Num x.1, encE 86 x.2]) h ?_
   first | rfl | simp only [go_sem, resAV, resAll, resOne, reduceAdd, reduceLT, reduceLeDiff, reduceEqDiff, Nat.reduceBEq, Nat.reduceBNe]
  ·clear h
   have h := hy2
   simp only [go_sem, reduceAdd, reduceLT, reduceLeDiff, reduceEqDiff, Nat.reduceBEq, Nat.reduceBNe]
   refine grd_ (fun hb4 => ?_) (fun hb4 => ?_)
   ·have h := ite_t hb4 h
    simp only [go_sem, reduceAdd, reduceLT, reduceLeDiff, reduceEqDiff, Nat.reduceBEq, Nat.reduceBNe]
    obtain rfl := Option.some.inj h
    exact atJ (wkn (Jy2) ⟨rfl, rfl, trivial⟩)
   ·have h := ite_f hb4 h
    simp only [go_sem, reduceAdd, reduceLT, reduceLeDiff, reduceEqDiff, Nat.reduceBEq, Nat.reduceBNe]
    obtain rfl := Option.some.inj h
    exact atJ (wkn (Jy2) ⟨rfl, rfl, trivial⟩)
theorem w_large_Parse {s : Str}   {r : (large_Num × (Option Int))} (h : large_Parse s = some r) : ACall Tryz.prog 219 [.str s] [] (.tup [enc_large_Num r.1, encE 86 r.2]) [] := by
 refine acallX 10000 hf219 ok219 (by first | rfl | simp only [go_sem]) meek_tup ?_
 dsimp only [Tryz.f219, nums, Option.getD, List.append]
 unfold large_Parse at h
 refine bsome h fun v1 hv1 h => ?_
 simp only [go_sem, reduceAdd, reduceLT, reduceLeDiff, reduceEqDiff, Nat.reduceBEq, Nat.reduceBNe]
 refine callX_ 10000 (w_large_digits  hv1) (by first | rfl | simp only [go_sem]) (by first | rfl | simp only [go_sem]) ?_
 simp only [go_sem, reduceAdd, reduceLT, reduceLeDiff, reduceEqDiff, Nat.reduceBEq, Nat.reduceBNe]
 refine cnd_s 10000 h (fun hb h => ?_) (fun hb h => ?_)
 ·simp only [go_sem, reduceAdd, reduceLT, reduceLeDiff, reduceEqDiff, Nat.reduceBEq, Nat.reduceBNe]
  refine ret_s (fun x => .tup [enc_large_Num x.1, encE 86 x.2]) h ?_
  first | rfl | simp only [go_sem, resAV, resAll, resOne, reduceAdd, reduceLT, reduceLeDiff, reduceEqDiff, Nat.reduceBEq, Nat.reduceBNe]
 ·simp only [go_sem, reduceAdd, reduceLT, reduceLeDiff, reduceEqDiff, Nat.reduceBEq, Nat.reduceBNe, (bytes_e (P := Tryz.prog) (s := 9) (d := 148) (by rw [kd148]; rfl) (by rw [kd148]; rfl) v1.1)]
  refine prom_blk 7 1 false rfl (by first | rfl | simp only [go_sem]) rfl ?_
  refine bsome h fun y2 hy2 h => ?_
  refine blkJ 66 10000 (fun w => w [(2, .ptr 0 0), (5, .bool v1.2.1), (7, .rs 1 0 y2.length 1 false false)] [some [.bool false, .sl (some none) []], some (List.map (AV.int .u32) y2)]) (runX 10000 ?_) (fun Jy2 => ?_)
  ·clear hy2
   simp only [go_sem, reduceAdd, reduceLT, reduceLeDiff, reduceEqDiff, Nat.reduceBEq, Nat.reduceBNe]
   refine mvF_ 10000 (AV.int .u32) plain_int (v := y2) rfl rfl (by first | rfl | simp only [go_sem]) (by first | rfl | simp only [go_sem]) (by first | rfl | simp only [go_sem]) rfl rfl ?_
   refine bsome h fun v103 hv103 h => ?_
   simp only [go_sem, reduceAdd, reduceLT, reduceLeDiff, reduceEqDiff, Nat.reduceBEq, Nat.reduceBNe]
   refine callX_ 10000 (w_large_made  hv103) (by first | rfl | simp only [go_sem]) (by first | rfl | simp only [go_sem]) ?_
   simp only [go_sem, reduceAdd, reduceLT, reduceLeDiff, reduceEqDiff, Nat.reduceBEq, Nat.reduceBNe]
   refine ret_s (fun x => .tup [enc_large_Num x.1, encE 86 x.2]) h ?_
   first | rfl | simp only [go_sem, resAV, resAll, resOne, reduceAdd, reduceLT, reduceLeDiff, reduceEqDiff, Nat.reduceBEq, Nat.reduceBNe]
  ·clear h
   have h := hy2
   simp only [go_sem, reduceAdd, reduceLT, reduceLeDiff, reduceEqDiff, Nat.reduceBEq, Nat.reduceBNe]
   refine lpJ 66 fuel (fun q1 w => ∀ (v53 : Int) (v54 : (List Int)), large_Parse_l1 v1 q1 v53 v54 = some y2 → w [(2, .ptr 0 0), (5, .bool v1.2.1), (7, .rs 1 0 v54.length 1 false false), (24, .sl none (List.map (AV.int .u8) (toInts v1.1))), (25, .int .i64 ((toInts v1.1).length : Int)), (26, .int .i64 v53)] [some [.bool false, .sl (some none) []], some (List.map (AV.int .u32) v54)]) (fun w _ _ h => nomatch h) (fun q1 ih1 v53 v54 h => ?_) (fun L1 => ?_)
   ·unfold large_Parse_l1 at h
    refine runL 10000 ?_
    simp only [go_sem, reduceAdd, reduceLT, reduceLeDiff, reduceEqDiff, Nat.reduceBEq, Nat.reduceBNe]
    refine cnd_s 10000 h (fun hb h => ?_) (fun hb h => ?_)
    ·simp only [go_sem, reduceAdd, reduceLT, reduceLeDiff, reduceEqDiff, Nat.reduceBEq, Nat.reduceBNe]
     refine blk_ 10000 ?_
     refine lAt_s (AV.int .u8) none .i64 ⟨5, 1, false, 1⟩ (fun _ => rfl) h fun v57 _ b55 e56 h => ?_
     simp only [go_sem, reduceAdd, reduceLT, reduceLeDiff, reduceEqDiff, Nat.reduceBEq, Nat.reduceBNe, b55, e56, (show intv .sub .u8 v57 48 = .int .u8 (IntKind.wrap .u8 (v57 - 48)) from rfl), (cvw_e (s := 5) (k := .u8) io274 (IntKind.wrap .u8 (v57 - 48)))]
     refine bsome h fun y58 hy58 h => ?_
     refine blkJ 66 10000 (fun w => w [(2, .ptr 0 0), (5, .bool v1.2.1), (7, .rs 1 0 y58.2.length 1 false false), (10, .int .u64 y58.1), (24, .sl none (List.map (AV.int .u8) (toInts v1.1))), (25, .int .i64 ((toInts v1.1).length : Int)), (26, .int .i64 v53)] [some [.bool false, .sl (some none) []], some (List.map (AV.int .u32) y58.2)]) (runX 10000 ?_) (fun Jy58 => ?_)
     ·clear hy58
      simp only [go_sem, reduceAdd, reduceLT, reduceLeDiff, reduceEqDiff, Nat.reduceBEq, Nat.reduceBNe]
      refine bsome h fun y95 hy95 h => ?_
      refine cndJ 66 10000 (fun w => w [(2, .ptr 0 0), (5, .bool v1.2.1), (7, .rs 1 0 y95.length 1 false false), (24, .sl none (List.map (AV.int .u8) (toInts v1.1))), (25, .int .i64 ((toInts v1.1).length : Int)), (26, .int .i64 v53)] [some [.bool false, .sl (some none) []], some (List.map (AV.int .u32) y95)]) (runX 10000 ?_) (fun Jy95 => ?_)
      ·clear hy95
       refine add_s h fun v102 _ e101 h => ?_
       simp only [go_sem, reduceAdd, reduceLT, reduceLeDiff, reduceEqDiff, Nat.reduceBEq, Nat.reduceBNe, e101]
       exact lp_back (ih1 v102 y95 h) ⟨rfl, rfl, rfl, rfl, rfl, rfl, trivial⟩
      ·clear h
       have h := hy95
       refine cnd_s 10000 h (fun hb h => ?_) (fun hb h => ?_)
       ·simp only [go_sem, reduceAdd, reduceLT, reduceLeDiff, reduceEqDiff, Nat.reduceBEq, Nat.reduceBNe, (cvw_e (s := 274) (k := .u64) io272 y58.1)]
        refine appB_s (AV.int .u32) (some none) ⟨272, 1, false, 4⟩ (fun _ => rfl) (by decide) rfl h fun v100 e97 e98 e99 h => ?_
        refine appB_ 10000 (AV.int .u32) plain_int (v := y58.2) (ws := ([(IntKind.wrap .u32 y58.1)] : List Int)) rfl rfl rfl el175 rfl kd175 (by first | rfl | simp only [go_sem]) (by first | rfl | simp only [go_sem]) (by first | rfl | simp only [go_sem]) e97 e98 e99 (by first | rfl | simp only [go_sem]) rfl rfl ?_
        simp only [go_sem, reduceAdd, reduceLT, reduceLeDiff, reduceEqDiff, Nat.reduceBEq, Nat.reduceBNe]
        obtain rfl := Option.some.inj h
        exact atJ (wkn (Jy95) ⟨rfl, rfl, rfl, rfl, rfl, rfl, trivial⟩)
       ·simp only [go_sem, reduceAdd, reduceLT, reduceLeDiff, reduceEqDiff, Nat.reduceBEq, Nat.reduceBNe]
        obtain rfl := Option.some.inj h
        exact atJ (wkn (Jy95) ⟨rfl, rfl, rfl, rfl, rfl, rfl, trivial⟩)
     ·clear h
      have h := hy58
      simp only [go_sem, reduceAdd, reduceLT, reduceLeDiff, reduceEqDiff, Nat.reduceBEq, Nat.reduceBNe]
      refine lpJ 66 fuel (fun q3 w => ∀ (v77 : Int) (v78 : Int) (v79 : (List Int)), large_Parse_l3 v54 q3 v77 v78 v79 = some y58 → w [(2, .ptr 0 0), (5, .bool v1.2.1), (7, .rs 1 0 v79.length 1 false false), (10, .int .u64 v77), (24, .sl none (List.map (AV.int .u8) (toInts v1.1))), (25, .int .i64 ((toInts v1.1).length : Int)), (26, .int .i64 v53), (33, .rs 1 0 v79.length 1 false false), (34, .int .i64 (v54.length : Int)), (35, .int .i64 v78)] [some [.bool false, .sl (some none) []], some (List.map (AV.int .u32) v79)]) (fun w _ _ _ h => nomatch h) (fun q3 ih3 v77 v78 v79 h => ?_) (fun L3 => ?_)
      ·unfold large_Parse_l3 at h
       refine runL 10000 ?_
       simp only [go_sem, reduceAdd, reduceLT, reduceLeDiff, reduceEqDiff, Nat.reduceBEq, Nat.reduceBNe]
       refine cnd_s 10000 h (fun hb h => ?_) (fun hb h => ?_)
       ·simp only [go_sem, reduceAdd, reduceLT, reduceLeDiff, reduceEqDiff, Nat.reduceBEq, Nat.reduceBNe]
        refine blk_ 10000 ?_
        refine bAt_s (AV.int .u32) .i64 ⟨272, 1, false, 4⟩ rfl 1 false false rfl h fun v86 _ e80 e81 e82 e83 e84 e85 h => ?_
        refine stB_s h fun v89 e87 e88 h => ?_
        refine shr_s h fun v92 _ b91 e90 h => ?_
        refine add_s h fun v94 _ e93 h => ?_
        simp only [go_sem, reduceAdd, reduceLT, reduceLeDiff, reduceEqDiff, Nat.reduceBEq, Nat.reduceBNe, e80, e81, e82, e83, e84, (cvw_e (s := 272) (k := .u32) io274 v86), (show intv .mul .u64 (IntKind.wrap .u64 v86) 10 = .int .u64 (IntKind.wrap .u64 ((IntKind.wrap .u64 v86) * 10)) from rfl), (show intv .add .u64 v77 (IntKind.wrap .u64 ((IntKind.wrap .u64 v86) * 10)) = .int .u64 (IntKind.wrap .u64 (v77 + (IntKind.wrap .u64 ((IntKind.wrap .u64 v86) * 10)))) from rfl), (cvw_e (s := 274) (k := .u64) io272 (IntKind.wrap .u64 (v77 + (IntKind.wrap .u64 ((IntKind.wrap .u64 v86) * 10))))), e85, e87, e90, Int.reduceLE, e93]
        exact lp_back (ih3 v92 v94 v89 h) ⟨rfl, rfl, congrArg (fun n => AV.rs 1 0 n 1 false false) e88.symm, rfl, rfl, rfl, rfl, congrArg (fun n => AV.rs 1 0 n 1 false false) e88.symm, rfl, rfl, trivial⟩
       ·simp only [go_sem, reduceAdd, reduceLT, reduceLeDiff, reduceEqDiff, Nat.reduceBEq, Nat.reduceBNe]
        obtain rfl := Option.some.inj h
        exact atJ (wkn (Jy58) ⟨rfl, rfl, rfl, rfl, rfl, rfl, rfl, trivial⟩)
      ·exact lp_back (L3 (IntKind.wrap .u64 (IntKind.wrap .u8 (v57 - 48))) 0 v54 h) ⟨rfl, rfl, rfl, rfl, rfl, rfl, rfl, rfl, rfl, rfl, trivial⟩
    ·simp only [go_sem, reduceAdd, reduceLT, reduceLeDiff, reduceEqDiff, Nat.reduceBEq, Nat.reduceBNe]
     obtain rfl := Option.some.inj h
     exact atJ (wkn (Jy2) ⟨rfl, rfl, rfl, trivial⟩)
   ·exact lp_back (L1 0 [] h) ⟨rfl, rfl, rfl, rfl, rfl, rfl, trivial⟩
theorem w_tree_number {s : Str}   {r : Bool} (h : tree_number s = some r) : ACall Tryz.prog 179 [.str s] [] (.bool r) [] := by
 refine acallX 10000 hf179 ok179 (by first | rfl | simp only [go_sem]) meek_bool ?_
 dsimp only [Tryz.f179, nums, Option.getD, List.append]
 unfold tree_number at h
 refine bsome h fun v1 hv1 h => ?_
 simp only [go_sem, reduceAdd, reduceLT, reduceLeDiff, reduceEqDiff, Nat.reduceBEq, Nat.reduceBNe]
 refine callX_ 10000 (w_large_Parse  hv1) (by first | rfl | simp only [go_sem]) (by first | rfl | simp only [go_sem]) ?_
 simp only [go_sem, reduceAdd, reduceLT, reduceLeDiff, reduceEqDiff, Nat.reduceBEq, Nat.reduceBNe]
 refine ret_s (fun x => .bool x) h ?_
 first | rfl | simp only [go_sem, resAV, resAll, resOne, reduceAdd, reduceLT, reduceLeDiff, reduceEqDiff, Nat.reduceBEq, Nat.reduceBNe]
theorem w_tree_Node_may {n : tree_Node}   {r : Bool} (h : tree_Node_may n = some r) : ACall Tryz.prog 121 [enc_tree_Node n] [] (.bool r) [] := by
 refine acallX 10000 hf121 ok121 (by first | rfl | simp only [go_sem]) meek_bool ?_
 dsimp only [Tryz.f121, nums, Option.getD, List.append]
 unfold tree_Node_may at h
 simp only [go_sem, reduceAdd, reduceLT, reduceLeDiff, reduceEqDiff, Nat.reduceBEq, Nat.reduceBNe]
 refine blk_ 10000 ?_
 simp only [go_sem, reduceAdd, reduceLT, reduceLeDiff, reduceEqDiff, Nat.reduceBEq, Nat.reduceBNe]
 refine bsome h fun y1 hy1 h => ?_
 refine cndJ 145 10000 (fun w => w [(1, .ptr 0 0), (4, .int .u8 n.K), (5, .bool y1)] [some [.int .u8 n.K, .str n.S, .int .i64 n.N, .sl none (List.map AV.str n.L), .sl none (List.map (AV.int .i64) n.Kids)]]) (runX 10000 ?_) (fun Jy1 => ?_)
 ·clear hy1
  simp only [go_sem, reduceAdd, reduceLT, reduceLeDiff, reduceEqDiff, Nat.reduceBEq, Nat.reduceBNe]
  refine cnd_s 10000 h (fun hb h => ?_) (fun hb h => ?_)
  ·refine bsome h fun v9 hv9 h => ?_
   simp only [go_sem, reduceAdd, reduceLT, reduceLeDiff, reduceEqDiff, Nat.reduceBEq, Nat.reduceBNe]
   refine callX_ 10000 (w_tree_Node_bare  hv9) (by first | rfl | simp only [go_sem]) (by first | rfl | simp only [go_sem]) ?_
   simp only [go_sem, reduceAdd, reduceLT, reduceLeDiff, reduceEqDiff, Nat.reduceBEq, Nat.reduceBNe]
   refine ret_s (fun x => .bool x) h ?_
   first | rfl | simp only [go_sem, resAV, resAll, resOne, reduceAdd, reduceLT, reduceLeDiff, reduceEqDiff, Nat.reduceBEq, Nat.reduceBNe]
  ·simp only [go_sem, reduceAdd, reduceLT, reduceLeDiff, reduceEqDiff, Nat.reduceBEq, Nat.reduceBNe]
   refine cnd_s 10000 h (fun hb h => ?_) (fun hb h => ?_)
   ·simp only [go_sem, reduceAdd, reduceLT, reduceLeDiff, reduceEqDiff, Nat.reduceBEq, Nat.reduceBNe]
    refine bsome h fun y10 hy10 h => ?_
    refine rgJ 145 10000 (.inl rfl) (fun w => w [(2, .bool y10)] [some [.int .u8 n.K, .str n.S, .int .i64 n.N, .sl none (List.map AV.str n.L), .sl none (List.map (AV.int .i64) n.Kids)]]) (runX 10000 ?_) (fun Jy10 => ?_)
    ·clear hy10
     simp only [go_sem, reduceAdd, reduceLT, reduceLeDiff, reduceEqDiff, Nat.reduceBEq, Nat.reduceBNe]
     refine ret_s (fun x => .bool x) h ?_
     first | rfl | simp only [go_sem, resAV, resAll, resOne, reduceAdd, reduceLT, reduceLeDiff, reduceEqDiff, Nat.reduceBEq, Nat.reduceBNe]
    ·clear h
     have h := hy10
     refine bsome h fun v12 hv12 h => ?_
     simp only [go_sem, reduceAdd, reduceLT, reduceLeDiff, reduceEqDiff, Nat.reduceBEq, Nat.reduceBNe]
     refine callX_ 10000 (w_tree_Node_bare  hv12) (by first | rfl | simp only [go_sem]) (by first | rfl | simp only [go_sem]) ?_
     simp only [go_sem, reduceAdd, reduceLT, reduceLeDiff, reduceEqDiff, Nat.reduceBEq, Nat.reduceBNe]
     refine grd_ (fun hb13 => ?_) (fun hb13 => ?_)
     ·have h := ite_t hb13 h
      refine bsome h fun v14 hv14 h => ?_
      simp only [go_sem, reduceAdd, reduceLT, reduceLeDiff, reduceEqDiff, Nat.reduceBEq, Nat.reduceBNe]
      refine callX_ 10000 (w_tree_number  hv14) (by first | rfl | simp only [go_sem]) (by first | rfl | simp only [go_sem]) ?_
      simp only [go_sem, reduceAdd, reduceLT, reduceLeDiff, reduceEqDiff, Nat.reduceBEq, Nat.reduceBNe]
      obtain rfl := Option.some.inj h
      exact atJ (wkn (Jy10) ⟨rfl, trivial⟩)
     ·have h := ite_f hb13 h
      simp only [go_sem, reduceAdd, reduceLT, reduceLeDiff, reduceEqDiff, Nat.reduceBEq, Nat.reduceBNe]
      obtain rfl := Option.some.inj h
      exact atJ (wkn (Jy10) ⟨rfl, trivial⟩)
   ·simp only [go_sem, reduceAdd, reduceLT, reduceLeDiff, reduceEqDiff, Nat.reduceBEq, Nat.reduceBNe]
    refine cnd_s 10000 h (fun hb h => ?_) (fun hb h => ?_)
    ·simp only [go_sem, reduceAdd, reduceLT, reduceLeDiff, reduceEqDiff, Nat.reduceBEq, Nat.reduceBNe]
     refine bsome h fun y15 hy15 h => ?_
     refine rgJ 145 10000 (.inl rfl) (fun w => w [(2, .bool y15)] [some [.int .u8 n.K, .str n.S, .int .i64 n.N, .sl none (List.map AV.str n.L), .sl none (List.map (AV.int .i64) n.Kids)]]) (runX 10000 ?_) (fun Jy15 => ?_)
     ·clear hy15
      simp only [go_sem, reduceAdd, reduceLT, reduceLeDiff, reduceEqDiff, Nat.reduceBEq, Nat.reduceBNe]
      refine ret_s (fun x => .bool x) h ?_
      first | rfl | simp only [go_sem, resAV, resAll, resOne, reduceAdd, reduceLT, reduceLeDiff, reduceEqDiff, Nat.reduceBEq, Nat.reduceBNe]
     ·clear h
      have h := hy15
      refine bsome h fun v17 hv17 h => ?_
      simp only [go_sem, reduceAdd, reduceLT, reduceLeDiff, reduceEqDiff, Nat.reduceBEq, Nat.reduceBNe]
      refine callX_ 10000 (w_tree_Node_bare  hv17) (by first | rfl | simp only [go_sem]) (by first | rfl | simp only [go_sem]) ?_
      simp only [go_sem, reduceAdd, reduceLT, reduceLeDiff, reduceEqDiff, Nat.reduceBEq, Nat.reduceBNe]
      refine grd_ (fun hb18 => ?_) (fun hb18 => ?_)
      ·have h := ite_t hb18 h
       simp only [go_sem, reduceAdd, reduceLT, reduceLeDiff, reduceEqDiff, Nat.reduceBEq, Nat.reduceBNe]
       obtain rfl := Option.some.inj h
       exact atJ (wkn (Jy15) ⟨rfl, trivial⟩)
      ·have h := ite_f hb18 h
       simp only [go_sem, reduceAdd, reduceLT, reduceLeDiff, reduceEqDiff, Nat.reduceBEq, Nat.reduceBNe]
       obtain rfl := Option.some.inj h
       exact atJ (wkn (Jy15) ⟨rfl, trivial⟩)
    ·simp only [go_sem, reduceAdd, reduceLT, reduceLeDiff, reduceEqDiff, Nat.reduceBEq, Nat.reduceBNe]
     refine cnd_s 10000 h (fun hb h => ?_) (fun hb h => ?_)
     ·simp only [go_sem, reduceAdd, reduceLT, reduceLeDiff, reduceEqDiff, Nat.reduceBEq, Nat.reduceBNe]
      refine bsome h fun y19 hy19 h => ?_
      refine rgJ 145 10000 (.inl rfl) (fun w => w [(2, .bool y19)] [some [.int .u8 n.K, .str n.S, .int .i64 n.N, .sl none (List.map AV.str n.L), .sl none (List.map (AV.int .i64) n.Kids)]]) (runX 10000 ?_) (fun Jy19 => ?_)
      ·clear hy19
       simp only [go_sem, reduceAdd, reduceLT, reduceLeDiff, reduceEqDiff, Nat.reduceBEq, Nat.reduceBNe]
       refine ret_s (fun x => .bool x) h ?_
       first | rfl | simp only [go_sem, resAV, resAll, resOne, reduceAdd, reduceLT, reduceLeDiff, reduceEqDiff, Nat.reduceBEq, Nat.reduceBNe]
      ·clear h
       have h := hy19
       refine bsome h fun v21 hv21 h => ?_
       simp only [go_sem, reduceAdd, reduceLT, reduceLeDiff, reduceEqDiff, Nat.reduceBEq, Nat.reduceBNe]
       refine callX_ 10000 (w_tree_Node_bare  hv21) (by first | rfl | simp only [go_sem]) (by first | rfl | simp only [go_sem]) ?_
       simp only [go_sem, reduceAdd, reduceLT, reduceLeDiff, reduceEqDiff, Nat.reduceBEq, Nat.reduceBNe]
       refine grd_ (fun hb22 => ?_) (fun hb22 => ?_)
       ·have h := ite_t hb22 h
        refine bsome h fun v23 hv23 h => ?_
        simp only [go_sem, reduceAdd, reduceLT, reduceLeDiff, reduceEqDiff, Nat.reduceBEq, Nat.reduceBNe]
        refine callX_ 10000 (w_tree_variable  hv23) (by first | rfl | simp only [go_sem]) (by first | rfl | simp only [go_sem]) ?_
        simp only [go_sem, reduceAdd, reduceLT, reduceLeDiff, reduceEqDiff, Nat.reduceBEq, Nat.reduceBNe]
        refine grd_ (fun hb24 => ?_) (fun hb24 => ?_)
        ·have h := ite_f hb24 h
         refine bsome h fun v25 hv25 h => ?_
         simp only [go_sem, reduceAdd, reduceLT, reduceLeDiff, reduceEqDiff, Nat.reduceBEq, Nat.reduceBNe]
         refine callX_ 10000 (w_tree_named  hv25) (by first | rfl | simp only [go_sem]) (by first | rfl | simp only [go_sem]) ?_
         simp only [go_sem, reduceAdd, reduceLT, reduceLeDiff, reduceEqDiff, Nat.reduceBEq, Nat.reduceBNe]
         obtain rfl := Option.some.inj h
         exact atJ (wkn (Jy19) ⟨rfl, trivial⟩)
        ·have h := ite_t hb24 h
         simp only [go_sem, reduceAdd, reduceLT, reduceLeDiff, reduceEqDiff, Nat.reduceBEq, Nat.reduceBNe]
         obtain rfl := Option.some.inj h
         exact atJ (wkn (Jy19) ⟨rfl, trivial⟩)
       ·have h := ite_f hb22 h
        simp only [go_sem, reduceAdd, reduceLT, reduceLeDiff, reduceEqDiff, Nat.reduceBEq, Nat.reduceBNe]
        obtain rfl := Option.some.inj h
        exact atJ (wkn (Jy19) ⟨rfl, trivial⟩)
     ·simp only [go_sem, reduceAdd, reduceLT, reduceLeDiff, reduceEqDiff, Nat.reduceBEq, Nat.reduceBNe]
      refine cnd_s 10000 h (fun hb h => ?_) (fun hb h => ?_)
      ·simp only [go_sem, reduceAdd, reduceLT, reduceLeDiff, reduceEqDiff, Nat.reduceBEq, Nat.reduceBNe]
       refine bsome h fun y26 hy26 h => ?_
       refine rgJ 145 10000 (.inl rfl) (fun w => w [(2, .bool y26)] [some [.int .u8 n.K, .str n.S, .int .i64 n.N, .sl none (List.map AV.str n.L), .sl none (List.map (AV.int .i64) n.Kids)]]) (runX 10000 ?_) (fun Jy26 => ?_)
       ·clear hy26
        simp only [go_sem, reduceAdd, reduceLT, reduceLeDiff, reduceEqDiff, Nat.reduceBEq, Nat.reduceBNe]
        refine ret_s (fun x => .bool x) h ?_
        first | rfl | simp only [go_sem, resAV, resAll, resOne, reduceAdd, reduceLT, reduceLeDiff, reduceEqDiff, Nat.reduceBEq, Nat.reduceBNe]
       ·clear h
        have h := hy26
        refine bsome h fun v28 hv28 h => ?_
        simp only [go_sem, reduceAdd, reduceLT, reduceLeDiff, reduceEqDiff, Nat.reduceBEq, Nat.reduceBNe]
        refine callX_ 10000 (w_tree_Node_bare  hv28) (by first | rfl | simp only [go_sem]) (by first | rfl | simp only [go_sem]) ?_
        simp only [go_sem, reduceAdd, reduceLT, reduceLeDiff, reduceEqDiff, Nat.reduceBEq, Nat.reduceBNe]
        refine grd_ (fun hb29 => ?_) (fun hb29 => ?_)
        ·have h := ite_t hb29 h
         refine bsome h fun v30 hv30 h => ?_
         simp only [go_sem, reduceAdd, reduceLT, reduceLeDiff, reduceEqDiff, Nat.reduceBEq, Nat.reduceBNe]
         refine callX_ 10000 (w_tree_variable  hv30) (by first | rfl | simp only [go_sem]) (by first | rfl | simp only [go_sem]) ?_
         simp only [go_sem, reduceAdd, reduceLT, reduceLeDiff, reduceEqDiff, Nat.reduceBEq, Nat.reduceBNe]
         refine grd_ (fun hb31 => ?_) (fun hb31 => ?_)
         ·have h := ite_t hb31 h
          simp only [go_sem, reduceAdd, reduceLT, reduceLeDiff, reduceEqDiff, Nat.reduceBEq, Nat.reduceBNe]
          obtain rfl := Option.some.inj h
          exact atJ (wkn (Jy26) ⟨rfl, trivial⟩)
         ·have h := ite_f hb31 h
          simp only [go_sem, reduceAdd, reduceLT, reduceLeDiff, reduceEqDiff, Nat.reduceBEq, Nat.reduceBNe]
          obtain rfl := Option.some.inj h
          exact atJ (wkn (Jy26) ⟨rfl, trivial⟩)
        ·have h := ite_f hb29 h
         simp only [go_sem, reduceAdd, reduceLT, reduceLeDiff, reduceEqDiff, Nat.reduceBEq, Nat.reduceBNe]
         obtain rfl := Option.some.inj h
         exact atJ (wkn (Jy26) ⟨rfl, trivial⟩)
      ·simp only [go_sem, reduceAdd, reduceLT, reduceLeDiff, reduceEqDiff, Nat.reduceBEq, Nat.reduceBNe]
       refine cnd_s 10000 h (fun hb h => ?_) (fun hb h => ?_)
       ·simp only [go_sem, reduceAdd, reduceLT, reduceLeDiff, reduceEqDiff, Nat.reduceBEq, Nat.reduceBNe]
        refine bsome h fun y32 hy32 h => ?_
        refine rgJ 145 10000 (.inl rfl) (fun w => w [(2, .bool y32)] [some [.int .u8 n.K, .str n.S, .int .i64 n.N, .sl none (List.map AV.str n.L), .sl none (List.map (AV.int .i64) n.Kids)]]) (runX 10000 ?_) (fun Jy32 => ?_)
        ·clear hy32
         simp only [go_sem, reduceAdd, reduceLT, reduceLeDiff, reduceEqDiff, Nat.reduceBEq, Nat.reduceBNe]
         refine ret_s (fun x => .bool x) h ?_
         first | rfl | simp only [go_sem, resAV, resAll, resOne, reduceAdd, reduceLT, reduceLeDiff, reduceEqDiff, Nat.reduceBEq, Nat.reduceBNe]
        ·clear h
         have h := hy32
         refine bsome h fun v34 hv34 h => ?_
         simp only [go_sem, reduceAdd, reduceLT, reduceLeDiff, reduceEqDiff, Nat.reduceBEq, Nat.reduceBNe]
         refine callX_ 10000 (w_tree_Node_bare  hv34) (by first | rfl | simp only [go_sem]) (by first | rfl | simp only [go_sem]) ?_
         simp only [go_sem, reduceAdd, reduceLT, reduceLeDiff, reduceEqDiff, Nat.reduceBEq, Nat.reduceBNe]
         refine grd_ (fun hb35 => ?_) (fun hb35 => ?_)
         ·have h := ite_t hb35 h
          refine sub_s h fun v37 _ e36 h => ?_
          refine bsome h fun v38 hv38 h => ?_
          simp only [go_sem, reduceAdd, reduceLT, reduceLeDiff, reduceEqDiff, Nat.reduceBEq, Nat.reduceBNe, e36]
          refine callX_ 10000 (w_tree_sends  hv38) (by first | rfl | simp only [go_sem]) (by first | rfl | simp only [go_sem]) ?_
          simp only [go_sem, reduceAdd, reduceLT, reduceLeDiff, reduceEqDiff, Nat.reduceBEq, Nat.reduceBNe]
          obtain rfl := Option.some.inj h
          exact atJ (wkn (Jy32) ⟨rfl, trivial⟩)
         ·have h := ite_f hb35 h
          simp only [go_sem, reduceAdd, reduceLT, reduceLeDiff, reduceEqDiff, Nat.reduceBEq, Nat.reduceBNe]
          obtain rfl := Option.some.inj h
          exact atJ (wkn (Jy32) ⟨rfl, trivial⟩)
       ·simp only [go_sem, reduceAdd, reduceLT, reduceLeDiff, reduceEqDiff, Nat.reduceBEq, Nat.reduceBNe]
        refine cnd_s 10000 h (fun hb h => ?_) (fun hb h => ?_)
        ·simp only [go_sem, reduceAdd, reduceLT, reduceLeDiff, reduceEqDiff, Nat.reduceBEq, Nat.reduceBNe]
         refine bsome h fun y39 hy39 h => ?_
         refine rgJ 145 10000 (.inl rfl) (fun w => w [(2, .bool y39)] [some [.int .u8 n.K, .str n.S, .int .i64 n.N, .sl none (List.map AV.str n.L), .sl none (List.map (AV.int .i64) n.Kids)]]) (runX 10000 ?_) (fun Jy39 => ?_)
         ·clear hy39
          simp only [go_sem, reduceAdd, reduceLT, reduceLeDiff, reduceEqDiff, Nat.reduceBEq, Nat.reduceBNe]
          refine ret_s (fun x => .bool x) h ?_
          first | rfl | simp only [go_sem, resAV, resAll, resOne, reduceAdd, reduceLT, reduceLeDiff, reduceEqDiff, Nat.reduceBEq, Nat.reduceBNe]
         ·clear h
          have h := hy39
          refine bsome h fun v41 hv41 h => ?_
          simp only [go_sem, reduceAdd, reduceLT, reduceLeDiff, reduceEqDiff, Nat.reduceBEq, Nat.reduceBNe]
          refine callX_ 10000 (w_tree_Node_bare  hv41) (by first | rfl | simp only [go_sem]) (by first | rfl | simp only [go_sem]) ?_
          simp only [go_sem, reduceAdd, reduceLT, reduceLeDiff, reduceEqDiff, Nat.reduceBEq, Nat.reduceBNe]
          refine grd_ (fun hb42 => ?_) (fun hb42 => ?_)
          ·have h := ite_t hb42 h
           simp only [go_sem, reduceAdd, reduceLT, reduceLeDiff, reduceEqDiff, Nat.reduceBEq, Nat.reduceBNe]
           refine grd_ (fun hb43 => ?_) (fun hb43 => ?_)
           ·have h := ite_t hb43 h
            simp only [go_sem, reduceAdd, reduceLT, reduceLeDiff, reduceEqDiff, Nat.reduceBEq, Nat.reduceBNe]
            obtain rfl := Option.some.inj h
            exact atJ (wkn (Jy39) ⟨rfl, trivial⟩)
           ·have h := ite_f hb43 h
            simp only [go_sem, reduceAdd, reduceLT, reduceLeDiff, reduceEqDiff, Nat.reduceBEq, Nat.reduceBNe]
            obtain rfl := Option.some.inj h
            exact atJ (wkn (Jy39) ⟨rfl, trivial⟩)
          ·have h := ite_f hb42 h
           simp only [go_sem, reduceAdd, reduceLT, reduceLeDiff, reduceEqDiff, Nat.reduceBEq, Nat.reduceBNe]
           obtain rfl := Option.some.inj h
           exact atJ (wkn (Jy39) ⟨rfl, trivial⟩)
        ·simp only [go_sem, reduceAdd, reduceLT, reduceLeDiff, reduceEqDiff, Nat.reduceBEq, Nat.reduceBNe]
         refine cnd_s 10000 h (fun hb h => ?_) (fun hb h => ?_)
         ·simp only [go_sem, reduceAdd, reduceLT, reduceLeDiff, reduceEqDiff, Nat.reduceBEq, Nat.reduceBNe]
          refine bsome h fun y44 hy44 h => ?_
          refine rgJ 145 10000 (.inl rfl) (fun w => w [(2, .bool y44)] [some [.int .u8 n.K, .str n.S, .int .i64 n.N, .sl none (List.map AV.str n.L), .sl none (List.map (AV.int .i64) n.Kids)]]) (runX 10000 ?_) (fun Jy44 => ?_)
          ·clear hy44
           simp only [go_sem, reduceAdd, reduceLT, reduceLeDiff, reduceEqDiff, Nat.reduceBEq, Nat.reduceBNe]
           refine ret_s (fun x => .bool x) h ?_
           first | rfl | simp only [go_sem, resAV, resAll, resOne, reduceAdd, reduceLT, reduceLeDiff, reduceEqDiff, Nat.reduceBEq, Nat.reduceBNe]
          ·clear h
           have h := hy44
           refine bsome h fun v46 hv46 h => ?_
           simp only [go_sem, reduceAdd, reduceLT, reduceLeDiff, reduceEqDiff, Nat.reduceBEq, Nat.reduceBNe]
           refine callX_ 10000 (w_tree_Node_bare  hv46) (by first | rfl | simp only [go_sem]) (by first | rfl | simp only [go_sem]) ?_
           simp only [go_sem, reduceAdd, reduceLT, reduceLeDiff, reduceEqDiff, Nat.reduceBEq, Nat.reduceBNe]
           refine grd_ (fun hb47 => ?_) (fun hb47 => ?_)
           ·have h := ite_t hb47 h
            refine bsome h fun v48 hv48 h => ?_
            simp only [go_sem, reduceAdd, reduceLT, reduceLeDiff, reduceEqDiff, Nat.reduceBEq, Nat.reduceBNe]
            refine callX_ 10000 (w_tree_sends  hv48) (by first | rfl | simp only [go_sem]) (by first | rfl | simp only [go_sem]) ?_
            simp only [go_sem, reduceAdd, reduceLT, reduceLeDiff, reduceEqDiff, Nat.reduceBEq, Nat.reduceBNe]
            obtain rfl := Option.some.inj h
            exact atJ (wkn (Jy44) ⟨rfl, trivial⟩)
           ·have h := ite_f hb47 h
            simp only [go_sem, reduceAdd, reduceLT, reduceLeDiff, reduceEqDiff, Nat.reduceBEq, Nat.reduceBNe]
            obtain rfl := Option.some.inj h
            exact atJ (wkn (Jy44) ⟨rfl, trivial⟩)
         ·simp only [go_sem, reduceAdd, reduceLT, reduceLeDiff, reduceEqDiff, Nat.reduceBEq, Nat.reduceBNe]
          refine cnd_s 10000 h (fun hb h => ?_) (fun hb h => ?_)
          ·simp only [go_sem, reduceAdd, reduceLT, reduceLeDiff, reduceEqDiff, Nat.reduceBEq, Nat.reduceBNe]
           refine bsome h fun y49 hy49 h => ?_
           refine rgJ 145 10000 (.inl rfl) (fun w => w [(2, .bool y49)] [some [.int .u8 n.K, .str n.S, .int .i64 n.N, .sl none (List.map AV.str n.L), .sl none (List.map (AV.int .i64) n.Kids)]]) (runX 10000 ?_) (fun Jy49 => ?_)
           ·clear hy49
            simp only [go_sem, reduceAdd, reduceLT, reduceLeDiff, reduceEqDiff, Nat.reduceBEq, Nat.reduceBNe]
            refine ret_s (fun x => .bool x) h ?_
            first | rfl | simp only [go_sem, resAV, resAll, resOne, reduceAdd, reduceLT, reduceLeDiff, reduceEqDiff, Nat.reduceBEq, Nat.reduceBNe]
           ·clear h
            have h := hy49
            refine bsome h fun v51 hv51 h => ?_
            simp only [go_sem, reduceAdd, reduceLT, reduceLeDiff, reduceEqDiff, Nat.reduceBEq, Nat.reduceBNe]
            refine callX_ 10000 (w_tree_Node_bare  hv51) (by first | rfl | simp only [go_sem]) (by first | rfl | simp only [go_sem]) ?_
            simp only [go_sem, reduceAdd, reduceLT, reduceLeDiff, reduceEqDiff, Nat.reduceBEq, Nat.reduceBNe]
            refine grd_ (fun hb52 => ?_) (fun hb52 => ?_)
            ·have h := ite_t hb52 h
             simp only [go_sem, reduceAdd, reduceLT, reduceLeDiff, reduceEqDiff, Nat.reduceBEq, Nat.reduceBNe]
             refine grd_ (fun hb53 => ?_) (fun hb53 => ?_)
             ·have h := ite_t hb53 h
              simp only [go_sem, reduceAdd, reduceLT, reduceLeDiff, reduceEqDiff, Nat.reduceBEq, Nat.reduceBNe]
              refine grd_ (fun hb54 => ?_) (fun hb54 => ?_)
              ·have h := ite_t hb54 h
               simp only [go_sem, reduceAdd, reduceLT, reduceLeDiff, reduceEqDiff, Nat.reduceBEq, Nat.reduceBNe]
               refine grd_ (fun hb55 => ?_) (fun hb55 => ?_)
               ·have h := ite_t hb55 h
                simp only [go_sem, reduceAdd, reduceLT, reduceLeDiff, reduceEqDiff, Nat.reduceBEq, Nat.reduceBNe]
                refine grd_ (fun hb56 => ?_) (fun hb56 => ?_)
                ·have h := ite_t hb56 h
                 refine bsome h fun v57 hv57 h => ?_
                 simp only [go_sem, reduceAdd, reduceLT, reduceLeDiff, reduceEqDiff, Nat.reduceBEq, Nat.reduceBNe]
                 refine callX_ 10000 (w_tree_unlike  hv57) (by first | rfl | simp only [go_sem]) (by first | rfl | simp only [go_sem]) ?_
                 simp only [go_sem, reduceAdd, reduceLT, reduceLeDiff, reduceEqDiff, Nat.reduceBEq, Nat.reduceBNe]
                 obtain rfl := Option.some.inj h
                 exact atJ (wkn (Jy49) ⟨rfl, trivial⟩)
                ·have h := ite_f hb56 h
                 simp only [go_sem, reduceAdd, reduceLT, reduceLeDiff, reduceEqDiff, Nat.reduceBEq, Nat.reduceBNe]
                 obtain rfl := Option.some.inj h
                 exact atJ (wkn (Jy49) ⟨rfl, trivial⟩)
               ·have h := ite_f hb55 h
                simp only [go_sem, reduceAdd, reduceLT, reduceLeDiff, reduceEqDiff, Nat.reduceBEq, Nat.reduceBNe]
                obtain rfl := Option.some.inj h
                exact atJ (wkn (Jy49) ⟨rfl, trivial⟩)
              ·have h := ite_f hb54 h
               simp only [go_sem, reduceAdd, reduceLT, reduceLeDiff, reduceEqDiff, Nat.reduceBEq, Nat.reduceBNe]
               obtain rfl := Option.some.inj h
               exact atJ (wkn (Jy49) ⟨rfl, trivial⟩)
             ·have h := ite_f hb53 h
              simp only [go_sem, reduceAdd, reduceLT, reduceLeDiff, reduceEqDiff, Nat.reduceBEq, Nat.reduceBNe]
              obtain rfl := Option.some.inj h
              exact atJ (wkn (Jy49) ⟨rfl, trivial⟩)
            ·have h := ite_f hb52 h
             simp only [go_sem, reduceAdd, reduceLT, reduceLeDiff, reduceEqDiff, Nat.reduceBEq, Nat.reduceBNe]
             obtain rfl := Option.some.inj h
             exact atJ (wkn (Jy49) ⟨rfl, trivial⟩)
          ·simp only [go_sem, reduceAdd, reduceLT, reduceLeDiff, reduceEqDiff, Nat.reduceBEq, Nat.reduceBNe]
           refine cnd_s 10000 h (fun hb h => ?_) (fun hb h => ?_)
           ·simp only [go_sem, reduceAdd, reduceLT, reduceLeDiff, reduceEqDiff, Nat.reduceBEq, Nat.reduceBNe]
            refine bsome h fun y58 hy58 h => ?_
            refine rgJ 145 10000 (.inl rfl) (fun w => w [(2, .bool y58)] [some [.int .u8 n.K, .str n.S, .int .i64 n.N, .sl none (List.map AV.str n.L), .sl none (List.map (AV.int .i64) n.Kids)]]) (runX 10000 ?_) (fun Jy58 => ?_)
            ·clear hy58
             simp only [go_sem, reduceAdd, reduceLT, reduceLeDiff, reduceEqDiff, Nat.reduceBEq, Nat.reduceBNe]
             refine ret_s (fun x => .bool x) h ?_
             first | rfl | simp only [go_sem, resAV, resAll, resOne, reduceAdd, reduceLT, reduceLeDiff, reduceEqDiff, Nat.reduceBEq, Nat.reduceBNe]
            ·clear h
             have h := hy58
             refine bsome h fun v60 hv60 h => ?_
             simp only [go_sem, reduceAdd, reduceLT, reduceLeDiff, reduceEqDiff, Nat.reduceBEq, Nat.reduceBNe]
             refine callX_ 10000 (w_tree_Node_bare  hv60) (by first | rfl | simp only [go_sem]) (by first | rfl | simp only [go_sem]) ?_
             simp only [go_sem, reduceAdd, reduceLT, reduceLeDiff, reduceEqDiff, Nat.reduceBEq, Nat.reduceBNe]
             refine grd_ (fun hb61 => ?_) (fun hb61 => ?_)
             ·have h := ite_t hb61 h
              simp only [go_sem, reduceAdd, reduceLT, reduceLeDiff, reduceEqDiff, Nat.reduceBEq, Nat.reduceBNe]
              obtain rfl := Option.some.inj h
              exact atJ (wkn (Jy58) ⟨rfl, trivial⟩)
             ·have h := ite_f hb61 h
              simp only [go_sem, reduceAdd, reduceLT, reduceLeDiff, reduceEqDiff, Nat.reduceBEq, Nat.reduceBNe]
              obtain rfl := Option.some.inj h
              exact atJ (wkn (Jy58) ⟨rfl, trivial⟩)
           ·simp only [go_sem, reduceAdd, reduceLT, reduceLeDiff, reduceEqDiff, Nat.reduceBEq, Nat.reduceBNe]
            refine ret_s (fun x => .bool x) h ?_
            first | rfl | simp only [go_sem, resAV, resAll, resOne, reduceAdd, reduceLT, reduceLeDiff, reduceEqDiff, Nat.reduceBEq, Nat.reduceBNe]
 ·clear h
  have h := hy1
  refine cnd_s 10000 h (fun hb h => ?_) (fun hb h => ?_)
  ·simp only [go_sem, reduceAdd, reduceLT, reduceLeDiff, reduceEqDiff, Nat.reduceBEq, Nat.reduceBNe]
   obtain rfl := Option.some.inj h
   exact atJ (wkn (Jy1) ⟨rfl, rfl, rfl, trivial⟩)
  ·simp only [go_sem, reduceAdd, reduceLT, reduceLeDiff, reduceEqDiff, Nat.reduceBEq, Nat.reduceBNe]
   refine bsome h fun y3 hy3 h => ?_
   refine cndJ 145 10000 (fun w => w [(1, .ptr 0 0), (4, .int .u8 n.K), (5, .bool y3)] [some [.int .u8 n.K, .str n.S, .int .i64 n.N, .sl none (List.map AV.str n.L), .sl none (List.map (AV.int .i64) n.Kids)]]) (runX 10000 ?_) (fun Jy3 => ?_)
   ·clear hy3
    simp only [go_sem, reduceAdd, reduceLT, reduceLeDiff, reduceEqDiff, Nat.reduceBEq, Nat.reduceBNe]
    obtain rfl := Option.some.inj h
    exact atJ (wkn (Jy1) ⟨rfl, rfl, rfl, trivial⟩)
   ·clear h
    have h := hy3
    refine cnd_s 10000 h (fun hb h => ?_) (fun hb h => ?_)
    ·simp only [go_sem, reduceAdd, reduceLT, reduceLeDiff, reduceEqDiff, Nat.reduceBEq, Nat.reduceBNe]
     obtain rfl := Option.some.inj h
     exact atJ (wkn (Jy3) ⟨rfl, rfl, rfl, trivial⟩)
    ·simp only [go_sem, reduceAdd, reduceLT, reduceLeDiff, reduceEqDiff, Nat.reduceBEq, Nat.reduceBNe]
     refine bsome h fun y5 hy5 h => ?_
     refine cndJ 145 10000 (fun w => w [(1, .ptr 0 0), (4, .int .u8 n.K), (5, .bool y5)] [some [.int .u8 n.K, .str n.S, .int .i64 n.N, .sl none (List.map AV.str n.L), .sl none (List.map (AV.int .i64) n.Kids)]]) (runX 10000 ?_) (fun Jy5 => ?_)
     ·clear hy5
      simp only [go_sem, reduceAdd, reduceLT, reduceLeDiff, reduceEqDiff, Nat.reduceBEq, Nat.reduceBNe]
      obtain rfl := Option.some.inj h
      exact atJ (wkn (Jy3) ⟨rfl, rfl, rfl, trivial⟩)
     ·clear h
      have h := hy5
      refine cnd_s 10000 h (fun hb h => ?_) (fun hb h => ?_)
      ·simp only [go_sem, reduceAdd, reduceLT, reduceLeDiff, reduceEqDiff, Nat.reduceBEq, Nat.reduceBNe]
       obtain rfl := Option.some.inj h
       exact atJ (wkn (Jy5) ⟨rfl, rfl, rfl, trivial⟩)
      ·simp only [go_sem, reduceAdd, reduceLT, reduceLeDiff, reduceEqDiff, Nat.reduceBEq, Nat.reduceBNe]
       refine bsome h fun y7 hy7 h => ?_
       refine cndJ 145 10000 (fun w => w [(1, .ptr 0 0), (4, .int .u8 n.K), (5, .bool y7)] [some [.int .u8 n.K, .str n.S, .int .i64 n.N, .sl none (List.map AV.str n.L), .sl none (List.map (AV.int .i64) n.Kids)]]) (runX 10000 ?_) (fun Jy7 => ?_)
       ·clear hy7
        simp only [go_sem, reduceAdd, reduceLT, reduceLeDiff, reduceEqDiff, Nat.reduceBEq, Nat.reduceBNe]
        obtain rfl := Option.some.inj h
        exact atJ (wkn (Jy5) ⟨rfl, rfl, rfl, trivial⟩)
       ·clear h
        have h := hy7
        refine cnd_s 10000 h (fun hb h => ?_) (fun hb h => ?_)
        ·simp only [go_sem, reduceAdd, reduceLT, reduceLeDiff, reduceEqDiff, Nat.reduceBEq, Nat.reduceBNe]
         obtain rfl := Option.some.inj h
         exact atJ (wkn (Jy7) ⟨rfl, rfl, rfl, trivial⟩)
        ·simp only [go_sem, reduceAdd, reduceLT, reduceLeDiff, reduceEqDiff, Nat.reduceBEq, Nat.reduceBNe]
         obtain rfl := Option.some.inj h
         exact atJ (wkn (Jy7) ⟨rfl, rfl, rfl, trivial⟩)
theorem w_tree_stands {k : Int} {super : Bool} {msg : Bool} {up : Bool}   {r : Bool} (h : tree_stands k super msg up = some r) : ACall Tryz.prog 122 [.int .u8 k, .bool super, .bool msg, .bool up] [] (.bool r) [] := by
 refine acallX 10000 hf122 ok122 (by first | rfl | simp only [go_sem]) meek_bool ?_
 dsimp only [Tryz.f122, nums, Option.getD, List.append]
 unfold tree_stands at h
 simp only [go_sem, reduceAdd, reduceLT, reduceLeDiff, reduceEqDiff, Nat.reduceBEq, Nat.reduceBNe]
 refine blk_ 10000 ?_
 simp only [go_sem, reduceAdd, reduceLT, reduceLeDiff, reduceEqDiff, Nat.reduceBEq, Nat.reduceBNe]
 refine cnd_s 10000 h (fun hb h => ?_) (fun hb h => ?_)
 ·simp only [go_sem, reduceAdd, reduceLT, reduceLeDiff, reduceEqDiff, Nat.reduceBEq, Nat.reduceBNe]
  refine ret_s (fun x => .bool x) h ?_
  first | rfl | simp only [go_sem, resAV, resAll, resOne, reduceAdd, reduceLT, reduceLeDiff, reduceEqDiff, Nat.reduceBEq, Nat.reduceBNe]
 ·simp only [go_sem, reduceAdd, reduceLT, reduceLeDiff, reduceEqDiff, Nat.reduceBEq, Nat.reduceBNe]
  refine cnd_s 10000 h (fun hb h => ?_) (fun hb h => ?_)
  ·simp only [go_sem, reduceAdd, reduceLT, reduceLeDiff, reduceEqDiff, Nat.reduceBEq, Nat.reduceBNe]
   refine ret_s (fun x => .bool x) h ?_
   first | rfl | simp only [go_sem, resAV, resAll, resOne, reduceAdd, reduceLT, reduceLeDiff, reduceEqDiff, Nat.reduceBEq, Nat.reduceBNe]
  ·simp only [go_sem, reduceAdd, reduceLT, reduceLeDiff, reduceEqDiff, Nat.reduceBEq, Nat.reduceBNe]
   refine cnd_s 10000 h (fun hb h => ?_) (fun hb h => ?_)
   ·simp only [go_sem, reduceAdd, reduceLT, reduceLeDiff, reduceEqDiff, Nat.reduceBEq, Nat.reduceBNe]
    refine ret_s (fun x => .bool x) h ?_
    first | rfl | simp only [go_sem, resAV, resAll, resOne, reduceAdd, reduceLT, reduceLeDiff, reduceEqDiff, Nat.reduceBEq, Nat.reduceBNe]
   ·simp only [go_sem, reduceAdd, reduceLT, reduceLeDiff, reduceEqDiff, Nat.reduceBEq, Nat.reduceBNe]
    refine ret_s (fun x => .bool x) h ?_
    first | rfl | simp only [go_sem, resAV, resAll, resOne, reduceAdd, reduceLT, reduceLeDiff, reduceEqDiff, Nat.reduceBEq, Nat.reduceBNe]
theorem w_tree_Node_places {n : tree_Node} {i : Int}   {r : (Bool × Bool × Bool)} (h : tree_Node_places n i = some r) : ACall Tryz.prog 123 [enc_tree_Node n, .int .i64 i] [] (.tup [.bool r.1, .bool r.2.1, .bool r.2.2]) [] := by
 refine acallX 10000 hf123 ok123 (by first | rfl | simp only [go_sem]) meek_tup ?_
 dsimp only [Tryz.f123, nums, Option.getD, List.append]
 unfold tree_Node_places at h
 simp only [go_sem, reduceAdd, reduceLT, reduceLeDiff, reduceEqDiff, Nat.reduceBEq, Nat.reduceBNe]
 refine blk_ 10000 ?_
 simp only [go_sem, reduceAdd, reduceLT, reduceLeDiff, reduceEqDiff, Nat.reduceBEq, Nat.reduceBNe]
 refine cnd_s 10000 h (fun hb h => ?_) (fun hb h => ?_)
 ·simp only [go_sem, reduceAdd, reduceLT, reduceLeDiff, reduceEqDiff, Nat.reduceBEq, Nat.reduceBNe]
  refine ret_s (fun x => .tup [.bool x.1, .bool x.2.1, .bool x.2.2]) h ?_
  first | rfl | simp only [go_sem, resAV, resAll, resOne, reduceAdd, reduceLT, reduceLeDiff, reduceEqDiff, Nat.reduceBEq, Nat.reduceBNe]
 ·simp only [go_sem, reduceAdd, reduceLT, reduceLeDiff, reduceEqDiff, Nat.reduceBEq, Nat.reduceBNe]
  refine cnd_s 10000 h (fun hb h => ?_) (fun hb h => ?_)
  ·simp only [go_sem, reduceAdd, reduceLT, reduceLeDiff, reduceEqDiff, Nat.reduceBEq, Nat.reduceBNe]
   refine ret_s (fun x => .tup [.bool x.1, .bool x.2.1, .bool x.2.2]) h ?_
   first | rfl | simp only [go_sem, resAV, resAll, resOne, reduceAdd, reduceLT, reduceLeDiff, reduceEqDiff, Nat.reduceBEq, Nat.reduceBNe]
  ·simp only [go_sem, reduceAdd, reduceLT, reduceLeDiff, reduceEqDiff, Nat.reduceBEq, Nat.reduceBNe]
   refine cnd_s 10000 h (fun hb h => ?_) (fun hb h => ?_)
   ·simp only [go_sem, reduceAdd, reduceLT, reduceLeDiff, reduceEqDiff, Nat.reduceBEq, Nat.reduceBNe]
    refine rg_ 10000 (.inr ⟨[], by kernel_rfl, by kernel_rfl, by rfl⟩) ?_
    refine sub_s h fun v2 _ e1 h => ?_
    simp only [go_sem, reduceAdd, reduceLT, reduceLeDiff, reduceEqDiff, Nat.reduceBEq, Nat.reduceBNe, e1]
    refine ret_s (fun x => .tup [.bool x.1, .bool x.2.1, .bool x.2.2]) h ?_
    first | rfl | simp only [go_sem, resAV, resAll, resOne, reduceAdd, reduceLT, reduceLeDiff, reduceEqDiff, Nat.reduceBEq, Nat.reduceBNe]
   ·simp only [go_sem, reduceAdd, reduceLT, reduceLeDiff, reduceEqDiff, Nat.reduceBEq, Nat.reduceBNe]
    refine ret_s (fun x => .tup [.bool x.1, .bool x.2.1, .bool x.2.2]) h ?_
    first | rfl | simp only [go_sem, resAV, resAll, resOne, reduceAdd, reduceLT, reduceLeDiff, reduceEqDiff, Nat.reduceBEq, Nat.reduceBNe]
def R_tree_walk_come_ok (rec : R_tree_walk_come) : Prop := (∀ (p0_w : tree_walk) (i : Int) (above : Int) (super : Bool) (msg : Bool) (up : Bool) (r : (Bool × tree_walk)), rec.tree_walk_come p0_w i above super msg up = some r → ACall Tryz.prog 66 [.ptr 0 0, .int .i64 i, .int .i64 above, .bool super, .bool msg, .bool up] [some [.sl none (List.map enc_tree_Node p0_w.l), .int .i64 p0_w.next]] (.bool r.1) [some [.sl none (List.map enc_tree_Node r.2.l), .int .i64 r.2.next]])
theorem w_tree_walk_come_b {rec : R_tree_walk_come} (hrec : R_tree_walk_come_ok rec) {p0_w : tree_walk} {i : Int} {above : Int} {super : Bool} {msg : Bool} {up : Bool}   {r : (Bool × tree_walk)} (h : tree_walk_come_b rec p0_w i above super msg up = some r) : ACall Tryz.prog 66 [.ptr 0 0, .int .i64 i, .int .i64 above, .bool super, .bool msg, .bool up] [some [.sl none (List.map enc_tree_Node p0_w.l), .int .i64 p0_w.next]] (.bool r.1) [some [.sl none (List.map enc_tree_Node r.2.l), .int .i64 r.2.next]] := by
 refine acallHX 10000 hf66 ok66 (by first | rfl | simp only [go_sem]) meek_bool rfl (by first | rfl | simp only [go_sem, allLt]) ?_
 dsimp only [Tryz.f66, nums, Option.getD, List.append]
 unfold tree_walk_come_b at h
 simp only [go_sem, reduceAdd, reduceLT, reduceLeDiff, reduceEqDiff, Nat.reduceBEq, Nat.reduceBNe]
 refine bsome h fun y1 hy1 h => ?_
 refine rgJ 115 10000 (.inl rfl) (fun w => w [(0, .ptr 0 0), (1, .int .i64 i), (2, .int .i64 above), (63, .bool y1)] [some [.sl none (List.map enc_tree_Node p0_w.l), .int .i64 p0_w.next]]) (runX 10000 ?_) (fun Jy1 => ?_)
 ·clear hy1
  simp only [go_sem, reduceAdd, reduceLT, reduceLeDiff, reduceEqDiff, Nat.reduceBEq, Nat.reduceBNe]
  refine cnd_s 10000 h (fun hb h => ?_) (fun hb h => ?_)
  ·simp only [go_sem, reduceAdd, reduceLT, reduceLeDiff, reduceEqDiff, Nat.reduceBEq, Nat.reduceBNe]
   refine retH_s (fun x => .bool x.1) (fun x => [some [.sl none (List.map enc_tree_Node x.2.l), .int .i64 x.2.next]]) h ?_ ?_
   ·first | rfl | simp only [go_sem, resAV, resAll, resOne, reduceAdd, reduceLT, reduceLeDiff, reduceEqDiff, Nat.reduceBEq, Nat.reduceBNe]
   ·first | rfl | simp only [go_sem, resAV, resAll, resOne, reduceAdd, reduceLT, reduceLeDiff, reduceEqDiff, Nat.reduceBEq, Nat.reduceBNe]
  ·refine lAt_s enc_tree_Node none .i64 ⟨59, 5, true, 80⟩ (fun _ => rfl) h fun v16 _ b14 e15 h => ?_
   simp only [go_sem, reduceAdd, reduceLT, reduceLeDiff, reduceEqDiff, Nat.reduceBEq, Nat.reduceBNe, b14, e15]
   refine letK_s h fun K18 hK18 h => ?_
   refine blkJ 115 10000 (fun w => ∀ (v46 : tree_walk), K18 v46 = some r → w [(0, .ptr 0 0), (1, .int .i64 i)] [some [.sl none (List.map enc_tree_Node v46.l), .int .i64 v46.next], some [.int .u8 v16.K, .str v16.S, .int .i64 v16.N, .sl none (List.map AV.str v16.L), .sl none (List.map (AV.int .i64) v16.Kids)]]) (fun v46 h => runX 10000 ?_) (fun JK18 => ?_)
   ·subst hK18
    dsimp only at h
    refine add_s h fun v48 _ e47 h => ?_
    refine sub_s h fun v50 _ e49 h => ?_
    simp only [go_sem, reduceAdd, reduceLT, reduceLeDiff, reduceEqDiff, Nat.reduceBEq, Nat.reduceBNe, e47, e49]
    refine retH_s (fun x => .bool x.1) (fun x => [some [.sl none (List.map enc_tree_Node x.2.l), .int .i64 x.2.next]]) h ?_ ?_
    ·first | rfl | simp only [go_sem, resAV, resAll, resOne, reduceAdd, reduceLT, reduceLeDiff, reduceEqDiff, Nat.reduceBEq, Nat.reduceBNe]
    ·first | rfl | simp only [go_sem, resAV, resAll, resOne, reduceAdd, reduceLT, reduceLeDiff, reduceEqDiff, Nat.reduceBEq, Nat.reduceBNe]
   ·clear hK18
    simp only [go_sem, reduceAdd, reduceLT, reduceLeDiff, reduceEqDiff, Nat.reduceBEq, Nat.reduceBNe]
    refine lpJ 115 fuel (fun q1 w => ∀ (v32 : Int) (v33 : tree_walk), tree_walk_come_l1 i above rec v16 K18 q1 v32 v33 = some r → w [(0, .ptr 0 0), (1, .int .i64 i), (2, .int .i64 above), (13, .ptr 1 0), (72, .sl none (List.map (AV.int .i64) v16.Kids)), (73, .int .i64 (v16.Kids.length : Int)), (74, .int .i64 v32)] [some [.sl none (List.map enc_tree_Node v33.l), .int .i64 v33.next], some [.int .u8 v16.K, .str v16.S, .int .i64 v16.N, .sl none (List.map AV.str v16.L), .sl none (List.map (AV.int .i64) v16.Kids)]]) (fun w _ _ h => nomatch h) (fun q1 ih1 v32 v33 h => ?_) (fun L1 => ?_)
    ·unfold tree_walk_come_l1 at h
     refine runL 10000 ?_
     simp only [go_sem, reduceAdd, reduceLT, reduceLeDiff, reduceEqDiff, Nat.reduceBEq, Nat.reduceBNe]
     refine cnd_s 10000 h (fun hb h => ?_) (fun hb h => ?_)
     ·simp only [go_sem, reduceAdd, reduceLT, reduceLeDiff, reduceEqDiff, Nat.reduceBEq, Nat.reduceBNe]
      refine blk_ 10000 ?_
      refine lAt_s (AV.int .i64) none .i64 ⟨3, 1, false, 8⟩ (fun _ => rfl) h fun v36 _ b34 e35 h => ?_
      refine bsome h fun v37 hv37 h => ?_
      simp only [go_sem, reduceAdd, reduceLT, reduceLeDiff, reduceEqDiff, Nat.reduceBEq, Nat.reduceBNe, b34, e35]
      refine callX_ 10000 (w_tree_Node_places  hv37) (by first | rfl | simp only [go_sem]) (by first | rfl | simp only [go_sem]) ?_
      simp only [go_sem, reduceAdd, reduceLT, reduceLeDiff, reduceEqDiff, Nat.reduceBEq, Nat.reduceBNe]
      refine bsome h fun y38 hy38 h => ?_
      refine rgJ 115 10000 (.inl rfl) (fun w => w [(0, .ptr 0 0), (1, .int .i64 i), (2, .int .i64 above), (13, .ptr 1 0), (72, .sl none (List.map (AV.int .i64) v16.Kids)), (73, .int .i64 (v16.Kids.length : Int)), (74, .int .i64 v32), (99, .bool y38.1)] [some [.sl none (List.map enc_tree_Node y38.2.l), .int .i64 y38.2.next], some [.int .u8 v16.K, .str v16.S, .int .i64 v16.N, .sl none (List.map AV.str v16.L), .sl none (List.map (AV.int .i64) v16.Kids)]]) (runX 10000 ?_) (fun Jy38 => ?_)
      ·clear hy38
       simp only [go_sem, reduceAdd, reduceLT, reduceLeDiff, reduceEqDiff, Nat.reduceBEq, Nat.reduceBNe]
       refine cnd_s 10000 h (fun hb h => ?_) (fun hb h => ?_)
       ·simp only [go_sem, reduceAdd, reduceLT, reduceLeDiff, reduceEqDiff, Nat.reduceBEq, Nat.reduceBNe]
        refine retH_s (fun x => .bool x.1) (fun x => [some [.sl none (List.map enc_tree_Node x.2.l), .int .i64 x.2.next]]) h ?_ ?_
        ·first | rfl | simp only [go_sem, resAV, resAll, resOne, reduceAdd, reduceLT, reduceLeDiff, reduceEqDiff, Nat.reduceBEq, Nat.reduceBNe]
        ·first | rfl | simp only [go_sem, resAV, resAll, resOne, reduceAdd, reduceLT, reduceLeDiff, reduceEqDiff, Nat.reduceBEq, Nat.reduceBNe]
       ·refine add_s h fun v45 _ e44 h => ?_
        simp only [go_sem, reduceAdd, reduceLT, reduceLeDiff, reduceEqDiff, Nat.reduceBEq, Nat.reduceBNe, e44]
        exact lp_back (ih1 v45 y38.2 h) ⟨rfl, rfl, rfl, rfl, rfl, rfl, rfl, trivial⟩
      ·clear h
       have h := hy38
       simp only [go_sem, reduceAdd, reduceLT, reduceLeDiff, reduceEqDiff, Nat.reduceBEq, Nat.reduceBNe]
       refine grd_ (fun hb40 => ?_) (fun hb40 => ?_)
       ·have h := ite_f hb40 h
        refine add_s h fun v42 _ e41 h => ?_
        refine bsome h fun v43 hv43 h => ?_
        simp only [go_sem, reduceAdd, reduceLT, reduceLeDiff, reduceEqDiff, Nat.reduceBEq, Nat.reduceBNe, e41]
        refine callH_ 10000 [0] (hrec _ _ _ _ _ _ _ hv43) (by first | rfl | simp only [go_sem]) (by first | rfl | simp only [go_sem]) (by first | rfl | simp only [go_sem]) ?_
        simp only [go_sem, reduceAdd, reduceLT, reduceLeDiff, reduceEqDiff, Nat.reduceBEq, Nat.reduceBNe]
        obtain rfl := Option.some.inj h
        exact atJ (wkn (Jy38) ⟨rfl, rfl, rfl, rfl, rfl, rfl, rfl, rfl, trivial⟩)
       ·have h := ite_t hb40 h
        simp only [go_sem, reduceAdd, reduceLT, reduceLeDiff, reduceEqDiff, Nat.reduceBEq, Nat.reduceBNe]
        obtain rfl := Option.some.inj h
        exact atJ (wkn (Jy38) ⟨rfl, rfl, rfl, rfl, rfl, rfl, rfl, rfl, trivial⟩)
     ·simp only [go_sem, reduceAdd, reduceLT, reduceLeDiff, reduceEqDiff, Nat.reduceBEq, Nat.reduceBNe]
      exact atJ (wkn (JK18 v33 h) ⟨rfl, rfl, trivial⟩)
    ·exact lp_back (L1 0 p0_w h) ⟨rfl, rfl, rfl, rfl, rfl, rfl, rfl, trivial⟩
 ·clear h
  have h := hy1
  simp only [go_sem, reduceAdd, reduceLT, reduceLeDiff, reduceEqDiff, Nat.reduceBEq, Nat.reduceBNe]
  refine grd_ (fun hb3 => ?_) (fun hb3 => ?_)
  ·have h := ite_f hb3 h
   simp only [go_sem, reduceAdd, reduceLT, reduceLeDiff, reduceEqDiff, Nat.reduceBEq, Nat.reduceBNe]
   refine grd_ (fun hb4 => ?_) (fun hb4 => ?_)
   ·have h := ite_f hb4 h
    simp only [go_sem, reduceAdd, reduceLT, reduceLeDiff, reduceEqDiff, Nat.reduceBEq, Nat.reduceBNe]
    refine grd_ (fun hb5 => ?_) (fun hb5 => ?_)
    ·have h := ite_f hb5 h
     refine lAt_s enc_tree_Node none .i64 ⟨59, 5, true, 80⟩ (fun _ => rfl) h fun v8 _ b6 e7 h => ?_
     refine bsome h fun v9 hv9 h => ?_
     simp only [go_sem, reduceAdd, reduceLT, reduceLeDiff, reduceEqDiff, Nat.reduceBEq, Nat.reduceBNe, b6, e7]
     refine callX_ 10000 (w_tree_Node_may  hv9) (by first | rfl | simp only [go_sem]) (by first | rfl | simp only [go_sem]) ?_
     simp only [go_sem, reduceAdd, reduceLT, reduceLeDiff, reduceEqDiff, Nat.reduceBEq, Nat.reduceBNe]
     refine grd_ (fun hb10 => ?_) (fun hb10 => ?_)
     ·have h := ite_f hb10 h
      refine bsome h fun v13 hv13 h => ?_
      simp only [go_sem, reduceAdd, reduceLT, reduceLeDiff, reduceEqDiff, Nat.reduceBEq, Nat.reduceBNe, b6, e7]
      refine callX_ 10000 (w_tree_stands  hv13) (by first | rfl | simp only [go_sem]) (by first | rfl | simp only [go_sem]) ?_
      simp only [go_sem, reduceAdd, reduceLT, reduceLeDiff, reduceEqDiff, Nat.reduceBEq, Nat.reduceBNe]
      obtain rfl := Option.some.inj h
      exact atJ (wkn (Jy1) ⟨rfl, rfl, rfl, rfl, trivial⟩)
     ·have h := ite_t hb10 h
      simp only [go_sem, reduceAdd, reduceLT, reduceLeDiff, reduceEqDiff, Nat.reduceBEq, Nat.reduceBNe]
      obtain rfl := Option.some.inj h
      exact atJ (wkn (Jy1) ⟨rfl, rfl, rfl, rfl, trivial⟩)
    ·have h := ite_t hb5 h
     simp only [go_sem, reduceAdd, reduceLT, reduceLeDiff, reduceEqDiff, Nat.reduceBEq, Nat.reduceBNe]
     obtain rfl := Option.some.inj h
     exact atJ (wkn (Jy1) ⟨rfl, rfl, rfl, rfl, trivial⟩)
   ·have h := ite_t hb4 h
    simp only [go_sem, reduceAdd, reduceLT, reduceLeDiff, reduceEqDiff, Nat.reduceBEq, Nat.reduceBNe]
    obtain rfl := Option.some.inj h
    exact atJ (wkn (Jy1) ⟨rfl, rfl, rfl, rfl, trivial⟩)
  ·have h := ite_t hb3 h
   simp only [go_sem, reduceAdd, reduceLT, reduceLeDiff, reduceEqDiff, Nat.reduceBEq, Nat.reduceBNe]
   obtain rfl := Option.some.inj h
   exact atJ (wkn (Jy1) ⟨rfl, rfl, rfl, rfl, trivial⟩)
theorem R_tree_walk_come_all : ∀ n, R_tree_walk_come_ok (R_tree_walk_come_n n)
 | 0 => fun _ _ _ _ _ _ _ h => nomatch h
 | n+1 => fun _ _ _ _ _ _ _ h => w_tree_walk_come_b (R_tree_walk_come_all n) h
theorem w_tree_walk_come {p0_w : tree_walk} {i : Int} {above : Int} {super : Bool} {msg : Bool} {up : Bool} {r : (Bool × tree_walk)} (h : tree_walk_come p0_w i above super msg up = some r) : ACall Tryz.prog 66 [.ptr 0 0, .int .i64 i, .int .i64 above, .bool super, .bool msg, .bool up] [some [.sl none (List.map enc_tree_Node p0_w.l), .int .i64 p0_w.next]] (.bool r.1) [some [.sl none (List.map enc_tree_Node r.2.l), .int .i64 r.2.next]] := (R_tree_walk_come_all fuel) _ _ _ _ _ _ _ h
theorem w_tree_Check {m : tree_Method}   {r : (Option Int)} (h : tree_Check m = some r) : ACall Tryz.prog 26 [enc_tree_Method m] [] (encE 86 r) [] := by
 refine acallX 10000 hf26 ok26 (by first | rfl | simp only [go_sem]) meek_encE ?_
 dsimp only [Tryz.f26, nums, Option.getD, List.append]
 unfold tree_Check at h
 refine bsome h fun v1 hv1 h => ?_
 simp only [go_sem, reduceAdd, reduceLT, reduceLeDiff, reduceEqDiff, Nat.reduceBEq, Nat.reduceBNe]
 refine callX_ 10000 (w_slices_Concat_Lstring_string  hv1) (by first | rfl | simp only [go_sem]) (by first | rfl | simp only [go_sem]) ?_
 simp only [go_sem, reduceAdd, reduceLT, reduceLeDiff, reduceEqDiff, Nat.reduceBEq, Nat.reduceBNe]
 refine bsome h fun y2 hy2 h => ?_
 refine rgJ 76 10000 (.inl rfl) (fun w => w [(1, .ptr 0 0), (41, .bool y2)] [some [.str m.Sel, .sl none (List.map AV.str m.Args), .sl none (List.map AV.str m.Temps), .sl none (List.map enc_tree_Node m.Nodes), .sl none (List.map (AV.int .i64) m.Body)]]) (runX 10000 ?_) (fun Jy2 => ?_)
 ·clear hy2
  simp only [go_sem, reduceAdd, reduceLT, reduceLeDiff, reduceEqDiff, Nat.reduceBEq, Nat.reduceBNe]
  refine cnd_s 10000 h (fun hb h => ?_) (fun hb h => ?_)
  ·simp only [go_sem, reduceAdd, reduceLT, reduceLeDiff, reduceEqDiff, Nat.reduceBEq, Nat.reduceBNe]
   refine ret_s (fun x => encE 86 x) h ?_
   first | rfl | simp only [go_sem, resAV, resAll, resOne, reduceAdd, reduceLT, reduceLeDiff, reduceEqDiff, Nat.reduceBEq, Nat.reduceBNe]
  ·simp only [go_sem, reduceAdd, reduceLT, reduceLeDiff, reduceEqDiff, Nat.reduceBEq, Nat.reduceBNe]
   refine letK_s h fun K11 hK11 h => ?_
   refine blkJ 76 10000 (fun w => ∀ (v31 : tree_walk), K11 v31 = some r → w [(1, .ptr 0 0), (4, .ptr 1 0)] [some [.str m.Sel, .sl none (List.map AV.str m.Args), .sl none (List.map AV.str m.Temps), .sl none (List.map enc_tree_Node m.Nodes), .sl none (List.map (AV.int .i64) m.Body)], some [.sl none (List.map enc_tree_Node v31.l), .int .i64 v31.next]]) (fun v31 h => runX 10000 ?_) (fun JK11 => ?_)
   ·subst hK11
    dsimp only at h
    simp only [go_sem, reduceAdd, reduceLT, reduceLeDiff, reduceEqDiff, Nat.reduceBEq, Nat.reduceBNe]
    refine rg_ 10000 (.inr ⟨[], by kernel_rfl, by kernel_rfl, by rfl⟩) ?_
    simp only [go_sem, reduceAdd, reduceLT, reduceLeDiff, reduceEqDiff, Nat.reduceBEq, Nat.reduceBNe]
    refine cnd_s 10000 h (fun hb h => ?_) (fun hb h => ?_)
    ·simp only [go_sem, reduceAdd, reduceLT, reduceLeDiff, reduceEqDiff, Nat.reduceBEq, Nat.reduceBNe]
     refine ret_s (fun x => encE 86 x) h ?_
     first | rfl | simp only [go_sem, resAV, resAll, resOne, reduceAdd, reduceLT, reduceLeDiff, reduceEqDiff, Nat.reduceBEq, Nat.reduceBNe]
    ·simp only [go_sem, reduceAdd, reduceLT, reduceLeDiff, reduceEqDiff, Nat.reduceBEq, Nat.reduceBNe]
     refine ret_s (fun x => encE 86 x) h ?_
     first | rfl | simp only [go_sem, resAV, resAll, resOne, reduceAdd, reduceLT, reduceLeDiff, reduceEqDiff, Nat.reduceBEq, Nat.reduceBNe]
   ·clear hK11
    simp only [go_sem, reduceAdd, reduceLT, reduceLeDiff, reduceEqDiff, Nat.reduceBEq, Nat.reduceBNe]
    refine lpJ 76 fuel (fun q1 w => ∀ (v21 : Int) (v22 : tree_walk), tree_Check_l1 m K11 q1 v21 v22 = some r → w [(1, .ptr 0 0), (4, .ptr 1 0), (48, .sl none (List.map (AV.int .i64) m.Body)), (49, .int .i64 (m.Body.length : Int)), (50, .int .i64 v21)] [some [.str m.Sel, .sl none (List.map AV.str m.Args), .sl none (List.map AV.str m.Temps), .sl none (List.map enc_tree_Node m.Nodes), .sl none (List.map (AV.int .i64) m.Body)], some [.sl none (List.map enc_tree_Node v22.l), .int .i64 v22.next]]) (fun w _ _ h => nomatch h) (fun q1 ih1 v21 v22 h => ?_) (fun L1 => ?_)
    ·unfold tree_Check_l1 at h
     refine runL 10000 ?_
     simp only [go_sem, reduceAdd, reduceLT, reduceLeDiff, reduceEqDiff, Nat.reduceBEq, Nat.reduceBNe]
     refine cnd_s 10000 h (fun hb h => ?_) (fun hb h => ?_)
     ·simp only [go_sem, reduceAdd, reduceLT, reduceLeDiff, reduceEqDiff, Nat.reduceBEq, Nat.reduceBNe]
      refine blk_ 10000 ?_
      refine lAt_s (AV.int .i64) none .i64 ⟨3, 1, false, 8⟩ (fun _ => rfl) h fun v25 _ b23 e24 h => ?_
      refine sub_s h fun v27 _ e26 h => ?_
      refine bsome h fun v28 hv28 h => ?_
      simp only [go_sem, reduceAdd, reduceLT, reduceLeDiff, reduceEqDiff, Nat.reduceBEq, Nat.reduceBNe, b23, e24, e26]
      refine callH_ 10000 [1] (w_tree_walk_come  hv28) (by first | rfl | simp only [go_sem]) (by first | rfl | simp only [go_sem]) (by first | rfl | simp only [go_sem]) ?_
      simp only [go_sem, reduceAdd, reduceLT, reduceLeDiff, reduceEqDiff, Nat.reduceBEq, Nat.reduceBNe]
      refine cnd_s 10000 h (fun hb h => ?_) (fun hb h => ?_)
      ·simp only [go_sem, reduceAdd, reduceLT, reduceLeDiff, reduceEqDiff, Nat.reduceBEq, Nat.reduceBNe]
       refine ret_s (fun x => encE 86 x) h ?_
       first | rfl | simp only [go_sem, resAV, resAll, resOne, reduceAdd, reduceLT, reduceLeDiff, reduceEqDiff, Nat.reduceBEq, Nat.reduceBNe]
      ·refine add_s h fun v30 _ e29 h => ?_
       simp only [go_sem, reduceAdd, reduceLT, reduceLeDiff, reduceEqDiff, Nat.reduceBEq, Nat.reduceBNe, e29]
       exact lp_back (ih1 v30 v28.2 h) ⟨rfl, rfl, rfl, rfl, rfl, trivial⟩
     ·simp only [go_sem, reduceAdd, reduceLT, reduceLeDiff, reduceEqDiff, Nat.reduceBEq, Nat.reduceBNe]
      exact atJ (wkn (JK11 v22 h) ⟨rfl, rfl, trivial⟩)
    ·exact lp_back (L1 0 (tree_walk.mk m.Nodes 0) h) ⟨rfl, rfl, rfl, rfl, rfl, trivial⟩
 ·clear h
  have h := hy2
  refine bsome h fun v4 hv4 h => ?_
  simp only [go_sem, reduceAdd, reduceLT, reduceLeDiff, reduceEqDiff, Nat.reduceBEq, Nat.reduceBNe]
  refine callX_ 10000 (w_tree_sends  hv4) (by first | rfl | simp only [go_sem]) (by first | rfl | simp only [go_sem]) ?_
  simp only [go_sem, reduceAdd, reduceLT, reduceLeDiff, reduceEqDiff, Nat.reduceBEq, Nat.reduceBNe]
  refine grd_ (fun hb5 => ?_) (fun hb5 => ?_)
  ·have h := ite_f hb5 h
   simp only [go_sem, reduceAdd, reduceLT, reduceLeDiff, reduceEqDiff, Nat.reduceBEq, Nat.reduceBNe]
   refine grd_ (fun hb6 => ?_) (fun hb6 => ?_)
   ·have h := ite_f hb6 h
    refine bsome h fun v7 hv7 h => ?_
    simp only [go_sem, reduceAdd, reduceLT, reduceLeDiff, reduceEqDiff, Nat.reduceBEq, Nat.reduceBNe]
    refine callX_ 10000 (w_tree_unlike  hv7) (by first | rfl | simp only [go_sem]) (by first | rfl | simp only [go_sem]) ?_
    simp only [go_sem, reduceAdd, reduceLT, reduceLeDiff, reduceEqDiff, Nat.reduceBEq, Nat.reduceBNe]
    refine grd_ (fun hb8 => ?_) (fun hb8 => ?_)
    ·have h := ite_f hb8 h
     simp only [go_sem, reduceAdd, reduceLT, reduceLeDiff, reduceEqDiff, Nat.reduceBEq, Nat.reduceBNe]
     refine grd_ (fun hb9 => ?_) (fun hb9 => ?_)
     ·have h := ite_f hb9 h
      simp only [go_sem, reduceAdd, reduceLT, reduceLeDiff, reduceEqDiff, Nat.reduceBEq, Nat.reduceBNe]
      obtain rfl := Option.some.inj h
      exact atJ (wkn (Jy2) ⟨rfl, rfl, trivial⟩)
     ·have h := ite_t hb9 h
      simp only [go_sem, reduceAdd, reduceLT, reduceLeDiff, reduceEqDiff, Nat.reduceBEq, Nat.reduceBNe]
      obtain rfl := Option.some.inj h
      exact atJ (wkn (Jy2) ⟨rfl, rfl, trivial⟩)
    ·have h := ite_t hb8 h
     simp only [go_sem, reduceAdd, reduceLT, reduceLeDiff, reduceEqDiff, Nat.reduceBEq, Nat.reduceBNe]
     obtain rfl := Option.some.inj h
     exact atJ (wkn (Jy2) ⟨rfl, rfl, trivial⟩)
   ·have h := ite_t hb6 h
    simp only [go_sem, reduceAdd, reduceLT, reduceLeDiff, reduceEqDiff, Nat.reduceBEq, Nat.reduceBNe]
    obtain rfl := Option.some.inj h
    exact atJ (wkn (Jy2) ⟨rfl, rfl, trivial⟩)
  ·have h := ite_t hb5 h
   simp only [go_sem, reduceAdd, reduceLT, reduceLeDiff, reduceEqDiff, Nat.reduceBEq, Nat.reduceBNe]
   obtain rfl := Option.some.inj h
   exact atJ (wkn (Jy2) ⟨rfl, rfl, trivial⟩)
theorem w_slices_Equal_Lstring_string {s1 : (List Str)} {s2 : (List Str)}   {r : Bool} (h : slices_Equal_Lstring_string s1 s2 = some r) : ACall Tryz.prog 71 [.sl none (List.map AV.str s1), .sl none (List.map AV.str s2)] [] (.bool r) [] := by
 refine acallX 10000 hf71 ok71 (by first | rfl | simp only [go_sem]) meek_bool ?_
 dsimp only [Tryz.f71, nums, Option.getD, List.append]
 unfold slices_Equal_Lstring_string at h
 simp only [go_sem, reduceAdd, reduceLT, reduceLeDiff, reduceEqDiff, Nat.reduceBEq, Nat.reduceBNe]
 refine cnd_s 10000 h (fun hb h => ?_) (fun hb h => ?_)
 ·simp only [go_sem, reduceAdd, reduceLT, reduceLeDiff, reduceEqDiff, Nat.reduceBEq, Nat.reduceBNe]
  refine ret_s (fun x => .bool x) h ?_
  first | rfl | simp only [go_sem, resAV, resAll, resOne, reduceAdd, reduceLT, reduceLeDiff, reduceEqDiff, Nat.reduceBEq, Nat.reduceBNe]
 ·simp only [go_sem, reduceAdd, reduceLT, reduceLeDiff, reduceEqDiff, Nat.reduceBEq, Nat.reduceBNe]
  refine letK_s h fun K2 hK2 h => ?_
  refine blkJ 26 10000 (fun w => K2 () = some r → w [] []) (fun  h => runX 10000 ?_) (fun JK2 => ?_)
  ·subst hK2
   dsimp only at h
   simp only [go_sem, reduceAdd, reduceLT, reduceLeDiff, reduceEqDiff, Nat.reduceBEq, Nat.reduceBNe]
   refine ret_s (fun x => .bool x) h ?_
   first | rfl | simp only [go_sem, resAV, resAll, resOne, reduceAdd, reduceLT, reduceLeDiff, reduceEqDiff, Nat.reduceBEq, Nat.reduceBNe]
  ·clear hK2
   simp only [go_sem, reduceAdd, reduceLT, reduceLeDiff, reduceEqDiff, Nat.reduceBEq, Nat.reduceBNe]
   refine lpJ 26 fuel (fun q1 w => ∀ (v3 : Int), slices_Equal_Lstring_string_l1 s1 s2 K2 q1 v3 = some r → w [(0, .sl none (List.map AV.str s1)), (1, .sl none (List.map AV.str s2)), (12, .int .i64 (s1.length : Int)), (13, .int .i64 v3)] []) (fun w _ h => nomatch h) (fun q1 ih1 v3 h => ?_) (fun L1 => ?_)
   ·unfold slices_Equal_Lstring_string_l1 at h
    refine runL 10000 ?_
    simp only [go_sem, reduceAdd, reduceLT, reduceLeDiff, reduceEqDiff, Nat.reduceBEq, Nat.reduceBNe]
    refine cnd_s 10000 h (fun hb h => ?_) (fun hb h => ?_)
    ·simp only [go_sem, reduceAdd, reduceLT, reduceLeDiff, reduceEqDiff, Nat.reduceBEq, Nat.reduceBNe]
     refine blk_ 10000 ?_
     simp only [go_sem, reduceAdd, reduceLT, reduceLeDiff, reduceEqDiff, Nat.reduceBEq, Nat.reduceBNe]
     refine rg_ 10000 (.inr ⟨[], by kernel_rfl, by kernel_rfl, by rfl⟩) ?_
     refine lAt_s AV.str none .i64 ⟨9, 1, false, 16⟩ (fun _ => rfl) h fun v6 _ b4 e5 h => ?_
     refine lAt_s AV.str none .i64 ⟨9, 1, false, 16⟩ (fun _ => rfl) h fun v9 _ b7 e8 h => ?_
     simp only [go_sem, reduceAdd, reduceLT, reduceLeDiff, reduceEqDiff, Nat.reduceBEq, Nat.reduceBNe, b4, e5, b7, e8]
     refine cnd_s 10000 h (fun hb h => ?_) (fun hb h => ?_)
     ·simp only [go_sem, reduceAdd, reduceLT, reduceLeDiff, reduceEqDiff, Nat.reduceBEq, Nat.reduceBNe]
      refine ret_s (fun x => .bool x) h ?_
      first | rfl | simp only [go_sem, resAV, resAll, resOne, reduceAdd, reduceLT, reduceLeDiff, reduceEqDiff, Nat.reduceBEq, Nat.reduceBNe]
     ·refine add_s h fun v11 _ e10 h => ?_
      simp only [go_sem, reduceAdd, reduceLT, reduceLeDiff, reduceEqDiff, Nat.reduceBEq, Nat.reduceBNe, e10]
      exact lp_back (ih1 v11 h) ⟨rfl, rfl, rfl, rfl, trivial⟩
    ·simp only [go_sem, reduceAdd, reduceLT, reduceLeDiff, reduceEqDiff, Nat.reduceBEq, Nat.reduceBNe]
     exact atJ (wkn (JK2  h) trivial)
   ·exact lp_back (L1 0 h) ⟨rfl, rfl, rfl, rfl, trivial⟩
theorem w_slices_EqualFunc_Ltree_Node_Ltree_Node_tree_Node_tree_Node {s1 : (List tree_Node)} {s2 : (List tree_Node)} {eq : (tree_Node → tree_Node → Option Bool)}  (fv_eq : FuncId) (hf_eq : ∀ (a0 : tree_Node) (a1 : tree_Node) (z : Bool), eq a0 a1 = some z → ACall Tryz.prog fv_eq [enc_tree_Node a0, enc_tree_Node a1] [] (.bool z) []) {r : Bool} (h : slices_EqualFunc_Ltree_Node_Ltree_Node_tree_Node_tree_Node s1 s2 eq = some r) : ACall Tryz.prog 72 [.sl none (List.map enc_tree_Node s1), .sl none (List.map enc_tree_Node s2), .fn (.func fv_eq) [] []] [] (.bool r) [] := by
 refine acallX 10000 hf72 ok72 (by first | rfl | simp only [go_sem]) meek_bool ?_
 dsimp only [Tryz.f72, nums, Option.getD, List.append]
 unfold slices_EqualFunc_Ltree_Node_Ltree_Node_tree_Node_tree_Node at h
 simp only [go_sem, reduceAdd, reduceLT, reduceLeDiff, reduceEqDiff, Nat.reduceBEq, Nat.reduceBNe]
 refine cnd_s 10000 h (fun hb h => ?_) (fun hb h => ?_)
 ·simp only [go_sem, reduceAdd, reduceLT, reduceLeDiff, reduceEqDiff, Nat.reduceBEq, Nat.reduceBNe]
  refine ret_s (fun x => .bool x) h ?_
  first | rfl | simp only [go_sem, resAV, resAll, resOne, reduceAdd, reduceLT, reduceLeDiff, reduceEqDiff, Nat.reduceBEq, Nat.reduceBNe]
 ·simp only [go_sem, reduceAdd, reduceLT, reduceLeDiff, reduceEqDiff, Nat.reduceBEq, Nat.reduceBNe]
  refine letK_s h fun K2 hK2 h => ?_
  refine blkJ 32 10000 (fun w => K2 () = some r → w [] []) (fun  h => runX 10000 ?_) (fun JK2 => ?_)
  ·subst hK2
   dsimp only at h
   simp only [go_sem, reduceAdd, reduceLT, reduceLeDiff, reduceEqDiff, Nat.reduceBEq, Nat.reduceBNe]
   refine ret_s (fun x => .bool x) h ?_
   first | rfl | simp only [go_sem, resAV, resAll, resOne, reduceAdd, reduceLT, reduceLeDiff, reduceEqDiff, Nat.reduceBEq, Nat.reduceBNe]
  ·clear hK2
   simp only [go_sem, reduceAdd, reduceLT, reduceLeDiff, reduceEqDiff, Nat.reduceBEq, Nat.reduceBNe]
   refine lpJ 32 fuel (fun q1 w => ∀ (v3 : Int), slices_EqualFunc_Ltree_Node_Ltree_Node_tree_Node_tree_Node_l1 s1 s2 eq K2 q1 v3 = some r → w [(1, .sl none (List.map enc_tree_Node s2)), (2, .fn (.func fv_eq) [] []), (15, .sl none (List.map enc_tree_Node s1)), (16, .int .i64 (s1.length : Int)), (17, .int .i64 v3)] []) (fun w _ h => nomatch h) (fun q1 ih1 v3 h => ?_) (fun L1 => ?_)
   ·unfold slices_EqualFunc_Ltree_Node_Ltree_Node_tree_Node_tree_Node_l1 at h
    refine runL 10000 ?_
    simp only [go_sem, reduceAdd, reduceLT, reduceLeDiff, reduceEqDiff, Nat.reduceBEq, Nat.reduceBNe]
    refine cnd_s 10000 h (fun hb h => ?_) (fun hb h => ?_)
    ·simp only [go_sem, reduceAdd, reduceLT, reduceLeDiff, reduceEqDiff, Nat.reduceBEq, Nat.reduceBNe]
     refine blk_ 10000 ?_
     refine lAt_s enc_tree_Node none .i64 ⟨59, 5, true, 80⟩ (fun _ => rfl) h fun v6 _ b4 e5 h => ?_
     refine lAt_s enc_tree_Node none .i64 ⟨59, 5, true, 80⟩ (fun _ => rfl) h fun v9 _ b7 e8 h => ?_
     refine bsome h fun v10 hv10 h => ?_
     simp only [go_sem, reduceAdd, reduceLT, reduceLeDiff, reduceEqDiff, Nat.reduceBEq, Nat.reduceBNe, b4, e5, b7, e8]
     refine callX_ 10000 (hf_eq _ _ _ hv10) (by first | rfl | simp only [go_sem]) (by first | rfl | simp only [go_sem]) ?_
     simp only [go_sem, reduceAdd, reduceLT, reduceLeDiff, reduceEqDiff, Nat.reduceBEq, Nat.reduceBNe]
     refine cnd_s 10000 h (fun hb h => ?_) (fun hb h => ?_)
     ·simp only [go_sem, reduceAdd, reduceLT, reduceLeDiff, reduceEqDiff, Nat.reduceBEq, Nat.reduceBNe]
      refine ret_s (fun x => .bool x) h ?_
      first | rfl | simp only [go_sem, resAV, resAll, resOne, reduceAdd, reduceLT, reduceLeDiff, reduceEqDiff, Nat.reduceBEq, Nat.reduceBNe]
     ·refine add_s h fun v12 _ e11 h => ?_
      simp only [go_sem, reduceAdd, reduceLT, reduceLeDiff, reduceEqDiff, Nat.reduceBEq, Nat.reduceBNe, e11]
      exact lp_backH 0 (ih1 v12 h) ⟨rfl, rfl, rfl, rfl, rfl, trivial⟩ rfl rfl rfl (by first | rfl | simp only [go_sem, ltF]) (by first | rfl | simp only [go_sem, allLt])
    ·simp only [go_sem, reduceAdd, reduceLT, reduceLeDiff, reduceEqDiff, Nat.reduceBEq, Nat.reduceBNe]
     exact atJ (wkn (JK2  h) trivial)
   ·exact lp_back (L1 0 h) ⟨rfl, rfl, rfl, rfl, rfl, trivial⟩
theorem w_slices_Equal_Lint_int {s1 : (List Int)} {s2 : (List Int)}   {r : Bool} (h : slices_Equal_Lint_int s1 s2 = some r) : ACall Tryz.prog 74 [.sl none (List.map (AV.int .i64) s1), .sl none (List.map (AV.int .i64) s2)] [] (.bool r) [] := by
 refine acallX 10000 hf74 ok74 (by first | rfl | simp only [go_sem]) meek_bool ?_
 dsimp only [Tryz.f74, nums, Option.getD, List.append]
 unfold slices_Equal_Lint_int at h
 simp only [go_sem, reduceAdd, reduceLT, reduceLeDiff, reduceEqDiff, Nat.reduceBEq, Nat.reduceBNe]
 refine cnd_s 10000 h (fun hb h => ?_) (fun hb h => ?_)
 ·simp only [go_sem, reduceAdd, reduceLT, reduceLeDiff, reduceEqDiff, Nat.reduceBEq, Nat.reduceBNe]
  refine ret_s (fun x => .bool x) h ?_
  first | rfl | simp only [go_sem, resAV, resAll, resOne, reduceAdd, reduceLT, reduceLeDiff, reduceEqDiff, Nat.reduceBEq, Nat.reduceBNe]
 ·simp only [go_sem, reduceAdd, reduceLT, reduceLeDiff, reduceEqDiff, Nat.reduceBEq, Nat.reduceBNe]
  refine letK_s h fun K2 hK2 h => ?_
  refine blkJ 26 10000 (fun w => K2 () = some r → w [] []) (fun  h => runX 10000 ?_) (fun JK2 => ?_)
  ·subst hK2
   dsimp only at h
   simp only [go_sem, reduceAdd, reduceLT, reduceLeDiff, reduceEqDiff, Nat.reduceBEq, Nat.reduceBNe]
   refine ret_s (fun x => .bool x) h ?_
   first | rfl | simp only [go_sem, resAV, resAll, resOne, reduceAdd, reduceLT, reduceLeDiff, reduceEqDiff, Nat.reduceBEq, Nat.reduceBNe]
  ·clear hK2
   simp only [go_sem, reduceAdd, reduceLT, reduceLeDiff, reduceEqDiff, Nat.reduceBEq, Nat.reduceBNe]
   refine lpJ 26 fuel (fun q1 w => ∀ (v3 : Int), slices_Equal_Lint_int_l1 s1 s2 K2 q1 v3 = some r → w [(0, .sl none (List.map (AV.int .i64) s1)), (1, .sl none (List.map (AV.int .i64) s2)), (12, .int .i64 (s1.length : Int)), (13, .int .i64 v3)] []) (fun w _ h => nomatch h) (fun q1 ih1 v3 h => ?_) (fun L1 => ?_)
   ·unfold slices_Equal_Lint_int_l1 at h
    refine runL 10000 ?_
    simp only [go_sem, reduceAdd, reduceLT, reduceLeDiff, reduceEqDiff, Nat.reduceBEq, Nat.reduceBNe]
    refine cnd_s 10000 h (fun hb h => ?_) (fun hb h => ?_)
    ·simp only [go_sem, reduceAdd, reduceLT, reduceLeDiff, reduceEqDiff, Nat.reduceBEq, Nat.reduceBNe]
     refine blk_ 10000 ?_
     simp only [go_sem, reduceAdd, reduceLT, reduceLeDiff, reduceEqDiff, Nat.reduceBEq, Nat.reduceBNe]
     refine rg_ 10000 (.inr ⟨[], by kernel_rfl, by kernel_rfl, by rfl⟩) ?_
     refine lAt_s (AV.int .i64) none .i64 ⟨3, 1, false, 8⟩ (fun _ => rfl) h fun v6 _ b4 e5 h => ?_
     refine lAt_s (AV.int .i64) none .i64 ⟨3, 1, false, 8⟩ (fun _ => rfl) h fun v9 _ b7 e8 h => ?_
     simp only [go_sem, reduceAdd, reduceLT, reduceLeDiff, reduceEqDiff, Nat.reduceBEq, Nat.reduceBNe, b4, e5, b7, e8]
     refine cnd_s 10000 h (fun hb h => ?_) (fun hb h => ?_)
     ·simp only [go_sem, reduceAdd, reduceLT, reduceLeDiff, reduceEqDiff, Nat.reduceBEq, Nat.reduceBNe]
      refine ret_s (fun x => .bool x) h ?_
      first | rfl | simp only [go_sem, resAV, resAll, resOne, reduceAdd, reduceLT, reduceLeDiff, reduceEqDiff, Nat.reduceBEq, Nat.reduceBNe]
     ·refine add_s h fun v11 _ e10 h => ?_
      simp only [go_sem, reduceAdd, reduceLT, reduceLeDiff, reduceEqDiff, Nat.reduceBEq, Nat.reduceBNe, e10]
      exact lp_back (ih1 v11 h) ⟨rfl, rfl, rfl, rfl, trivial⟩
    ·simp only [go_sem, reduceAdd, reduceLT, reduceLeDiff, reduceEqDiff, Nat.reduceBEq, Nat.reduceBNe]
     exact atJ (wkn (JK2  h) trivial)
   ·exact lp_back (L1 0 h) ⟨rfl, rfl, rfl, rfl, trivial⟩
theorem w_tree_Node_same {n : tree_Node} {o : tree_Node}   {r : Bool} (h : tree_Node_same n o = some r) : ACall Tryz.prog 73 [enc_tree_Node n, enc_tree_Node o] [] (.bool r) [] := by
 refine acallX 10000 hf73 ok73 (by first | rfl | simp only [go_sem]) meek_bool ?_
 dsimp only [Tryz.f73, nums, Option.getD, List.append]
 unfold tree_Node_same at h
 simp only [go_sem, reduceAdd, reduceLT, reduceLeDiff, reduceEqDiff, Nat.reduceBEq, Nat.reduceBNe]
 refine bsome h fun y1 hy1 h => ?_
 refine rgJ 38 10000 (.inl rfl) (fun w => w [(4, .bool y1)] [some [.int .u8 n.K, .str n.S, .int .i64 n.N, .sl none (List.map AV.str n.L), .sl none (List.map (AV.int .i64) n.Kids)], some [.int .u8 o.K, .str o.S, .int .i64 o.N, .sl none (List.map AV.str o.L), .sl none (List.map (AV.int .i64) o.Kids)]]) (runX 10000 ?_) (fun Jy1 => ?_)
 ·clear hy1
  simp only [go_sem, reduceAdd, reduceLT, reduceLeDiff, reduceEqDiff, Nat.reduceBEq, Nat.reduceBNe]
  refine ret_s (fun x => .bool x) h ?_
  first | rfl | simp only [go_sem, resAV, resAll, resOne, reduceAdd, reduceLT, reduceLeDiff, reduceEqDiff, Nat.reduceBEq, Nat.reduceBNe]
 ·clear h
  have h := hy1
  simp only [go_sem, reduceAdd, reduceLT, reduceLeDiff, reduceEqDiff, Nat.reduceBEq, Nat.reduceBNe]
  refine grd_ (fun hb3 => ?_) (fun hb3 => ?_)
  ·have h := ite_t hb3 h
   simp only [go_sem, reduceAdd, reduceLT, reduceLeDiff, reduceEqDiff, Nat.reduceBEq, Nat.reduceBNe]
   refine grd_ (fun hb4 => ?_) (fun hb4 => ?_)
   ·have h := ite_t hb4 h
    simp only [go_sem, reduceAdd, reduceLT, reduceLeDiff, reduceEqDiff, Nat.reduceBEq, Nat.reduceBNe]
    refine grd_ (fun hb5 => ?_) (fun hb5 => ?_)
    ·have h := ite_t hb5 h
     refine bsome h fun v6 hv6 h => ?_
     simp only [go_sem, reduceAdd, reduceLT, reduceLeDiff, reduceEqDiff, Nat.reduceBEq, Nat.reduceBNe]
     refine callX_ 10000 (w_slices_Equal_Lstring_string  hv6) (by first | rfl | simp only [go_sem]) (by first | rfl | simp only [go_sem]) ?_
     simp only [go_sem, reduceAdd, reduceLT, reduceLeDiff, reduceEqDiff, Nat.reduceBEq, Nat.reduceBNe]
     refine grd_ (fun hb7 => ?_) (fun hb7 => ?_)
     ·have h := ite_t hb7 h
      refine bsome h fun v8 hv8 h => ?_
      simp only [go_sem, reduceAdd, reduceLT, reduceLeDiff, reduceEqDiff, Nat.reduceBEq, Nat.reduceBNe]
      refine callX_ 10000 (w_slices_Equal_Lint_int  hv8) (by first | rfl | simp only [go_sem]) (by first | rfl | simp only [go_sem]) ?_
      simp only [go_sem, reduceAdd, reduceLT, reduceLeDiff, reduceEqDiff, Nat.reduceBEq, Nat.reduceBNe]
      obtain rfl := Option.some.inj h
      exact atJ (wkn (Jy1) ⟨rfl, trivial⟩)
     ·have h := ite_f hb7 h
      simp only [go_sem, reduceAdd, reduceLT, reduceLeDiff, reduceEqDiff, Nat.reduceBEq, Nat.reduceBNe]
      obtain rfl := Option.some.inj h
      exact atJ (wkn (Jy1) ⟨rfl, trivial⟩)
    ·have h := ite_f hb5 h
     simp only [go_sem, reduceAdd, reduceLT, reduceLeDiff, reduceEqDiff, Nat.reduceBEq, Nat.reduceBNe]
     obtain rfl := Option.some.inj h
     exact atJ (wkn (Jy1) ⟨rfl, trivial⟩)
   ·have h := ite_f hb4 h
    simp only [go_sem, reduceAdd, reduceLT, reduceLeDiff, reduceEqDiff, Nat.reduceBEq, Nat.reduceBNe]
    obtain rfl := Option.some.inj h
    exact atJ (wkn (Jy1) ⟨rfl, trivial⟩)
  ·have h := ite_f hb3 h
   simp only [go_sem, reduceAdd, reduceLT, reduceLeDiff, reduceEqDiff, Nat.reduceBEq, Nat.reduceBNe]
   obtain rfl := Option.some.inj h
   exact atJ (wkn (Jy1) ⟨rfl, trivial⟩)
theorem w_tree_Same {a : tree_Method} {p1_b : tree_Method}   {r : Bool} (h : tree_Same a p1_b = some r) : ACall Tryz.prog 29 [enc_tree_Method a, enc_tree_Method p1_b] [] (.bool r) [] := by
 refine acallX 10000 hf29 ok29 (by first | rfl | simp only [go_sem]) meek_bool ?_
 dsimp only [Tryz.f29, nums, Option.getD, List.append]
 unfold tree_Same at h
 simp only [go_sem, reduceAdd, reduceLT, reduceLeDiff, reduceEqDiff, Nat.reduceBEq, Nat.reduceBNe]
 refine bsome h fun y1 hy1 h => ?_
 refine rgJ 38 10000 (.inl rfl) (fun w => w [(4, .bool y1)] [some [.str a.Sel, .sl none (List.map AV.str a.Args), .sl none (List.map AV.str a.Temps), .sl none (List.map enc_tree_Node a.Nodes), .sl none (List.map (AV.int .i64) a.Body)], some [.str p1_b.Sel, .sl none (List.map AV.str p1_b.Args), .sl none (List.map AV.str p1_b.Temps), .sl none (List.map enc_tree_Node p1_b.Nodes), .sl none (List.map (AV.int .i64) p1_b.Body)]]) (runX 10000 ?_) (fun Jy1 => ?_)
 ·clear hy1
  simp only [go_sem, reduceAdd, reduceLT, reduceLeDiff, reduceEqDiff, Nat.reduceBEq, Nat.reduceBNe]
  refine ret_s (fun x => .bool x) h ?_
  first | rfl | simp only [go_sem, resAV, resAll, resOne, reduceAdd, reduceLT, reduceLeDiff, reduceEqDiff, Nat.reduceBEq, Nat.reduceBNe]
 ·clear h
  have h := hy1
  simp only [go_sem, reduceAdd, reduceLT, reduceLeDiff, reduceEqDiff, Nat.reduceBEq, Nat.reduceBNe]
  refine grd_ (fun hb3 => ?_) (fun hb3 => ?_)
  ·have h := ite_t hb3 h
   refine bsome h fun v4 hv4 h => ?_
   simp only [go_sem, reduceAdd, reduceLT, reduceLeDiff, reduceEqDiff, Nat.reduceBEq, Nat.reduceBNe]
   refine callX_ 10000 (w_slices_Equal_Lstring_string  hv4) (by first | rfl | simp only [go_sem]) (by first | rfl | simp only [go_sem]) ?_
   simp only [go_sem, reduceAdd, reduceLT, reduceLeDiff, reduceEqDiff, Nat.reduceBEq, Nat.reduceBNe]
   refine grd_ (fun hb5 => ?_) (fun hb5 => ?_)
   ·have h := ite_t hb5 h
    refine bsome h fun v6 hv6 h => ?_
    simp only [go_sem, reduceAdd, reduceLT, reduceLeDiff, reduceEqDiff, Nat.reduceBEq, Nat.reduceBNe]
    refine callX_ 10000 (w_slices_Equal_Lstring_string  hv6) (by first | rfl | simp only [go_sem]) (by first | rfl | simp only [go_sem]) ?_
    simp only [go_sem, reduceAdd, reduceLT, reduceLeDiff, reduceEqDiff, Nat.reduceBEq, Nat.reduceBNe]
    refine grd_ (fun hb7 => ?_) (fun hb7 => ?_)
    ·have h := ite_t hb7 h
     refine bsome h fun v8 hv8 h => ?_
     simp only [go_sem, reduceAdd, reduceLT, reduceLeDiff, reduceEqDiff, Nat.reduceBEq, Nat.reduceBNe]
     refine callX_ 10000 (w_slices_EqualFunc_Ltree_Node_Ltree_Node_tree_Node_tree_Node 73 (fun _ _ _ h => w_tree_Node_same h) hv8) (by first | rfl | simp only [go_sem]) (by first | rfl | simp only [go_sem]) ?_
     simp only [go_sem, reduceAdd, reduceLT, reduceLeDiff, reduceEqDiff, Nat.reduceBEq, Nat.reduceBNe]
     refine grd_ (fun hb9 => ?_) (fun hb9 => ?_)
     ·have h := ite_t hb9 h
      refine bsome h fun v10 hv10 h => ?_
      simp only [go_sem, reduceAdd, reduceLT, reduceLeDiff, reduceEqDiff, Nat.reduceBEq, Nat.reduceBNe]
      refine callX_ 10000 (w_slices_Equal_Lint_int  hv10) (by first | rfl | simp only [go_sem]) (by first | rfl | simp only [go_sem]) ?_
      simp only [go_sem, reduceAdd, reduceLT, reduceLeDiff, reduceEqDiff, Nat.reduceBEq, Nat.reduceBNe]
      obtain rfl := Option.some.inj h
      exact atJ (wkn (Jy1) ⟨rfl, trivial⟩)
     ·have h := ite_f hb9 h
      simp only [go_sem, reduceAdd, reduceLT, reduceLeDiff, reduceEqDiff, Nat.reduceBEq, Nat.reduceBNe]
      obtain rfl := Option.some.inj h
      exact atJ (wkn (Jy1) ⟨rfl, trivial⟩)
    ·have h := ite_f hb7 h
     simp only [go_sem, reduceAdd, reduceLT, reduceLeDiff, reduceEqDiff, Nat.reduceBEq, Nat.reduceBNe]
     obtain rfl := Option.some.inj h
     exact atJ (wkn (Jy1) ⟨rfl, trivial⟩)
   ·have h := ite_f hb5 h
    simp only [go_sem, reduceAdd, reduceLT, reduceLeDiff, reduceEqDiff, Nat.reduceBEq, Nat.reduceBNe]
    obtain rfl := Option.some.inj h
    exact atJ (wkn (Jy1) ⟨rfl, trivial⟩)
  ·have h := ite_f hb3 h
   simp only [go_sem, reduceAdd, reduceLT, reduceLeDiff, reduceEqDiff, Nat.reduceBEq, Nat.reduceBNe]
   obtain rfl := Option.some.inj h
   exact atJ (wkn (Jy1) ⟨rfl, trivial⟩)
theorem w_law14_texts {a : (List Str)} {p1_b : (List Str)}   {r : Bool} (h : law14_texts a p1_b = some r) : ACall Tryz.prog 31 [.sl none (List.map AV.str a), .sl none (List.map AV.str p1_b)] [] (.bool r) [] := by
 refine acallX 10000 hf31 ok31 (by first | rfl | simp only [go_sem]) meek_bool ?_
 dsimp only [Tryz.f31, nums, Option.getD, List.append]
 unfold law14_texts at h
 simp only [go_sem, reduceAdd, reduceLT, reduceLeDiff, reduceEqDiff, Nat.reduceBEq, Nat.reduceBNe]
 refine cnd_s 10000 h (fun hb h => ?_) (fun hb h => ?_)
 ·simp only [go_sem, reduceAdd, reduceLT, reduceLeDiff, reduceEqDiff, Nat.reduceBEq, Nat.reduceBNe]
  refine ret_s (fun x => .bool x) h ?_
  first | rfl | simp only [go_sem, resAV, resAll, resOne, reduceAdd, reduceLT, reduceLeDiff, reduceEqDiff, Nat.reduceBEq, Nat.reduceBNe]
 ·simp only [go_sem, reduceAdd, reduceLT, reduceLeDiff, reduceEqDiff, Nat.reduceBEq, Nat.reduceBNe]
  refine letK_s h fun K2 hK2 h => ?_
  refine blkJ 26 10000 (fun w => K2 () = some r → w [] []) (fun  h => runX 10000 ?_) (fun JK2 => ?_)
  ·subst hK2
   dsimp only at h
   simp only [go_sem, reduceAdd, reduceLT, reduceLeDiff, reduceEqDiff, Nat.reduceBEq, Nat.reduceBNe]
   refine ret_s (fun x => .bool x) h ?_
   first | rfl | simp only [go_sem, resAV, resAll, resOne, reduceAdd, reduceLT, reduceLeDiff, reduceEqDiff, Nat.reduceBEq, Nat.reduceBNe]
  ·clear hK2
   simp only [go_sem, reduceAdd, reduceLT, reduceLeDiff, reduceEqDiff, Nat.reduceBEq, Nat.reduceBNe]
   refine lpJ 26 fuel (fun q1 w => ∀ (v3 : Int), law14_texts_l1 a p1_b K2 q1 v3 = some r → w [(0, .sl none (List.map AV.str a)), (1, .sl none (List.map AV.str p1_b)), (5, .int .i64 v3)] []) (fun w _ h => nomatch h) (fun q1 ih1 v3 h => ?_) (fun L1 => ?_)
   ·unfold law14_texts_l1 at h
    refine runL 10000 ?_
    simp only [go_sem, reduceAdd, reduceLT, reduceLeDiff, reduceEqDiff, Nat.reduceBEq, Nat.reduceBNe]
    refine cnd_s 10000 h (fun hb h => ?_) (fun hb h => ?_)
    ·simp only [go_sem, reduceAdd, reduceLT, reduceLeDiff, reduceEqDiff, Nat.reduceBEq, Nat.reduceBNe]
     refine blk_ 10000 ?_
     simp only [go_sem, reduceAdd, reduceLT, reduceLeDiff, reduceEqDiff, Nat.reduceBEq, Nat.reduceBNe]
     refine rg_ 10000 (.inr ⟨[], by kernel_rfl, by kernel_rfl, by rfl⟩) ?_
     refine lAt_s AV.str none .i64 ⟨9, 1, false, 16⟩ (fun _ => rfl) h fun v6 _ b4 e5 h => ?_
     refine lAt_s AV.str none .i64 ⟨9, 1, false, 16⟩ (fun _ => rfl) h fun v9 _ b7 e8 h => ?_
     simp only [go_sem, reduceAdd, reduceLT, reduceLeDiff, reduceEqDiff, Nat.reduceBEq, Nat.reduceBNe, b4, e5, b7, e8]
     refine cnd_s 10000 h (fun hb h => ?_) (fun hb h => ?_)
     ·simp only [go_sem, reduceAdd, reduceLT, reduceLeDiff, reduceEqDiff, Nat.reduceBEq, Nat.reduceBNe]
      refine ret_s (fun x => .bool x) h ?_
      first | rfl | simp only [go_sem, resAV, resAll, resOne, reduceAdd, reduceLT, reduceLeDiff, reduceEqDiff, Nat.reduceBEq, Nat.reduceBNe]
     ·refine add_s h fun v11 _ e10 h => ?_
      simp only [go_sem, reduceAdd, reduceLT, reduceLeDiff, reduceEqDiff, Nat.reduceBEq, Nat.reduceBNe, e10]
      exact lp_back (ih1 v11 h) ⟨rfl, rfl, rfl, trivial⟩
    ·simp only [go_sem, reduceAdd, reduceLT, reduceLeDiff, reduceEqDiff, Nat.reduceBEq, Nat.reduceBNe]
     exact atJ (wkn (JK2  h) trivial)
   ·exact lp_back (L1 0 h) ⟨rfl, rfl, rfl, trivial⟩
def R_tree_Method_free_ok (rec : R_tree_Method_free) : Prop := (∀ (m : tree_Method) (i : Int) (own : (List Str)) (r : (List Str)), rec.tree_Method_free m i own = some r → ACall Tryz.prog 77 [enc_tree_Method m, .int .i64 i, .sl none (List.map AV.str own)] [] (.sl none (List.map AV.str r)) [])
theorem w_tree_Method_free_b {rec : R_tree_Method_free} (hrec : R_tree_Method_free_ok rec) {m : tree_Method} {i : Int} {own : (List Str)}   {r : (List Str)} (h : tree_Method_free_b rec m i own = some r) : ACall Tryz.prog 77 [enc_tree_Method m, .int .i64 i, .sl none (List.map AV.str own)] [] (.sl none (List.map AV.str r)) [] := by
 refine acallX 10000 hf77 ok77 (by first | rfl | simp only [go_sem]) meek_sl ?_
 dsimp only [Tryz.f77, nums, Option.getD, List.append]
 unfold tree_Method_free_b at h
 refine lAt_s enc_tree_Node none .i64 ⟨59, 5, true, 80⟩ (fun _ => rfl) h fun v3 _ b1 e2 h => ?_
 simp only [go_sem, reduceAdd, reduceLT, reduceLeDiff, reduceEqDiff, Nat.reduceBEq, Nat.reduceBNe, b1, e2]
 refine bsome h fun y4 hy4 h => ?_
 refine cndJ 59 10000 (fun w => w [(2, .sl none (List.map AV.str y4)), (3, .ptr 0 0), (7, .ptr 1 0)] [some [.str m.Sel, .sl none (List.map AV.str m.Args), .sl none (List.map AV.str m.Temps), .sl none (List.map enc_tree_Node m.Nodes), .sl none (List.map (AV.int .i64) m.Body)], some [.int .u8 v3.K, .str v3.S, .int .i64 v3.N, .sl none (List.map AV.str v3.L), .sl none (List.map (AV.int .i64) v3.Kids)]]) (runX 10000 ?_) (fun Jy4 => ?_)
 ·clear hy4
  simp only [go_sem, reduceAdd, reduceLT, reduceLeDiff, reduceEqDiff, Nat.reduceBEq, Nat.reduceBNe]
  refine bsome h fun y7 hy7 h => ?_
  refine rgJ 59 10000 (.inl rfl) (fun w => w [(2, .sl none (List.map AV.str y4)), (3, .ptr 0 0), (7, .ptr 1 0), (8, .sl (some none) []), (38, .bool y7)] [some [.str m.Sel, .sl none (List.map AV.str m.Args), .sl none (List.map AV.str m.Temps), .sl none (List.map enc_tree_Node m.Nodes), .sl none (List.map (AV.int .i64) m.Body)], some [.int .u8 v3.K, .str v3.S, .int .i64 v3.N, .sl none (List.map AV.str v3.L), .sl none (List.map (AV.int .i64) v3.Kids)]]) (runX 10000 ?_) (fun Jy7 => ?_)
  ·clear hy7
   simp only [go_sem, reduceAdd, reduceLT, reduceLeDiff, reduceEqDiff, Nat.reduceBEq, Nat.reduceBNe]
   refine bsome h fun y13 hy13 h => ?_
   refine cndJ 59 10000 (fun w => w [(2, .sl none (List.map AV.str y4)), (3, .ptr 0 0), (7, .ptr 1 0), (8, .sl (some none) (List.map AV.str y13))] [some [.str m.Sel, .sl none (List.map AV.str m.Args), .sl none (List.map AV.str m.Temps), .sl none (List.map enc_tree_Node m.Nodes), .sl none (List.map (AV.int .i64) m.Body)], some [.int .u8 v3.K, .str v3.S, .int .i64 v3.N, .sl none (List.map AV.str v3.L), .sl none (List.map (AV.int .i64) v3.Kids)]]) (runX 10000 ?_) (fun Jy13 => ?_)
   ·clear hy13
    simp only [go_sem, reduceAdd, reduceLT, reduceLeDiff, reduceEqDiff, Nat.reduceBEq, Nat.reduceBNe]
    refine bsome h fun y18 hy18 h => ?_
    refine blkJ 59 10000 (fun w => w [(8, .sl (some none) (List.map AV.str y18))] [some [.str m.Sel, .sl none (List.map AV.str m.Args), .sl none (List.map AV.str m.Temps), .sl none (List.map enc_tree_Node m.Nodes), .sl none (List.map (AV.int .i64) m.Body)], some [.int .u8 v3.K, .str v3.S, .int .i64 v3.N, .sl none (List.map AV.str v3.L), .sl none (List.map (AV.int .i64) v3.Kids)]]) (runX 10000 ?_) (fun Jy18 => ?_)
    ·clear hy18
     simp only [go_sem, reduceAdd, reduceLT, reduceLeDiff, reduceEqDiff, Nat.reduceBEq, Nat.reduceBNe]
     refine ret_s (fun x => .sl none (List.map AV.str x)) h ?_
     first | rfl | simp only [go_sem, resAV, resAll, resOne, reduceAdd, reduceLT, reduceLeDiff, reduceEqDiff, Nat.reduceBEq, Nat.reduceBNe]
    ·clear h
     have h := hy18
     simp only [go_sem, reduceAdd, reduceLT, reduceLeDiff, reduceEqDiff, Nat.reduceBEq, Nat.reduceBNe]
     refine lpJ 59 fuel (fun q1 w => ∀ (v20 : (List Str)) (v21 : Int), tree_Method_free_l1 m rec v3 y4 q1 v20 v21 = some y18 → w [(2, .sl none (List.map AV.str y4)), (3, .ptr 0 0), (8, .sl (some none) (List.map AV.str v20)), (45, .sl none (List.map (AV.int .i64) v3.Kids)), (46, .int .i64 (v3.Kids.length : Int)), (47, .int .i64 v21)] [some [.str m.Sel, .sl none (List.map AV.str m.Args), .sl none (List.map AV.str m.Temps), .sl none (List.map enc_tree_Node m.Nodes), .sl none (List.map (AV.int .i64) m.Body)], some [.int .u8 v3.K, .str v3.S, .int .i64 v3.N, .sl none (List.map AV.str v3.L), .sl none (List.map (AV.int .i64) v3.Kids)]]) (fun w _ _ h => nomatch h) (fun q1 ih1 v20 v21 h => ?_) (fun L1 => ?_)
     ·unfold tree_Method_free_l1 at h
      refine runL 10000 ?_
      simp only [go_sem, reduceAdd, reduceLT, reduceLeDiff, reduceEqDiff, Nat.reduceBEq, Nat.reduceBNe]
      refine cnd_s 10000 h (fun hb h => ?_) (fun hb h => ?_)
      ·simp only [go_sem, reduceAdd, reduceLT, reduceLeDiff, reduceEqDiff, Nat.reduceBEq, Nat.reduceBNe]
       refine blk_ 10000 ?_
       refine lAt_s (AV.int .i64) none .i64 ⟨3, 1, false, 8⟩ (fun _ => rfl) h fun v24 _ b22 e23 h => ?_
       refine bsome h fun v25 hv25 h => ?_
       simp only [go_sem, reduceAdd, reduceLT, reduceLeDiff, reduceEqDiff, Nat.reduceBEq, Nat.reduceBNe, b22, e23]
       refine callX_ 10000 (hrec _ _ _ _ hv25) (by first | rfl | simp only [go_sem]) (by first | rfl | simp only [go_sem]) ?_
       refine app_s AV.str none ⟨9, 1, false, 16⟩ (fun _ => rfl) (by decide) rfl h fun v28 _ b26 e27 h => ?_
       refine add_s h fun v30 _ e29 h => ?_
       simp only [go_sem, reduceAdd, reduceLT, reduceLeDiff, reduceEqDiff, Nat.reduceBEq, Nat.reduceBNe, b26, e27, e29]
       exact lp_back (ih1 v28 v30 h) ⟨rfl, rfl, rfl, rfl, rfl, rfl, trivial⟩
      ·simp only [go_sem, reduceAdd, reduceLT, reduceLeDiff, reduceEqDiff, Nat.reduceBEq, Nat.reduceBNe]
       obtain rfl := Option.some.inj h
       exact atJ (wkn (Jy18) ⟨rfl, trivial⟩)
     ·exact lp_back (L1 y13 0 h) ⟨rfl, rfl, rfl, rfl, rfl, rfl, trivial⟩
   ·clear h
    have h := hy13
    refine cnd_s 10000 h (fun hb h => ?_) (fun hb h => ?_)
    ·refine app_s AV.str (some none) ⟨9, 1, false, 16⟩ (fun _ => rfl) (by decide) rfl h fun v17 _ (b15 : appc ⟨9, 1, false, 16⟩ (.sl (some none) []) (.sl (some none) [.str v3.S])) (e16 : appv (.sl (some none) []) (.sl (some none) [.str v3.S]) = .sl (some none) (List.map AV.str v17)) h => ?_
     simp only [go_sem, reduceAdd, reduceLT, reduceLeDiff, reduceEqDiff, Nat.reduceBEq, Nat.reduceBNe, b15, e16]
     obtain rfl := Option.some.inj h
     exact atJ (wkn (Jy13) ⟨rfl, rfl, rfl, rfl, trivial⟩)
    ·simp only [go_sem, reduceAdd, reduceLT, reduceLeDiff, reduceEqDiff, Nat.reduceBEq, Nat.reduceBNe]
     obtain rfl := Option.some.inj h
     exact atJ (wkn (Jy13) ⟨rfl, rfl, rfl, rfl, trivial⟩)
  ·clear h
   have h := hy7
   simp only [go_sem, reduceAdd, reduceLT, reduceLeDiff, reduceEqDiff, Nat.reduceBEq, Nat.reduceBNe]
   refine grd_ (fun hb9 => ?_) (fun hb9 => ?_)
   ·have h := ite_f hb9 h
    simp only [go_sem, reduceAdd, reduceLT, reduceLeDiff, reduceEqDiff, Nat.reduceBEq, Nat.reduceBNe]
    refine grd_ (fun hb10 => ?_) (fun hb10 => ?_)
    ·have h := ite_t hb10 h
     refine bsome h fun v11 hv11 h => ?_
     simp only [go_sem, reduceAdd, reduceLT, reduceLeDiff, reduceEqDiff, Nat.reduceBEq, Nat.reduceBNe]
     refine callX_ 10000 (w_slices_Contains_Lstring_string  hv11) (by first | rfl | simp only [go_sem]) (by first | rfl | simp only [go_sem]) ?_
     simp only [go_sem, reduceAdd, reduceLT, reduceLeDiff, reduceEqDiff, Nat.reduceBEq, Nat.reduceBNe]
     obtain rfl := Option.some.inj h
     exact atJ (wkn (Jy7) ⟨rfl, rfl, rfl, rfl, rfl, trivial⟩)
    ·have h := ite_f hb10 h
     simp only [go_sem, reduceAdd, reduceLT, reduceLeDiff, reduceEqDiff, Nat.reduceBEq, Nat.reduceBNe]
     obtain rfl := Option.some.inj h
     exact atJ (wkn (Jy7) ⟨rfl, rfl, rfl, rfl, rfl, trivial⟩)
   ·have h := ite_t hb9 h
    refine bsome h fun v12 hv12 h => ?_
    simp only [go_sem, reduceAdd, reduceLT, reduceLeDiff, reduceEqDiff, Nat.reduceBEq, Nat.reduceBNe]
    refine callX_ 10000 (w_slices_Contains_Lstring_string  hv12) (by first | rfl | simp only [go_sem]) (by first | rfl | simp only [go_sem]) ?_
    simp only [go_sem, reduceAdd, reduceLT, reduceLeDiff, reduceEqDiff, Nat.reduceBEq, Nat.reduceBNe]
    obtain rfl := Option.some.inj h
    exact atJ (wkn (Jy7) ⟨rfl, rfl, rfl, rfl, rfl, trivial⟩)
 ·clear h
  have h := hy4
  refine cnd_s 10000 h (fun hb h => ?_) (fun hb h => ?_)
  ·refine bsome h fun v6 hv6 h => ?_
   simp only [go_sem, reduceAdd, reduceLT, reduceLeDiff, reduceEqDiff, Nat.reduceBEq, Nat.reduceBNe]
   refine callX_ 10000 (w_slices_Concat_Lstring_string  hv6) (by first | rfl | simp only [go_sem]) (by first | rfl | simp only [go_sem]) ?_
   simp only [go_sem, reduceAdd, reduceLT, reduceLeDiff, reduceEqDiff, Nat.reduceBEq, Nat.reduceBNe]
   obtain rfl := Option.some.inj h
   exact atJ (wkn (Jy4) ⟨rfl, rfl, rfl, trivial⟩)
  ·simp only [go_sem, reduceAdd, reduceLT, reduceLeDiff, reduceEqDiff, Nat.reduceBEq, Nat.reduceBNe]
   obtain rfl := Option.some.inj h
   exact atJ (wkn (Jy4) ⟨rfl, rfl, rfl, trivial⟩)
theorem R_tree_Method_free_all : ∀ n, R_tree_Method_free_ok (R_tree_Method_free_n n)
 | 0 => fun _ _ _ _ h => nomatch h
 | n+1 => fun _ _ _ _ h => w_tree_Method_free_b (R_tree_Method_free_all n) h
theorem w_tree_Method_free {m : tree_Method} {i : Int} {own : (List Str)} {r : (List Str)} (h : tree_Method_free m i own = some r) : ACall Tryz.prog 77 [enc_tree_Method m, .int .i64 i, .sl none (List.map AV.str own)] [] (.sl none (List.map AV.str r)) [] := (R_tree_Method_free_all fuel) _ _ _ _ h
theorem w_tree_Free {m : tree_Method}   {r : (List Str)} (h : tree_Free m = some r) : ACall Tryz.prog 32 [enc_tree_Method m] [] (.sl none (List.map AV.str r)) [] := by
 refine acallX 10000 hf32 ok32 (by first | rfl | simp only [go_sem]) meek_sl ?_
 dsimp only [Tryz.f32, nums, Option.getD, List.append]
 unfold tree_Free at h
 refine bsome h fun v1 hv1 h => ?_
 simp only [go_sem, reduceAdd, reduceLT, reduceLeDiff, reduceEqDiff, Nat.reduceBEq, Nat.reduceBNe]
 refine callX_ 10000 (w_tree_Check  hv1) (by first | rfl | simp only [go_sem]) (by first | rfl | simp only [go_sem]) ?_
 simp only [go_sem, reduceAdd, reduceLT, reduceLeDiff, reduceEqDiff, Nat.reduceBEq, Nat.reduceBNe]
 refine cnd_s 10000 h (fun hb h => ?_) (fun hb h => ?_)
 ·simp only [go_sem, reduceAdd, reduceLT, reduceLeDiff, reduceEqDiff, Nat.reduceBEq, Nat.reduceBNe]
  refine ret_s (fun x => .sl none (List.map AV.str x)) h ?_
  first | rfl | simp only [go_sem, resAV, resAll, resOne, reduceAdd, reduceLT, reduceLeDiff, reduceEqDiff, Nat.reduceBEq, Nat.reduceBNe]
 ·simp only [go_sem, reduceAdd, reduceLT, reduceLeDiff, reduceEqDiff, Nat.reduceBEq, Nat.reduceBNe]
  refine prom_blk 3 1 false rfl (by first | rfl | simp only [go_sem]) rfl ?_
  refine bsome h fun y2 hy2 h => ?_
  refine blkJ 30 10000 (fun w => w [(3, .rs 1 0 y2.length 1 false false)] [some [.str m.Sel, .sl none (List.map AV.str m.Args), .sl none (List.map AV.str m.Temps), .sl none (List.map enc_tree_Node m.Nodes), .sl none (List.map (AV.int .i64) m.Body)], some (List.map AV.str y2)]) (runX 10000 ?_) (fun Jy2 => ?_)
  ·clear hy2
   simp only [go_sem, reduceAdd, reduceLT, reduceLeDiff, reduceEqDiff, Nat.reduceBEq, Nat.reduceBNe]
   refine mvR_ 10000 rfl (by first | rfl | simp only [go_sem]) ?_
   refine bsome h fun v29 hv29 h => ?_
   simp only [go_sem, reduceAdd, reduceLT, reduceLeDiff, reduceEqDiff, Nat.reduceBEq, Nat.reduceBNe]
   refine callE_ 10000 1 AV.str plain_str (w_tree_sorted hv29 rfl) (by first | rfl | simp only [go_sem]) (by first | rfl | simp only [go_sem]) (by first | rfl | simp only [go_sem]) ?_
   simp only [go_sem, reduceAdd, reduceLT, reduceLeDiff, reduceEqDiff, Nat.reduceBEq, Nat.reduceBNe]
   refine ret_s (fun x => .sl none (List.map AV.str x)) h ?_
   first | rfl | simp only [go_sem, resAV, resAll, resOne, reduceAdd, reduceLT, reduceLeDiff, reduceEqDiff, Nat.reduceBEq, Nat.reduceBNe]
  ·clear h
   have h := hy2
   simp only [go_sem, reduceAdd, reduceLT, reduceLeDiff, reduceEqDiff, Nat.reduceBEq, Nat.reduceBNe]
   refine lpJ 30 fuel (fun q1 w => ∀ (v16 : Int) (v17 : (List Str)), tree_Free_l1 m q1 v16 v17 = some y2 → w [(1, .ptr 0 0), (3, .rs 1 0 v17.length 1 false false), (10, .sl none (List.map (AV.int .i64) m.Body)), (11, .int .i64 (m.Body.length : Int)), (12, .int .i64 v16)] [some [.str m.Sel, .sl none (List.map AV.str m.Args), .sl none (List.map AV.str m.Temps), .sl none (List.map enc_tree_Node m.Nodes), .sl none (List.map (AV.int .i64) m.Body)], some (List.map AV.str v17)]) (fun w _ _ h => nomatch h) (fun q1 ih1 v16 v17 h => ?_) (fun L1 => ?_)
   ·unfold tree_Free_l1 at h
    refine runL 10000 ?_
    simp only [go_sem, reduceAdd, reduceLT, reduceLeDiff, reduceEqDiff, Nat.reduceBEq, Nat.reduceBNe]
    refine cnd_s 10000 h (fun hb h => ?_) (fun hb h => ?_)
    ·simp only [go_sem, reduceAdd, reduceLT, reduceLeDiff, reduceEqDiff, Nat.reduceBEq, Nat.reduceBNe]
     refine blk_ 10000 ?_
     refine lAt_s (AV.int .i64) none .i64 ⟨3, 1, false, 8⟩ (fun _ => rfl) h fun v20 _ b18 e19 h => ?_
     simp only [go_sem, reduceAdd, reduceLT, reduceLeDiff, reduceEqDiff, Nat.reduceBEq, Nat.reduceBNe, b18, e19]
     refine rg_ 10000 (.inr ⟨[], by kernel_rfl, by kernel_rfl, by rfl⟩) ?_
     refine bsome h fun v21 hv21 h => ?_
     simp only [go_sem, reduceAdd, reduceLT, reduceLeDiff, reduceEqDiff, Nat.reduceBEq, Nat.reduceBNe]
     refine callX_ 10000 (w_slices_Concat_Lstring_string  hv21) (by first | rfl | simp only [go_sem]) (by first | rfl | simp only [go_sem]) ?_
     refine bsome h fun v22 hv22 h => ?_
     simp only [go_sem, reduceAdd, reduceLT, reduceLeDiff, reduceEqDiff, Nat.reduceBEq, Nat.reduceBNe]
     refine callX_ 10000 (w_tree_Method_free  hv22) (by first | rfl | simp only [go_sem]) (by first | rfl | simp only [go_sem]) ?_
     simp only [go_sem, reduceAdd, reduceLT, reduceLeDiff, reduceEqDiff, Nat.reduceBEq, Nat.reduceBNe]
     refine appB_s AV.str none ⟨9, 1, false, 16⟩ (fun _ => rfl) (by decide) rfl h fun v26 e23 e24 e25 h => ?_
     refine appBD_ 10000 AV.str plain_str (v := v17) (ws := v22) (by kernel_rfl) rfl rfl rfl el22 rfl kd22 (by first | rfl | simp only [go_sem]) (by first | rfl | simp only [go_sem]) (by first | rfl | simp only [go_sem]) e23 e24 e25 (by first | rfl | simp only [go_sem]) rfl rfl ?_
     refine add_s h fun v28 _ e27 h => ?_
     simp only [go_sem, reduceAdd, reduceLT, reduceLeDiff, reduceEqDiff, Nat.reduceBEq, Nat.reduceBNe, e27]
     exact lp_back (ih1 v28 v26 h) ⟨rfl, rfl, rfl, rfl, rfl, trivial⟩
    ·simp only [go_sem, reduceAdd, reduceLT, reduceLeDiff, reduceEqDiff, Nat.reduceBEq, Nat.reduceBNe]
     obtain rfl := Option.some.inj h
     exact atJ (wkn (Jy2) ⟨rfl, trivial⟩)
   ·exact lp_back (L1 0 [] h) ⟨rfl, rfl, rfl, rfl, rfl, trivial⟩
theorem w_tree_Sent {m : tree_Method}   {r : (List Str)} (h : tree_Sent m = some r) : ACall Tryz.prog 34 [enc_tree_Method m] [] (.sl none (List.map AV.str r)) [] := by
 refine acallX 10000 hf34 ok34 (by first | rfl | simp only [go_sem]) meek_sl ?_
 dsimp only [Tryz.f34, nums, Option.getD, List.append]
 unfold tree_Sent at h
 refine bsome h fun v1 hv1 h => ?_
 simp only [go_sem, reduceAdd, reduceLT, reduceLeDiff, reduceEqDiff, Nat.reduceBEq, Nat.reduceBNe]
 refine callX_ 10000 (w_tree_Check  hv1) (by first | rfl | simp only [go_sem]) (by first | rfl | simp only [go_sem]) ?_
 simp only [go_sem, reduceAdd, reduceLT, reduceLeDiff, reduceEqDiff, Nat.reduceBEq, Nat.reduceBNe]
 refine cnd_s 10000 h (fun hb h => ?_) (fun hb h => ?_)
 ·simp only [go_sem, reduceAdd, reduceLT, reduceLeDiff, reduceEqDiff, Nat.reduceBEq, Nat.reduceBNe]
  refine ret_s (fun x => .sl none (List.map AV.str x)) h ?_
  first | rfl | simp only [go_sem, resAV, resAll, resOne, reduceAdd, reduceLT, reduceLeDiff, reduceEqDiff, Nat.reduceBEq, Nat.reduceBNe]
 ·simp only [go_sem, reduceAdd, reduceLT, reduceLeDiff, reduceEqDiff, Nat.reduceBEq, Nat.reduceBNe]
  refine prom_blk 3 1 false rfl (by first | rfl | simp only [go_sem]) rfl ?_
  refine bsome h fun y2 hy2 h => ?_
  refine blkJ 32 10000 (fun w => w [(3, .rs 1 0 y2.length 1 false false)] [some [.str m.Sel, .sl none (List.map AV.str m.Args), .sl none (List.map AV.str m.Temps), .sl none (List.map enc_tree_Node m.Nodes), .sl none (List.map (AV.int .i64) m.Body)], some (List.map AV.str y2)]) (runX 10000 ?_) (fun Jy2 => ?_)
  ·clear hy2
   simp only [go_sem, reduceAdd, reduceLT, reduceLeDiff, reduceEqDiff, Nat.reduceBEq, Nat.reduceBNe]
   refine mvR_ 10000 rfl (by first | rfl | simp only [go_sem]) ?_
   refine bsome h fun v33 hv33 h => ?_
   simp only [go_sem, reduceAdd, reduceLT, reduceLeDiff, reduceEqDiff, Nat.reduceBEq, Nat.reduceBNe]
   refine callE_ 10000 1 AV.str plain_str (w_tree_sorted hv33 rfl) (by first | rfl | simp only [go_sem]) (by first | rfl | simp only [go_sem]) (by first | rfl | simp only [go_sem]) ?_
   simp only [go_sem, reduceAdd, reduceLT, reduceLeDiff, reduceEqDiff, Nat.reduceBEq, Nat.reduceBNe]
   refine ret_s (fun x => .sl none (List.map AV.str x)) h ?_
   first | rfl | simp only [go_sem, resAV, resAll, resOne, reduceAdd, reduceLT, reduceLeDiff, reduceEqDiff, Nat.reduceBEq, Nat.reduceBNe]
  ·clear h
   have h := hy2
   simp only [go_sem, reduceAdd, reduceLT, reduceLeDiff, reduceEqDiff, Nat.reduceBEq, Nat.reduceBNe]
   refine lpJ 32 fuel (fun q1 w => ∀ (v18 : Int) (v19 : (List Str)), tree_Sent_l1 m q1 v18 v19 = some y2 → w [(3, .rs 1 0 v19.length 1 false false), (10, .sl none (List.map enc_tree_Node m.Nodes)), (11, .int .i64 (m.Nodes.length : Int)), (12, .int .i64 v18)] [some [.str m.Sel, .sl none (List.map AV.str m.Args), .sl none (List.map AV.str m.Temps), .sl none (List.map enc_tree_Node m.Nodes), .sl none (List.map (AV.int .i64) m.Body)], some (List.map AV.str v19)]) (fun w _ _ h => nomatch h) (fun q1 ih1 v18 v19 h => ?_) (fun L1 => ?_)
   ·unfold tree_Sent_l1 at h
    refine runL 10000 ?_
    simp only [go_sem, reduceAdd, reduceLT, reduceLeDiff, reduceEqDiff, Nat.reduceBEq, Nat.reduceBNe]
    refine cnd_s 10000 h (fun hb h => ?_) (fun hb h => ?_)
    ·simp only [go_sem, reduceAdd, reduceLT, reduceLeDiff, reduceEqDiff, Nat.reduceBEq, Nat.reduceBNe]
     refine blk_ 10000 ?_
     refine lAt_s enc_tree_Node none .i64 ⟨59, 5, true, 80⟩ (fun _ => rfl) h fun v22 _ b20 e21 h => ?_
     simp only [go_sem, reduceAdd, reduceLT, reduceLeDiff, reduceEqDiff, Nat.reduceBEq, Nat.reduceBNe, b20, e21]
     refine rgJ 32 10000 (.inl rfl) (fun w => w [(3, .rs 1 0 v19.length 1 false false), (5, .ptr 2 0), (10, .sl none (List.map enc_tree_Node m.Nodes)), (11, .int .i64 (m.Nodes.length : Int)), (12, .int .i64 v18), (23, .bool ((decide (v22.K = 9)) || (decide (v22.K = 11))))] [some [.str m.Sel, .sl none (List.map AV.str m.Args), .sl none (List.map AV.str m.Temps), .sl none (List.map enc_tree_Node m.Nodes), .sl none (List.map (AV.int .i64) m.Body)], some (List.map AV.str v19), some [.int .u8 v22.K, .str v22.S, .int .i64 v22.N, .sl none (List.map AV.str v22.L), .sl none (List.map (AV.int .i64) v22.Kids)]]) (runX 10000 ?_) (fun Jg23 => ?_)
     ·simp only [go_sem, reduceAdd, reduceLT, reduceLeDiff, reduceEqDiff, Nat.reduceBEq, Nat.reduceBNe]
      refine bsome h fun y24 hy24 h => ?_
      refine cndJ 32 10000 (fun w => w [(3, .rs 1 0 y24.length 1 false false), (10, .sl none (List.map enc_tree_Node m.Nodes)), (11, .int .i64 (m.Nodes.length : Int)), (12, .int .i64 v18)] [some [.str m.Sel, .sl none (List.map AV.str m.Args), .sl none (List.map AV.str m.Temps), .sl none (List.map enc_tree_Node m.Nodes), .sl none (List.map (AV.int .i64) m.Body)], some (List.map AV.str y24), some [.int .u8 v22.K, .str v22.S, .int .i64 v22.N, .sl none (List.map AV.str v22.L), .sl none (List.map (AV.int .i64) v22.Kids)]]) (runX 10000 ?_) (fun Jy24 => ?_)
      ·clear hy24
       refine add_s h fun v31 _ e30 h => ?_
       simp only [go_sem, reduceAdd, reduceLT, reduceLeDiff, reduceEqDiff, Nat.reduceBEq, Nat.reduceBNe, e30]
       exact lp_backH 2 (ih1 v31 y24 h) ⟨rfl, rfl, rfl, rfl, trivial⟩ rfl rfl rfl (by first | rfl | simp only [go_sem, ltF]) (by first | rfl | simp only [go_sem, allLt])
      ·clear h
       have h := hy24
       refine cnd_s 10000 h (fun hb h => ?_) (fun hb h => ?_)
       ·simp only [go_sem, reduceAdd, reduceLT, reduceLeDiff, reduceEqDiff, Nat.reduceBEq, Nat.reduceBNe]
        refine appB_s AV.str (some none) ⟨9, 1, false, 16⟩ (fun _ => rfl) (by decide) rfl h fun v29 e26 e27 e28 h => ?_
        refine appB_ 10000 AV.str plain_str (v := v19) (ws := ([v22.S] : List Str)) rfl rfl rfl el22 rfl kd22 (by first | rfl | simp only [go_sem]) (by first | rfl | simp only [go_sem]) (by first | rfl | simp only [go_sem]) e26 e27 e28 (by first | rfl | simp only [go_sem]) rfl rfl ?_
        simp only [go_sem, reduceAdd, reduceLT, reduceLeDiff, reduceEqDiff, Nat.reduceBEq, Nat.reduceBNe]
        obtain rfl := Option.some.inj h
        exact atJ (wkn (Jy24) ⟨rfl, rfl, rfl, rfl, trivial⟩)
       ·simp only [go_sem, reduceAdd, reduceLT, reduceLeDiff, reduceEqDiff, Nat.reduceBEq, Nat.reduceBNe]
        obtain rfl := Option.some.inj h
        exact atJ (wkn (Jy24) ⟨rfl, rfl, rfl, rfl, trivial⟩)
     ·simp only [go_sem, reduceAdd, reduceLT, reduceLeDiff, reduceEqDiff, Nat.reduceBEq, Nat.reduceBNe]
      refine grd_ (fun hb32 => ?_) (fun hb32 => ?_)
      ·simp only [go_sem, reduceAdd, reduceLT, reduceLeDiff, reduceEqDiff, Nat.reduceBEq, Nat.reduceBNe]
       exact atJ (wkn Jg23 ⟨rfl, rfl, rfl, rfl, rfl, congrArg AV.bool (by first | rfl | (rw [hb32]; rfl) | (simp [hb32]; done) | simp_all), trivial⟩)
      ·simp only [go_sem, reduceAdd, reduceLT, reduceLeDiff, reduceEqDiff, Nat.reduceBEq, Nat.reduceBNe]
       exact atJ (wkn Jg23 ⟨rfl, rfl, rfl, rfl, rfl, congrArg AV.bool (by first | rfl | (rw [hb32]; rfl) | (simp [hb32]; done) | simp_all), trivial⟩)
    ·simp only [go_sem, reduceAdd, reduceLT, reduceLeDiff, reduceEqDiff, Nat.reduceBEq, Nat.reduceBNe]
     obtain rfl := Option.some.inj h
     exact atJ (wkn (Jy2) ⟨rfl, trivial⟩)
   ·exact lp_back (L1 0 [] h) ⟨rfl, rfl, rfl, rfl, trivial⟩
theorem w_slices_IndexFunc_Ltree_Class_tree_Class {s : (List tree_Class)} {p1_f : (tree_Class → Option Bool)}  (fv_p1_f : FuncId) (hf_p1_f : ∀ (a0 : tree_Class) (z : Bool), p1_f a0 = some z → ACall Tryz.prog fv_p1_f [enc_tree_Class a0] [] (.bool z) []) {r : Int} (h : slices_IndexFunc_Ltree_Class_tree_Class s p1_f = some r) : ACall Tryz.prog 128 [.sl none (List.map enc_tree_Class s), .fn (.func fv_p1_f) [] []] [] (.int .i64 r) [] := by
 refine acallX 10000 hf128 ok128 (by first | rfl | simp only [go_sem]) meek_int ?_
 dsimp only [Tryz.f128, nums, Option.getD, List.append]
 unfold slices_IndexFunc_Ltree_Class_tree_Class at h
 simp only [go_sem, reduceAdd, reduceLT, reduceLeDiff, reduceEqDiff, Nat.reduceBEq, Nat.reduceBNe]
 refine letK_s h fun K2 hK2 h => ?_
 refine blkJ 19 10000 (fun w => K2 () = some r → w [] []) (fun  h => runX 10000 ?_) (fun JK2 => ?_)
 ·subst hK2
  dsimp only at h
  simp only [go_sem, reduceAdd, reduceLT, reduceLeDiff, reduceEqDiff, Nat.reduceBEq, Nat.reduceBNe]
  refine ret_s (fun x => .int .i64 x) h ?_
  first | rfl | simp only [go_sem, resAV, resAll, resOne, reduceAdd, reduceLT, reduceLeDiff, reduceEqDiff, Nat.reduceBEq, Nat.reduceBNe]
 ·clear hK2
  simp only [go_sem, reduceAdd, reduceLT, reduceLeDiff, reduceEqDiff, Nat.reduceBEq, Nat.reduceBNe]
  refine lpJ 19 fuel (fun q1 w => ∀ (v3 : Int), slices_IndexFunc_Ltree_Class_tree_Class_l1 s p1_f K2 q1 v3 = some r → w [(0, .sl none (List.map enc_tree_Class s)), (1, .fn (.func fv_p1_f) [] []), (7, .int .i64 (s.length : Int)), (8, .int .i64 v3)] []) (fun w _ h => nomatch h) (fun q1 ih1 v3 h => ?_) (fun L1 => ?_)
  ·unfold slices_IndexFunc_Ltree_Class_tree_Class_l1 at h
   refine runL 10000 ?_
   simp only [go_sem, reduceAdd, reduceLT, reduceLeDiff, reduceEqDiff, Nat.reduceBEq, Nat.reduceBNe]
   refine cnd_s 10000 h (fun hb h => ?_) (fun hb h => ?_)
   ·simp only [go_sem, reduceAdd, reduceLT, reduceLeDiff, reduceEqDiff, Nat.reduceBEq, Nat.reduceBNe]
    refine blk_ 10000 ?_
    refine lAt_s enc_tree_Class none .i64 ⟨81, 4, true, 80⟩ (fun _ => rfl) h fun v6 _ b4 e5 h => ?_
    refine bsome h fun v7 hv7 h => ?_
    simp only [go_sem, reduceAdd, reduceLT, reduceLeDiff, reduceEqDiff, Nat.reduceBEq, Nat.reduceBNe, b4, e5]
    refine callX_ 10000 (hf_p1_f _ _ hv7) (by first | rfl | simp only [go_sem]) (by first | rfl | simp only [go_sem]) ?_
    simp only [go_sem, reduceAdd, reduceLT, reduceLeDiff, reduceEqDiff, Nat.reduceBEq, Nat.reduceBNe]
    refine cnd_s 10000 h (fun hb h => ?_) (fun hb h => ?_)
    ·simp only [go_sem, reduceAdd, reduceLT, reduceLeDiff, reduceEqDiff, Nat.reduceBEq, Nat.reduceBNe]
     refine ret_s (fun x => .int .i64 x) h ?_
     first | rfl | simp only [go_sem, resAV, resAll, resOne, reduceAdd, reduceLT, reduceLeDiff, reduceEqDiff, Nat.reduceBEq, Nat.reduceBNe]
    ·refine add_s h fun v9 _ e8 h => ?_
     simp only [go_sem, reduceAdd, reduceLT, reduceLeDiff, reduceEqDiff, Nat.reduceBEq, Nat.reduceBNe, e8]
     exact lp_back (ih1 v9 h) ⟨rfl, rfl, rfl, rfl, trivial⟩
   ·simp only [go_sem, reduceAdd, reduceLT, reduceLeDiff, reduceEqDiff, Nat.reduceBEq, Nat.reduceBNe]
    exact atJ (wkn (JK2  h) trivial)
  ·exact lp_back (L1 0 h) ⟨rfl, rfl, rfl, rfl, trivial⟩
theorem w_slices_ContainsFunc_Ltree_Class_tree_Class {s : (List tree_Class)} {p1_f : (tree_Class → Option Bool)}  (fv_p1_f : FuncId) (hf_p1_f : ∀ (a0 : tree_Class) (z : Bool), p1_f a0 = some z → ACall Tryz.prog fv_p1_f [enc_tree_Class a0] [] (.bool z) []) {r : Bool} (h : slices_ContainsFunc_Ltree_Class_tree_Class s p1_f = some r) : ACall Tryz.prog 82 [.sl none (List.map enc_tree_Class s), .fn (.func fv_p1_f) [] []] [] (.bool r) [] := by
 refine acallX 10000 hf82 ok82 (by first | rfl | simp only [go_sem]) meek_bool ?_
 dsimp only [Tryz.f82, nums, Option.getD, List.append]
 unfold slices_ContainsFunc_Ltree_Class_tree_Class at h
 refine bsome h fun v1 hv1 h => ?_
 simp only [go_sem, reduceAdd, reduceLT, reduceLeDiff, reduceEqDiff, Nat.reduceBEq, Nat.reduceBNe]
 refine callX_ 10000 (w_slices_IndexFunc_Ltree_Class_tree_Class fv_p1_f hf_p1_f hv1) (by first | rfl | simp only [go_sem]) (by first | rfl | simp only [go_sem]) ?_
 simp only [go_sem, reduceAdd, reduceLT, reduceLeDiff, reduceEqDiff, Nat.reduceBEq, Nat.reduceBNe]
 refine ret_s (fun x => .bool x) h ?_
 first | rfl | simp only [go_sem, resAV, resAll, resOne, reduceAdd, reduceLT, reduceLeDiff, reduceEqDiff, Nat.reduceBEq, Nat.reduceBNe]
theorem w_tree_Class_may_1 {s : Str}   {r : Bool} (h : tree_Class_may_1 s = some r) : ACall Tryz.prog 131 [.str s] [] (.bool r) [] := by
 refine acallX 10000 hf131 ok131 (by first | rfl | simp only [go_sem]) meek_bool ?_
 dsimp only [Tryz.f131, nums, Option.getD, List.append]
 unfold tree_Class_may_1 at h
 refine bsome h fun v1 hv1 h => ?_
 simp only [go_sem, reduceAdd, reduceLT, reduceLeDiff, reduceEqDiff, Nat.reduceBEq, Nat.reduceBNe]
 refine callX_ 10000 (w_tree_variable  hv1) (by first | rfl | simp only [go_sem]) (by first | rfl | simp only [go_sem]) ?_
 simp only [go_sem, reduceAdd, reduceLT, reduceLeDiff, reduceEqDiff, Nat.reduceBEq, Nat.reduceBNe]
 refine ret_s (fun x => .bool x) h ?_
 first | rfl | simp only [go_sem, resAV, resAll, resOne, reduceAdd, reduceLT, reduceLeDiff, reduceEqDiff, Nat.reduceBEq, Nat.reduceBNe]
theorem w_slices_IndexFunc_Ltree_Method_tree_Method {s : (List tree_Method)} {p1_f : (tree_Method → Option Bool)}  (fv_p1_f : FuncId) (hf_p1_f : ∀ (a0 : tree_Method) (z : Bool), p1_f a0 = some z → ACall Tryz.prog fv_p1_f [enc_tree_Method a0] [] (.bool z) []) {r : Int} (h : slices_IndexFunc_Ltree_Method_tree_Method s p1_f = some r) : ACall Tryz.prog 186 [.sl none (List.map enc_tree_Method s), .fn (.func fv_p1_f) [] []] [] (.int .i64 r) [] := by
 refine acallX 10000 hf186 ok186 (by first | rfl | simp only [go_sem]) meek_int ?_
 dsimp only [Tryz.f186, nums, Option.getD, List.append]
 unfold slices_IndexFunc_Ltree_Method_tree_Method at h
 simp only [go_sem, reduceAdd, reduceLT, reduceLeDiff, reduceEqDiff, Nat.reduceBEq, Nat.reduceBNe]
 refine letK_s h fun K2 hK2 h => ?_
 refine blkJ 19 10000 (fun w => K2 () = some r → w [] []) (fun  h => runX 10000 ?_) (fun JK2 => ?_)
 ·subst hK2
  dsimp only at h
  simp only [go_sem, reduceAdd, reduceLT, reduceLeDiff, reduceEqDiff, Nat.reduceBEq, Nat.reduceBNe]
  refine ret_s (fun x => .int .i64 x) h ?_
  first | rfl | simp only [go_sem, resAV, resAll, resOne, reduceAdd, reduceLT, reduceLeDiff, reduceEqDiff, Nat.reduceBEq, Nat.reduceBNe]
 ·clear hK2
  simp only [go_sem, reduceAdd, reduceLT, reduceLeDiff, reduceEqDiff, Nat.reduceBEq, Nat.reduceBNe]
  refine lpJ 19 fuel (fun q1 w => ∀ (v3 : Int), slices_IndexFunc_Ltree_Method_tree_Method_l1 s p1_f K2 q1 v3 = some r → w [(0, .sl none (List.map enc_tree_Method s)), (1, .fn (.func fv_p1_f) [] []), (7, .int .i64 (s.length : Int)), (8, .int .i64 v3)] []) (fun w _ h => nomatch h) (fun q1 ih1 v3 h => ?_) (fun L1 => ?_)
  ·unfold slices_IndexFunc_Ltree_Method_tree_Method_l1 at h
   refine runL 10000 ?_
   simp only [go_sem, reduceAdd, reduceLT, reduceLeDiff, reduceEqDiff, Nat.reduceBEq, Nat.reduceBNe]
   refine cnd_s 10000 h (fun hb h => ?_) (fun hb h => ?_)
   ·simp only [go_sem, reduceAdd, reduceLT, reduceLeDiff, reduceEqDiff, Nat.reduceBEq, Nat.reduceBNe]
    refine blk_ 10000 ?_
    refine lAt_s enc_tree_Method none .i64 ⟨35, 5, true, 112⟩ (fun _ => rfl) h fun v6 _ b4 e5 h => ?_
    refine bsome h fun v7 hv7 h => ?_
    simp only [go_sem, reduceAdd, reduceLT, reduceLeDiff, reduceEqDiff, Nat.reduceBEq, Nat.reduceBNe, b4, e5]
    refine callX_ 10000 (hf_p1_f _ _ hv7) (by first | rfl | simp only [go_sem]) (by first | rfl | simp only [go_sem]) ?_
    simp only [go_sem, reduceAdd, reduceLT, reduceLeDiff, reduceEqDiff, Nat.reduceBEq, Nat.reduceBNe]
    refine cnd_s 10000 h (fun hb h => ?_) (fun hb h => ?_)
    ·simp only [go_sem, reduceAdd, reduceLT, reduceLeDiff, reduceEqDiff, Nat.reduceBEq, Nat.reduceBNe]
     refine ret_s (fun x => .int .i64 x) h ?_
     first | rfl | simp only [go_sem, resAV, resAll, resOne, reduceAdd, reduceLT, reduceLeDiff, reduceEqDiff, Nat.reduceBEq, Nat.reduceBNe]
    ·refine add_s h fun v9 _ e8 h => ?_
     simp only [go_sem, reduceAdd, reduceLT, reduceLeDiff, reduceEqDiff, Nat.reduceBEq, Nat.reduceBNe, e8]
     exact lp_back (ih1 v9 h) ⟨rfl, rfl, rfl, rfl, trivial⟩
   ·simp only [go_sem, reduceAdd, reduceLT, reduceLeDiff, reduceEqDiff, Nat.reduceBEq, Nat.reduceBNe]
    exact atJ (wkn (JK2  h) trivial)
  ·exact lp_back (L1 0 h) ⟨rfl, rfl, rfl, rfl, trivial⟩
theorem w_slices_ContainsFunc_Ltree_Method_tree_Method {s : (List tree_Method)} {p1_f : (tree_Method → Option Bool)}  (fv_p1_f : FuncId) (hf_p1_f : ∀ (a0 : tree_Method) (z : Bool), p1_f a0 = some z → ACall Tryz.prog fv_p1_f [enc_tree_Method a0] [] (.bool z) []) {r : Bool} (h : slices_ContainsFunc_Ltree_Method_tree_Method s p1_f = some r) : ACall Tryz.prog 132 [.sl none (List.map enc_tree_Method s), .fn (.func fv_p1_f) [] []] [] (.bool r) [] := by
 refine acallX 10000 hf132 ok132 (by first | rfl | simp only [go_sem]) meek_bool ?_
 dsimp only [Tryz.f132, nums, Option.getD, List.append]
 unfold slices_ContainsFunc_Ltree_Method_tree_Method at h
 refine bsome h fun v1 hv1 h => ?_
 simp only [go_sem, reduceAdd, reduceLT, reduceLeDiff, reduceEqDiff, Nat.reduceBEq, Nat.reduceBNe]
 refine callX_ 10000 (w_slices_IndexFunc_Ltree_Method_tree_Method fv_p1_f hf_p1_f hv1) (by first | rfl | simp only [go_sem]) (by first | rfl | simp only [go_sem]) ?_
 simp only [go_sem, reduceAdd, reduceLT, reduceLeDiff, reduceEqDiff, Nat.reduceBEq, Nat.reduceBNe]
 refine ret_s (fun x => .bool x) h ?_
 first | rfl | simp only [go_sem, resAV, resAll, resOne, reduceAdd, reduceLT, reduceLeDiff, reduceEqDiff, Nat.reduceBEq, Nat.reduceBNe]
theorem w_tree_Class_may_2 {m : tree_Method}   {r : Bool} (h : tree_Class_may_2 m = some r) : ACall Tryz.prog 133 [enc_tree_Method m] [] (.bool r) [] := by
 refine acallX 10000 hf133 ok133 (by first | rfl | simp only [go_sem]) meek_bool ?_
 dsimp only [Tryz.f133, nums, Option.getD, List.append]
 unfold tree_Class_may_2 at h
 refine bsome h fun v1 hv1 h => ?_
 simp only [go_sem, reduceAdd, reduceLT, reduceLeDiff, reduceEqDiff, Nat.reduceBEq, Nat.reduceBNe]
 refine callX_ 10000 (w_tree_Check  hv1) (by first | rfl | simp only [go_sem]) (by first | rfl | simp only [go_sem]) ?_
 simp only [go_sem, reduceAdd, reduceLT, reduceLeDiff, reduceEqDiff, Nat.reduceBEq, Nat.reduceBNe]
 refine ret_s (fun x => .bool x) h ?_
 first | rfl | simp only [go_sem, resAV, resAll, resOne, reduceAdd, reduceLT, reduceLeDiff, reduceEqDiff, Nat.reduceBEq, Nat.reduceBNe]
theorem w_tree_Class_may {c : tree_Class}   {r : Bool} (h : tree_Class_may c = some r) : ACall Tryz.prog 84 [enc_tree_Class c] [] (.bool r) [] := by
 refine acallX 10000 hf84 ok84 (by first | rfl | simp only [go_sem]) meek_bool ?_
 dsimp only [Tryz.f84, nums, Option.getD, List.append]
 unfold tree_Class_may at h
 simp only [go_sem, reduceAdd, reduceLT, reduceLeDiff, reduceEqDiff, Nat.reduceBEq, Nat.reduceBNe]
 refine bsome h fun y1 hy1 h => ?_
 refine rgJ 35 10000 (.inl rfl) (fun w => w [(1, .ptr 0 0), (24, .bool y1)] [some [.str c.Name, .str c.Super, .sl none (List.map AV.str c.Vars), .sl none (List.map enc_tree_Method c.Methods)]]) (runX 10000 ?_) (fun Jy1 => ?_)
 ·clear hy1
  simp only [go_sem, reduceAdd, reduceLT, reduceLeDiff, reduceEqDiff, Nat.reduceBEq, Nat.reduceBNe]
  refine cnd_s 10000 h (fun hb h => ?_) (fun hb h => ?_)
  ·simp only [go_sem, reduceAdd, reduceLT, reduceLeDiff, reduceEqDiff, Nat.reduceBEq, Nat.reduceBNe]
   refine ret_s (fun x => .bool x) h ?_
   first | rfl | simp only [go_sem, resAV, resAll, resOne, reduceAdd, reduceLT, reduceLeDiff, reduceEqDiff, Nat.reduceBEq, Nat.reduceBNe]
  ·simp only [go_sem, reduceAdd, reduceLT, reduceLeDiff, reduceEqDiff, Nat.reduceBEq, Nat.reduceBNe]
   refine bsome h fun y8 hy8 h => ?_
   refine rgJ 35 10000 (.inl rfl) (fun w => w [(2, .bool y8)] [some [.str c.Name, .str c.Super, .sl none (List.map AV.str c.Vars), .sl none (List.map enc_tree_Method c.Methods)]]) (runX 10000 ?_) (fun Jy8 => ?_)
   ·clear hy8
    simp only [go_sem, reduceAdd, reduceLT, reduceLeDiff, reduceEqDiff, Nat.reduceBEq, Nat.reduceBNe]
    refine ret_s (fun x => .bool x) h ?_
    first | rfl | simp only [go_sem, resAV, resAll, resOne, reduceAdd, reduceLT, reduceLeDiff, reduceEqDiff, Nat.reduceBEq, Nat.reduceBNe]
   ·clear h
    have h := hy8
    refine bsome h fun v10 hv10 h => ?_
    simp only [go_sem, reduceAdd, reduceLT, reduceLeDiff, reduceEqDiff, Nat.reduceBEq, Nat.reduceBNe]
    refine callX_ 10000 (w_slices_ContainsFunc_Lstring_string 131 (fun _ _ h => w_tree_Class_may_1 h) hv10) (by first | rfl | simp only [go_sem]) (by first | rfl | simp only [go_sem]) ?_
    simp only [go_sem, reduceAdd, reduceLT, reduceLeDiff, reduceEqDiff, Nat.reduceBEq, Nat.reduceBNe]
    refine grd_ (fun hb11 => ?_) (fun hb11 => ?_)
    ·have h := ite_t hb11 h
     refine bsome h fun v12 hv12 h => ?_
     simp only [go_sem, reduceAdd, reduceLT, reduceLeDiff, reduceEqDiff, Nat.reduceBEq, Nat.reduceBNe]
     refine callX_ 10000 (w_slices_ContainsFunc_Ltree_Method_tree_Method 133 (fun _ _ h => w_tree_Class_may_2 h) hv12) (by first | rfl | simp only [go_sem]) (by first | rfl | simp only [go_sem]) ?_
     simp only [go_sem, reduceAdd, reduceLT, reduceLeDiff, reduceEqDiff, Nat.reduceBEq, Nat.reduceBNe]
     obtain rfl := Option.some.inj h
     exact atJ (wkn (Jy8) ⟨rfl, trivial⟩)
    ·have h := ite_f hb11 h
     simp only [go_sem, reduceAdd, reduceLT, reduceLeDiff, reduceEqDiff, Nat.reduceBEq, Nat.reduceBNe]
     obtain rfl := Option.some.inj h
     exact atJ (wkn (Jy8) ⟨rfl, trivial⟩)
 ·clear h
  have h := hy1
  refine bsome h fun v3 hv3 h => ?_
  simp only [go_sem, reduceAdd, reduceLT, reduceLeDiff, reduceEqDiff, Nat.reduceBEq, Nat.reduceBNe]
  refine callX_ 10000 (w_tree_named  hv3) (by first | rfl | simp only [go_sem]) (by first | rfl | simp only [go_sem]) ?_
  simp only [go_sem, reduceAdd, reduceLT, reduceLeDiff, reduceEqDiff, Nat.reduceBEq, Nat.reduceBNe]
  refine grd_ (fun hb4 => ?_) (fun hb4 => ?_)
  ·have h := ite_f hb4 h
   refine bsome h fun v5 hv5 h => ?_
   simp only [go_sem, reduceAdd, reduceLT, reduceLeDiff, reduceEqDiff, Nat.reduceBEq, Nat.reduceBNe]
   refine callX_ 10000 (w_tree_named  hv5) (by first | rfl | simp only [go_sem]) (by first | rfl | simp only [go_sem]) ?_
   simp only [go_sem, reduceAdd, reduceLT, reduceLeDiff, reduceEqDiff, Nat.reduceBEq, Nat.reduceBNe]
   refine grd_ (fun hb6 => ?_) (fun hb6 => ?_)
   ·have h := ite_f hb6 h
    simp only [go_sem, reduceAdd, reduceLT, reduceLeDiff, reduceEqDiff, Nat.reduceBEq, Nat.reduceBNe]
    refine grd_ (fun hb7 => ?_) (fun hb7 => ?_)
    ·have h := ite_f hb7 h
     simp only [go_sem, reduceAdd, reduceLT, reduceLeDiff, reduceEqDiff, Nat.reduceBEq, Nat.reduceBNe]
     obtain rfl := Option.some.inj h
     exact atJ (wkn (Jy1) ⟨rfl, rfl, trivial⟩)
    ·have h := ite_t hb7 h
     simp only [go_sem, reduceAdd, reduceLT, reduceLeDiff, reduceEqDiff, Nat.reduceBEq, Nat.reduceBNe]
     obtain rfl := Option.some.inj h
     exact atJ (wkn (Jy1) ⟨rfl, rfl, trivial⟩)
   ·have h := ite_t hb6 h
    simp only [go_sem, reduceAdd, reduceLT, reduceLeDiff, reduceEqDiff, Nat.reduceBEq, Nat.reduceBNe]
    obtain rfl := Option.some.inj h
    exact atJ (wkn (Jy1) ⟨rfl, rfl, trivial⟩)
  ·have h := ite_t hb4 h
   simp only [go_sem, reduceAdd, reduceLT, reduceLeDiff, reduceEqDiff, Nat.reduceBEq, Nat.reduceBNe]
   obtain rfl := Option.some.inj h
   exact atJ (wkn (Jy1) ⟨rfl, rfl, trivial⟩)
theorem w_tree_CheckAll_1 {c : tree_Class}   {r : Bool} (h : tree_CheckAll_1 c = some r) : ACall Tryz.prog 83 [enc_tree_Class c] [] (.bool r) [] := by
 refine acallX 10000 hf83 ok83 (by first | rfl | simp only [go_sem]) meek_bool ?_
 dsimp only [Tryz.f83, nums, Option.getD, List.append]
 unfold tree_CheckAll_1 at h
 refine bsome h fun v1 hv1 h => ?_
 simp only [go_sem, reduceAdd, reduceLT, reduceLeDiff, reduceEqDiff, Nat.reduceBEq, Nat.reduceBNe]
 refine callX_ 10000 (w_tree_Class_may  hv1) (by first | rfl | simp only [go_sem]) (by first | rfl | simp only [go_sem]) ?_
 simp only [go_sem, reduceAdd, reduceLT, reduceLeDiff, reduceEqDiff, Nat.reduceBEq, Nat.reduceBNe]
 refine ret_s (fun x => .bool x) h ?_
 first | rfl | simp only [go_sem, resAV, resAll, resOne, reduceAdd, reduceLT, reduceLeDiff, reduceEqDiff, Nat.reduceBEq, Nat.reduceBNe]
theorem w_tree_CheckAll {l : (List tree_Class)}   {r : (Option Int)} (h : tree_CheckAll l = some r) : ACall Tryz.prog 37 [.sl none (List.map enc_tree_Class l)] [] (encE 86 r) [] := by
 refine acallX 10000 hf37 ok37 (by first | rfl | simp only [go_sem]) meek_encE ?_
 dsimp only [Tryz.f37, nums, Option.getD, List.append]
 unfold tree_CheckAll at h
 simp only [go_sem, reduceAdd, reduceLT, reduceLeDiff, reduceEqDiff, Nat.reduceBEq, Nat.reduceBNe]
 refine bsome h fun y1 hy1 h => ?_
 refine rgJ 11 10000 (.inl rfl) (fun w => w [(9, .bool y1)] []) (runX 10000 ?_) (fun Jy1 => ?_)
 ·clear hy1
  simp only [go_sem, reduceAdd, reduceLT, reduceLeDiff, reduceEqDiff, Nat.reduceBEq, Nat.reduceBNe]
  refine cnd_s 10000 h (fun hb h => ?_) (fun hb h => ?_)
  ·simp only [go_sem, reduceAdd, reduceLT, reduceLeDiff, reduceEqDiff, Nat.reduceBEq, Nat.reduceBNe]
   refine ret_s (fun x => encE 86 x) h ?_
   first | rfl | simp only [go_sem, resAV, resAll, resOne, reduceAdd, reduceLT, reduceLeDiff, reduceEqDiff, Nat.reduceBEq, Nat.reduceBNe]
  ·simp only [go_sem, reduceAdd, reduceLT, reduceLeDiff, reduceEqDiff, Nat.reduceBEq, Nat.reduceBNe]
   refine ret_s (fun x => encE 86 x) h ?_
   first | rfl | simp only [go_sem, resAV, resAll, resOne, reduceAdd, reduceLT, reduceLeDiff, reduceEqDiff, Nat.reduceBEq, Nat.reduceBNe]
 ·clear h
  have h := hy1
  simp only [go_sem, reduceAdd, reduceLT, reduceLeDiff, reduceEqDiff, Nat.reduceBEq, Nat.reduceBNe]
  refine grd_ (fun hb3 => ?_) (fun hb3 => ?_)
  ·have h := ite_f hb3 h
   refine bsome h fun v4 hv4 h => ?_
   simp only [go_sem, reduceAdd, reduceLT, reduceLeDiff, reduceEqDiff, Nat.reduceBEq, Nat.reduceBNe]
   refine callX_ 10000 (w_slices_ContainsFunc_Ltree_Class_tree_Class 83 (fun _ _ h => w_tree_CheckAll_1 h) hv4) (by first | rfl | simp only [go_sem]) (by first | rfl | simp only [go_sem]) ?_
   simp only [go_sem, reduceAdd, reduceLT, reduceLeDiff, reduceEqDiff, Nat.reduceBEq, Nat.reduceBNe]
   obtain rfl := Option.some.inj h
   exact atJ (wkn (Jy1) ⟨rfl, trivial⟩)
  ·have h := ite_t hb3 h
   simp only [go_sem, reduceAdd, reduceLT, reduceLeDiff, reduceEqDiff, Nat.reduceBEq, Nat.reduceBNe]
   obtain rfl := Option.some.inj h
   exact atJ (wkn (Jy1) ⟨rfl, trivial⟩)
theorem w_law14_sure    {r : Bool} (h : law14_sure  = some r) : ACall Tryz.prog 24 [] [] (.bool r) [] := by
 refine acallX 10000 hf24 ok24 (by first | rfl | simp only [go_sem]) meek_bool ?_
 dsimp only [Tryz.f24, nums, Option.getD, List.append]
 unfold law14_sure at h
 simp only [go_sem, reduceAdd, reduceLT, reduceLeDiff, reduceEqDiff, Nat.reduceBEq, Nat.reduceBNe]
 refine bsome h fun y1 hy1 h => ?_
 refine rgJ 69 10000 (.inl rfl) (fun w => w [(0, .bool y1)] [some [.str [97, 116, 58], .sl (some none) [.str [105]], .sl (some none) [.str [116]], .sl (some none) [.agg [.int .u8 7, .str [120], .int .i64 0, .sl none [], .sl none []], .agg [.int .u8 7, .str [121], .int .i64 0, .sl none [], .sl none []], .agg [.int .u8 9, .str [102, 111, 111], .int .i64 0, .sl none [], .sl none [.int .i64 1]], .agg [.int .u8 12, .str [], .int .i64 1, .sl none [.str [121]], .sl none [.int .i64 2]], .agg [.int .u8 9, .str [100, 111, 58], .int .i64 0, .sl none [], .sl none [.int .i64 0, .int .i64 3]], .agg [.int .u8 13, .str [], .int .i64 0, .sl none [], .sl none [.int .i64 4]]], .sl (some none) [.int .i64 5]], some [.str [97, 116, 58], .sl none [.str [105]], .sl none [.str [116]], .sl none [.agg [.int .u8 7, .str [120], .int .i64 0, .sl none [], .sl none []], .agg [.int .u8 7, .str [121], .int .i64 0, .sl none [], .sl none []], .agg [.int .u8 9, .str [102, 111, 111], .int .i64 0, .sl none [], .sl none [.int .i64 1]], .agg [.int .u8 12, .str [], .int .i64 1, .sl none [.str [121]], .sl none [.int .i64 2]], .agg [.int .u8 9, .str [100, 111, 58], .int .i64 0, .sl none [], .sl none [.int .i64 0, .int .i64 3]], .agg [.int .u8 13, .str [], .int .i64 0, .sl none [], .sl none [.int .i64 4]]], .sl (some none) [.int .i64 4]]]) (runX 10000 ?_) (fun Jy1 => ?_)
 ·clear hy1
  simp only [go_sem, reduceAdd, reduceLT, reduceLeDiff, reduceEqDiff, Nat.reduceBEq, Nat.reduceBNe]
  refine ret_s (fun x => .bool x) h ?_
  first | rfl | simp only [go_sem, resAV, resAll, resOne, reduceAdd, reduceLT, reduceLeDiff, reduceEqDiff, Nat.reduceBEq, Nat.reduceBNe]
 ·clear h
  have h := hy1
  refine bsome h fun v3 hv3 h => ?_
  simp only [go_sem, reduceAdd, reduceLT, reduceLeDiff, reduceEqDiff, Nat.reduceBEq, Nat.reduceBNe]
  refine callX_ 10000 (w_tree_Check  hv3) (by first | rfl | simp only [go_sem]) (by first | rfl | simp only [go_sem]) ?_
  simp only [go_sem, reduceAdd, reduceLT, reduceLeDiff, reduceEqDiff, Nat.reduceBEq, Nat.reduceBNe]
  refine grd_ (fun hb4 => ?_) (fun hb4 => ?_)
  ·have h := ite_t hb4 h
   refine bsome h fun v5 hv5 h => ?_
   simp only [go_sem, reduceAdd, reduceLT, reduceLeDiff, reduceEqDiff, Nat.reduceBEq, Nat.reduceBNe]
   refine callX_ 10000 (w_tree_Check  hv5) (by first | rfl | simp only [go_sem]) (by first | rfl | simp only [go_sem]) ?_
   refine bsome h fun v6 hv6 h => ?_
   simp only [go_sem, reduceAdd, reduceLT, reduceLeDiff, reduceEqDiff, Nat.reduceBEq, Nat.reduceBNe]
   refine callX_ 10000 (w_law_num  hv6) (by first | rfl | simp only [go_sem]) (by first | rfl | simp only [go_sem]) ?_
   simp only [go_sem, reduceAdd, reduceLT, reduceLeDiff, reduceEqDiff, Nat.reduceBEq, Nat.reduceBNe]
   refine grd_ (fun hb7 => ?_) (fun hb7 => ?_)
   ·have h := ite_t hb7 h
    refine bsome h fun v8 hv8 h => ?_
    simp only [go_sem, reduceAdd, reduceLT, reduceLeDiff, reduceEqDiff, Nat.reduceBEq, Nat.reduceBNe]
    refine callX_ 10000 (w_tree_Same  hv8) (by first | rfl | simp only [go_sem]) (by first | rfl | simp only [go_sem]) ?_
    simp only [go_sem, reduceAdd, reduceLT, reduceLeDiff, reduceEqDiff, Nat.reduceBEq, Nat.reduceBNe]
    refine grd_ (fun hb9 => ?_) (fun hb9 => ?_)
    ·have h := ite_t hb9 h
     refine bsome h fun v10 hv10 h => ?_
     simp only [go_sem, reduceAdd, reduceLT, reduceLeDiff, reduceEqDiff, Nat.reduceBEq, Nat.reduceBNe]
     refine callX_ 10000 (w_tree_Same  hv10) (by first | rfl | simp only [go_sem]) (by first | rfl | simp only [go_sem]) ?_
     simp only [go_sem, reduceAdd, reduceLT, reduceLeDiff, reduceEqDiff, Nat.reduceBEq, Nat.reduceBNe]
     refine grd_ (fun hb11 => ?_) (fun hb11 => ?_)
     ·have h := ite_t hb11 h
      refine bsome h fun v12 hv12 h => ?_
      simp only [go_sem, reduceAdd, reduceLT, reduceLeDiff, reduceEqDiff, Nat.reduceBEq, Nat.reduceBNe]
      refine callX_ 10000 (w_tree_Free  hv12) (by first | rfl | simp only [go_sem]) (by first | rfl | simp only [go_sem]) ?_
      refine bsome h fun v13 hv13 h => ?_
      simp only [go_sem, reduceAdd, reduceLT, reduceLeDiff, reduceEqDiff, Nat.reduceBEq, Nat.reduceBNe]
      refine callX_ 10000 (w_law14_texts  hv13) (by first | rfl | simp only [go_sem]) (by first | rfl | simp only [go_sem]) ?_
      simp only [go_sem, reduceAdd, reduceLT, reduceLeDiff, reduceEqDiff, Nat.reduceBEq, Nat.reduceBNe]
      refine grd_ (fun hb14 => ?_) (fun hb14 => ?_)
      ·have h := ite_t hb14 h
       refine bsome h fun v15 hv15 h => ?_
       simp only [go_sem, reduceAdd, reduceLT, reduceLeDiff, reduceEqDiff, Nat.reduceBEq, Nat.reduceBNe]
       refine callX_ 10000 (w_tree_Sent  hv15) (by first | rfl | simp only [go_sem]) (by first | rfl | simp only [go_sem]) ?_
       refine bsome h fun v16 hv16 h => ?_
       simp only [go_sem, reduceAdd, reduceLT, reduceLeDiff, reduceEqDiff, Nat.reduceBEq, Nat.reduceBNe]
       refine callX_ 10000 (w_law14_texts  hv16) (by first | rfl | simp only [go_sem]) (by first | rfl | simp only [go_sem]) ?_
       simp only [go_sem, reduceAdd, reduceLT, reduceLeDiff, reduceEqDiff, Nat.reduceBEq, Nat.reduceBNe]
       refine grd_ (fun hb17 => ?_) (fun hb17 => ?_)
       ·have h := ite_t hb17 h
        refine bsome h fun v18 hv18 h => ?_
        simp only [go_sem, reduceAdd, reduceLT, reduceLeDiff, reduceEqDiff, Nat.reduceBEq, Nat.reduceBNe]
        refine callX_ 10000 (w_tree_CheckAll  hv18) (by first | rfl | simp only [go_sem]) (by first | rfl | simp only [go_sem]) ?_
        simp only [go_sem, reduceAdd, reduceLT, reduceLeDiff, reduceEqDiff, Nat.reduceBEq, Nat.reduceBNe]
        refine grd_ (fun hb19 => ?_) (fun hb19 => ?_)
        ·have h := ite_t hb19 h
         refine bsome h fun v20 hv20 h => ?_
         simp only [go_sem, reduceAdd, reduceLT, reduceLeDiff, reduceEqDiff, Nat.reduceBEq, Nat.reduceBNe]
         refine callX_ 10000 (w_tree_CheckAll  hv20) (by first | rfl | simp only [go_sem]) (by first | rfl | simp only [go_sem]) ?_
         refine bsome h fun v21 hv21 h => ?_
         simp only [go_sem, reduceAdd, reduceLT, reduceLeDiff, reduceEqDiff, Nat.reduceBEq, Nat.reduceBNe]
         refine callX_ 10000 (w_law_num  hv21) (by first | rfl | simp only [go_sem]) (by first | rfl | simp only [go_sem]) ?_
         simp only [go_sem, reduceAdd, reduceLT, reduceLeDiff, reduceEqDiff, Nat.reduceBEq, Nat.reduceBNe]
         obtain rfl := Option.some.inj h
         exact atJ (wkn (Jy1) ⟨rfl, trivial⟩)
        ·have h := ite_f hb19 h
         simp only [go_sem, reduceAdd, reduceLT, reduceLeDiff, reduceEqDiff, Nat.reduceBEq, Nat.reduceBNe]
         obtain rfl := Option.some.inj h
         exact atJ (wkn (Jy1) ⟨rfl, trivial⟩)
       ·have h := ite_f hb17 h
        simp only [go_sem, reduceAdd, reduceLT, reduceLeDiff, reduceEqDiff, Nat.reduceBEq, Nat.reduceBNe]
        obtain rfl := Option.some.inj h
        exact atJ (wkn (Jy1) ⟨rfl, trivial⟩)
      ·have h := ite_f hb14 h
       simp only [go_sem, reduceAdd, reduceLT, reduceLeDiff, reduceEqDiff, Nat.reduceBEq, Nat.reduceBNe]
       obtain rfl := Option.some.inj h
       exact atJ (wkn (Jy1) ⟨rfl, trivial⟩)
     ·have h := ite_f hb11 h
      simp only [go_sem, reduceAdd, reduceLT, reduceLeDiff, reduceEqDiff, Nat.reduceBEq, Nat.reduceBNe]
      obtain rfl := Option.some.inj h
      exact atJ (wkn (Jy1) ⟨rfl, trivial⟩)
    ·have h := ite_f hb9 h
     simp only [go_sem, reduceAdd, reduceLT, reduceLeDiff, reduceEqDiff, Nat.reduceBEq, Nat.reduceBNe]
     obtain rfl := Option.some.inj h
     exact atJ (wkn (Jy1) ⟨rfl, trivial⟩)
   ·have h := ite_f hb7 h
    simp only [go_sem, reduceAdd, reduceLT, reduceLeDiff, reduceEqDiff, Nat.reduceBEq, Nat.reduceBNe]
    obtain rfl := Option.some.inj h
    exact atJ (wkn (Jy1) ⟨rfl, trivial⟩)
  ·have h := ite_f hb4 h
   simp only [go_sem, reduceAdd, reduceLT, reduceLeDiff, reduceEqDiff, Nat.reduceBEq, Nat.reduceBNe]
   obtain rfl := Option.some.inj h
   exact atJ (wkn (Jy1) ⟨rfl, trivial⟩)
theorem w_law14_giveMethod {m : ref14_Method}   {r : tree_Method} (h : law14_giveMethod m = some r) : ACall Tryz.prog 25 [enc_ref14_Method m] [] (enc_tree_Method r) [] := by
 refine acallX 10000 hf25 ok25 (by first | rfl | simp only [go_sem]) meek_agg ?_
 dsimp only [Tryz.f25, nums, Option.getD, List.append]
 unfold law14_giveMethod at h
 simp only [go_sem, reduceAdd, reduceLT, reduceLeDiff, reduceEqDiff, Nat.reduceBEq, Nat.reduceBNe]
 refine rg_ 10000 (.inr ⟨[(1, 0), (6, 0), (9, 0), (13, 0), (17, 0)], by kernel_rfl, by kernel_rfl, by rfl⟩) ?_
 refine app_s AV.str none ⟨9, 1, false, 16⟩ (fun _ => rfl) (by decide) rfl h fun v3 _ (b1 : appc ⟨9, 1, false, 16⟩ (.sl (some none) []) (.sl none (List.map AV.str m.Args))) (e2 : appv (.sl (some none) []) (.sl none (List.map AV.str m.Args)) = .sl (some none) (List.map AV.str v3)) h => ?_
 refine app_s AV.str none ⟨9, 1, false, 16⟩ (fun _ => rfl) (by decide) rfl h fun v6 _ (b4 : appc ⟨9, 1, false, 16⟩ (.sl (some none) []) (.sl none (List.map AV.str m.Temps))) (e5 : appv (.sl (some none) []) (.sl none (List.map AV.str m.Temps)) = .sl (some none) (List.map AV.str v6)) h => ?_
 refine app_s (AV.int .i64) none ⟨3, 1, false, 8⟩ (fun _ => rfl) (by decide) rfl h fun v9 _ (b7 : appc ⟨3, 1, false, 8⟩ (.sl (some none) []) (.sl none (List.map (AV.int .i64) m.Body))) (e8 : appv (.sl (some none) []) (.sl none (List.map (AV.int .i64) m.Body)) = .sl (some none) (List.map (AV.int .i64) v9)) h => ?_
 simp only [go_sem, reduceAdd, reduceLT, reduceLeDiff, reduceEqDiff, Nat.reduceBEq, Nat.reduceBNe, b1, e2, b4, e5, b7, e8]
 refine bsome h fun y10 hy10 h => ?_
 refine blkJ 54 10000 (fun w => w [(2, .ptr 1 0), (3, .ptr 2 0)] [some [.str m.Sel, .sl none (List.map AV.str m.Args), .sl none (List.map AV.str m.Temps), .sl none (List.map enc_ref14_Node m.Nodes), .sl none (List.map (AV.int .i64) m.Body)], some [.str [], .sl (some none) [], .sl (some none) [], .sl (some none) [], .sl (some none) []], some [.str m.Sel, .sl none (List.map AV.str v3), .sl none (List.map AV.str v6), .sl (some none) (List.map enc_tree_Node y10), .sl none (List.map (AV.int .i64) v9)]]) (runX 10000 ?_) (fun Jy10 => ?_)
 ·clear hy10
  simp only [go_sem, reduceAdd, reduceLT, reduceLeDiff, reduceEqDiff, Nat.reduceBEq, Nat.reduceBNe]
  refine ret_s (fun x => enc_tree_Method x) h ?_
  first | rfl | simp only [go_sem, resAV, resAll, resOne, reduceAdd, reduceLT, reduceLeDiff, reduceEqDiff, Nat.reduceBEq, Nat.reduceBNe]
 ·clear h
  have h := hy10
  simp only [go_sem, reduceAdd, reduceLT, reduceLeDiff, reduceEqDiff, Nat.reduceBEq, Nat.reduceBNe]
  refine lpJ 54 fuel (fun q1 w => ∀ (v27 : Int) (v28 : (List tree_Node)), law14_giveMethod_l1 m q1 v27 v28 = some y10 → w [(1, .ptr 0 0), (2, .ptr 1 0), (3, .ptr 2 0), (4, .int .i64 v27)] [some [.str m.Sel, .sl none (List.map AV.str m.Args), .sl none (List.map AV.str m.Temps), .sl none (List.map enc_ref14_Node m.Nodes), .sl none (List.map (AV.int .i64) m.Body)], some [.str [], .sl (some none) [], .sl (some none) [], .sl (some none) [], .sl (some none) []], some [.str m.Sel, .sl none (List.map AV.str v3), .sl none (List.map AV.str v6), .sl (some none) (List.map enc_tree_Node v28), .sl none (List.map (AV.int .i64) v9)]]) (fun w _ _ h => nomatch h) (fun q1 ih1 v27 v28 h => ?_) (fun L1 => ?_)
  ·unfold law14_giveMethod_l1 at h
   refine runL 10000 ?_
   simp only [go_sem, reduceAdd, reduceLT, reduceLeDiff, reduceEqDiff, Nat.reduceBEq, Nat.reduceBNe]
   refine cnd_s 10000 h (fun hb h => ?_) (fun hb h => ?_)
   ·simp only [go_sem, reduceAdd, reduceLT, reduceLeDiff, reduceEqDiff, Nat.reduceBEq, Nat.reduceBNe]
    refine blk_ 10000 ?_
    refine lAt_s enc_ref14_Node none .i64 ⟨78, 5, true, 80⟩ (fun _ => rfl) h fun v31 _ b29 e30 h => ?_
    simp only [go_sem, reduceAdd, reduceLT, reduceLeDiff, reduceEqDiff, Nat.reduceBEq, Nat.reduceBNe, b29, e30]
    refine rg_ 10000 (.inr ⟨[(3, 2), (5, 3), (33, 2), (35, 3), (37, 3), (39, 3), (42, 3), (46, 3), (52, 2)], by kernel_rfl, by kernel_rfl, by rfl⟩) ?_
    refine app_s AV.str none ⟨9, 1, false, 16⟩ (fun _ => rfl) (by decide) rfl h fun v34 _ (b32 : appc ⟨9, 1, false, 16⟩ (.sl (some none) []) (.sl none (List.map AV.str v31.L))) (e33 : appv (.sl (some none) []) (.sl none (List.map AV.str v31.L)) = .sl (some none) (List.map AV.str v34)) h => ?_
    refine app_s (AV.int .i64) none ⟨3, 1, false, 8⟩ (fun _ => rfl) (by decide) rfl h fun v37 _ (b35 : appc ⟨3, 1, false, 8⟩ (.sl (some none) []) (.sl none (List.map (AV.int .i64) v31.Kids))) (e36 : appv (.sl (some none) []) (.sl none (List.map (AV.int .i64) v31.Kids)) = .sl (some none) (List.map (AV.int .i64) v37)) h => ?_
    refine app_s enc_tree_Node (some none) ⟨59, 5, true, 80⟩ (fun _ => rfl) (by decide) rfl h fun v40 _ (b38 : appc ⟨59, 5, true, 80⟩ (.sl (some none) (List.map enc_tree_Node v28)) (.sl (some none) [.agg [.int .u8 v31.K, .str v31.S, .int .i64 v31.N, .sl none (List.map AV.str v34), .sl none (List.map (AV.int .i64) v37)]])) (e39 : appv (.sl (some none) (List.map enc_tree_Node v28)) (.sl (some none) [.agg [.int .u8 v31.K, .str v31.S, .int .i64 v31.N, .sl none (List.map AV.str v34), .sl none (List.map (AV.int .i64) v37)]]) = .sl (some none) (List.map enc_tree_Node v40)) h => ?_
    refine add_s h fun v42 _ e41 h => ?_
    simp only [go_sem, reduceAdd, reduceLT, reduceLeDiff, reduceEqDiff, Nat.reduceBEq, Nat.reduceBNe, b32, e33, b35, e36, b38, e39, e41]
    exact lp_backH 3 (ih1 v42 v40 h) ⟨rfl, rfl, rfl, rfl, trivial⟩ rfl rfl rfl (by first | rfl | simp only [go_sem, ltF]) (by first | rfl | simp only [go_sem, allLt])
   ·simp only [go_sem, reduceAdd, reduceLT, reduceLeDiff, reduceEqDiff, Nat.reduceBEq, Nat.reduceBNe]
    obtain rfl := Option.some.inj h
    exact atJ (wkn (Jy10) ⟨rfl, rfl, trivial⟩)
  ·exact lp_back (L1 0 [] h) ⟨rfl, rfl, rfl, rfl, trivial⟩
end Go.Cq

