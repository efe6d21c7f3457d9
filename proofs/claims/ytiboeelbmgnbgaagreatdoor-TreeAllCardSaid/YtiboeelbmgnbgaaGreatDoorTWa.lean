import Derived.Test.YtiboeelbmgnbgaaGreatDoorTW1
set_option linter.unusedSectionVars false
set_option linter.unusedVariables false
set_option linter.unusedSimpArgs false
set_option linter.unnecessarySimpa false
set_option linter.unusedVariables false
set_option linter.unusedSimpArgs false
set_option maxRecDepth 100000
set_option maxHeartbeats 4000000
set_option pp.maxSteps 400
namespace Go.Cq
open Nat (reduceAdd reduceLT reduceLeDiff reduceEqDiff)
open Go Go.Av Go.Proofs
variable [Lay] [SeatLay]
attribute [local irreducible] hold ex W Wr nd cndV rgO exitO grdO grdV grdG callX alcX stX nckX
theorem w_ref09_Arity {s : Str}   {r : (Int × Bool)} (h : ref09_Arity s = some r) : ACall Tryz.prog 124 [.str s] [] (.tup [.int .i64 r.1, .bool r.2]) [] := by
 refine acallX 10000 hf124 ok124 (by first | rfl | simp only [go_sem]) meek_tup ?_
 dsimp only [Tryz.f124, nums, Option.getD, List.append]
 unfold ref09_Arity at h
 simp only [go_sem, reduceAdd, reduceLT, reduceLeDiff, reduceEqDiff, Nat.reduceBEq, Nat.reduceBNe]
 refine rgJ 77 10000 (.inl rfl) (fun w => w [(0, .str s), (15, .bool ((decide ((s.length : Int) < 1)) || (decide ((64 : Int) < (s.length : Int)))))] []) (runX 10000 ?_) (fun Jg1 => ?_)
 ·simp only [go_sem, reduceAdd, reduceLT, reduceLeDiff, reduceEqDiff, Nat.reduceBEq, Nat.reduceBNe]
  refine cnd_s 10000 h (fun hb h => ?_) (fun hb h => ?_)
  ·simp only [go_sem, reduceAdd, reduceLT, reduceLeDiff, reduceEqDiff, Nat.reduceBEq, Nat.reduceBNe]
   refine ret_s (fun x => .tup [.int .i64 x.1, .bool x.2]) h ?_
   first | rfl | simp only [go_sem, resAV, resAll, resOne, reduceAdd, reduceLT, reduceLeDiff, reduceEqDiff, Nat.reduceBEq, Nat.reduceBNe]
  ·refine sIdx_s .i64 h fun v4 _ b2 e3 h => ?_
   refine bsome h fun v5 hv5 h => ?_
   simp only [go_sem, reduceAdd, reduceLT, reduceLeDiff, reduceEqDiff, Nat.reduceBEq, Nat.reduceBNe, b2, e3]
   refine callX_ 10000 (w_ref09_sign  hv5) (by first | rfl | simp only [go_sem]) (by first | rfl | simp only [go_sem]) ?_
   simp only [go_sem, reduceAdd, reduceLT, reduceLeDiff, reduceEqDiff, Nat.reduceBEq, Nat.reduceBNe]
   refine cnd_s 10000 h (fun hb h => ?_) (fun hb h => ?_)
   ·simp only [go_sem, reduceAdd, reduceLT, reduceLeDiff, reduceEqDiff, Nat.reduceBEq, Nat.reduceBNe]
    refine bsome h fun y6 hy6 h => ?_
    refine rgJ 77 10000 (.inl rfl) (fun w => w [(31, .bool y6)] []) (runX 10000 ?_) (fun Jy6 => ?_)
    ·clear hy6
     simp only [go_sem, reduceAdd, reduceLT, reduceLeDiff, reduceEqDiff, Nat.reduceBEq, Nat.reduceBNe]
     refine cnd_s 10000 h (fun hb h => ?_) (fun hb h => ?_)
     ·simp only [go_sem, reduceAdd, reduceLT, reduceLeDiff, reduceEqDiff, Nat.reduceBEq, Nat.reduceBNe]
      refine ret_s (fun x => .tup [.int .i64 x.1, .bool x.2]) h ?_
      first | rfl | simp only [go_sem, resAV, resAll, resOne, reduceAdd, reduceLT, reduceLeDiff, reduceEqDiff, Nat.reduceBEq, Nat.reduceBNe]
     ·simp only [go_sem, reduceAdd, reduceLT, reduceLeDiff, reduceEqDiff, Nat.reduceBEq, Nat.reduceBNe]
      refine ret_s (fun x => .tup [.int .i64 x.1, .bool x.2]) h ?_
      first | rfl | simp only [go_sem, resAV, resAll, resOne, reduceAdd, reduceLT, reduceLeDiff, reduceEqDiff, Nat.reduceBEq, Nat.reduceBNe]
    ·clear h
     have h := hy6
     simp only [go_sem, reduceAdd, reduceLT, reduceLeDiff, reduceEqDiff, Nat.reduceBEq, Nat.reduceBNe]
     refine grd_ (fun hb8 => ?_) (fun hb8 => ?_)
     ·have h := ite_f hb8 h
      simp only [go_sem, reduceAdd, reduceLT, reduceLeDiff, reduceEqDiff, Nat.reduceBEq, Nat.reduceBNe]
      refine grd_ (fun hb9 => ?_) (fun hb9 => ?_)
      ·have h := ite_t hb9 h
       refine sIdx_s .i64 h fun v12 _ b10 e11 h => ?_
       refine bsome h fun v13 hv13 h => ?_
       simp only [go_sem, reduceAdd, reduceLT, reduceLeDiff, reduceEqDiff, Nat.reduceBEq, Nat.reduceBNe, b10, e11]
       refine callX_ 10000 (w_ref09_sign  hv13) (by first | rfl | simp only [go_sem]) (by first | rfl | simp only [go_sem]) ?_
       simp only [go_sem, reduceAdd, reduceLT, reduceLeDiff, reduceEqDiff, Nat.reduceBEq, Nat.reduceBNe]
       obtain rfl := Option.some.inj h
       exact atJ (wkn (Jy6) ⟨rfl, trivial⟩)
      ·have h := ite_f hb9 h
       simp only [go_sem, reduceAdd, reduceLT, reduceLeDiff, reduceEqDiff, Nat.reduceBEq, Nat.reduceBNe]
       obtain rfl := Option.some.inj h
       exact atJ (wkn (Jy6) ⟨rfl, trivial⟩)
     ·have h := ite_t hb8 h
      simp only [go_sem, reduceAdd, reduceLT, reduceLeDiff, reduceEqDiff, Nat.reduceBEq, Nat.reduceBNe]
      obtain rfl := Option.some.inj h
      exact atJ (wkn (Jy6) ⟨rfl, trivial⟩)
   ·simp only [go_sem, reduceAdd, reduceLT, reduceLeDiff, reduceEqDiff, Nat.reduceBEq, Nat.reduceBNe]
    refine letK_s h fun K15 hK15 h => ?_
    refine blkJ 77 10000 (fun w => ∀ (v39 : Int) (v40 : Bool), K15 v39 v40 = some r → w [(4, .int .i64 v39), (5, .bool v40)] []) (fun v39 v40 h => runX 10000 ?_) (fun JK15 => ?_)
    ·subst hK15
     dsimp only at h
     simp only [go_sem, reduceAdd, reduceLT, reduceLeDiff, reduceEqDiff, Nat.reduceBEq, Nat.reduceBNe]
     refine cnd_s 10000 h (fun hb h => ?_) (fun hb h => ?_)
     ·simp only [go_sem, reduceAdd, reduceLT, reduceLeDiff, reduceEqDiff, Nat.reduceBEq, Nat.reduceBNe]
      refine ret_s (fun x => .tup [.int .i64 x.1, .bool x.2]) h ?_
      first | rfl | simp only [go_sem, resAV, resAll, resOne, reduceAdd, reduceLT, reduceLeDiff, reduceEqDiff, Nat.reduceBEq, Nat.reduceBNe]
     ·simp only [go_sem, reduceAdd, reduceLT, reduceLeDiff, reduceEqDiff, Nat.reduceBEq, Nat.reduceBNe]
      refine rgJ 77 10000 (.inl rfl) (fun w => w [(4, .int .i64 v39), (75, .bool ((!v40) || (decide ((8 : Int) < v39))))] []) (runX 10000 ?_) (fun Jg41 => ?_)
      ·simp only [go_sem, reduceAdd, reduceLT, reduceLeDiff, reduceEqDiff, Nat.reduceBEq, Nat.reduceBNe]
       refine cnd_s 10000 h (fun hb h => ?_) (fun hb h => ?_)
       ·simp only [go_sem, reduceAdd, reduceLT, reduceLeDiff, reduceEqDiff, Nat.reduceBEq, Nat.reduceBNe]
        refine ret_s (fun x => .tup [.int .i64 x.1, .bool x.2]) h ?_
        first | rfl | simp only [go_sem, resAV, resAll, resOne, reduceAdd, reduceLT, reduceLeDiff, reduceEqDiff, Nat.reduceBEq, Nat.reduceBNe]
       ·simp only [go_sem, reduceAdd, reduceLT, reduceLeDiff, reduceEqDiff, Nat.reduceBEq, Nat.reduceBNe]
        refine ret_s (fun x => .tup [.int .i64 x.1, .bool x.2]) h ?_
        first | rfl | simp only [go_sem, resAV, resAll, resOne, reduceAdd, reduceLT, reduceLeDiff, reduceEqDiff, Nat.reduceBEq, Nat.reduceBNe]
      ·simp only [go_sem, reduceAdd, reduceLT, reduceLeDiff, reduceEqDiff, Nat.reduceBEq, Nat.reduceBNe]
       refine grd_ (fun hb42 => ?_) (fun hb42 => ?_)
       ·simp only [go_sem, reduceAdd, reduceLT, reduceLeDiff, reduceEqDiff, Nat.reduceBEq, Nat.reduceBNe]
        exact atJ (wkn Jg41 ⟨rfl, congrArg AV.bool (by first | rfl | (rw [hb42]; rfl) | (simp [hb42]; done) | simp_all), trivial⟩)
       ·simp only [go_sem, reduceAdd, reduceLT, reduceLeDiff, reduceEqDiff, Nat.reduceBEq, Nat.reduceBNe]
        exact atJ (wkn Jg41 ⟨rfl, congrArg AV.bool (by first | rfl | (rw [hb42]; rfl) | (simp [hb42]; done) | simp_all), trivial⟩)
    ·clear hK15
     simp only [go_sem, reduceAdd, reduceLT, reduceLeDiff, reduceEqDiff, Nat.reduceBEq, Nat.reduceBNe]
     refine lpJ 77 fuel (fun q1 w => ∀ (v16 : Int) (v17 : Bool) (v18 : Int), ref09_Arity_l1 s K15 q1 v16 v17 v18 = some r → w [(0, .str s), (4, .int .i64 v16), (5, .bool v17), (6, .int .i64 v18)] []) (fun w _ _ _ h => nomatch h) (fun q1 ih1 v16 v17 v18 h => ?_) (fun L1 => ?_)
     ·unfold ref09_Arity_l1 at h
      refine runL 10000 ?_
      simp only [go_sem, reduceAdd, reduceLT, reduceLeDiff, reduceEqDiff, Nat.reduceBEq, Nat.reduceBNe]
      refine cnd_s 10000 h (fun hb h => ?_) (fun hb h => ?_)
      ·simp only [go_sem, reduceAdd, reduceLT, reduceLeDiff, reduceEqDiff, Nat.reduceBEq, Nat.reduceBNe]
       refine letK_s h fun K20 hK20 h => ?_
       refine blkJ 77 10000 (fun w => ∀ (v35 : Int) (v36 : Bool), K20 v35 v36 = some r → w [(0, .str s), (4, .int .i64 v35), (5, .bool v36), (6, .int .i64 v18)] []) (fun v35 v36 h => runX 10000 ?_) (fun JK20 => ?_)
       ·subst hK20
        dsimp only at h
        refine add_s h fun v38 _ e37 h => ?_
        simp only [go_sem, reduceAdd, reduceLT, reduceLeDiff, reduceEqDiff, Nat.reduceBEq, Nat.reduceBNe, e37]
        exact lp_back (ih1 v35 v36 v38 h) ⟨rfl, rfl, rfl, rfl, trivial⟩
       ·clear hK20
        refine sIdx_s .i64 h fun v23 _ b21 e22 h => ?_
        simp only [go_sem, reduceAdd, reduceLT, reduceLeDiff, reduceEqDiff, Nat.reduceBEq, Nat.reduceBNe, b21, e22]
        refine cnd_s 10000 h (fun hb h => ?_) (fun hb h => ?_)
        ·refine bsome h fun v24 hv24 h => ?_
         simp only [go_sem, reduceAdd, reduceLT, reduceLeDiff, reduceEqDiff, Nat.reduceBEq, Nat.reduceBNe]
         refine callX_ 10000 (w_ref09_small  hv24) (by first | rfl | simp only [go_sem]) (by first | rfl | simp only [go_sem]) ?_
         simp only [go_sem, reduceAdd, reduceLT, reduceLeDiff, reduceEqDiff, Nat.reduceBEq, Nat.reduceBNe]
         refine cnd_s 10000 h (fun hb h => ?_) (fun hb h => ?_)
         ·simp only [go_sem, reduceAdd, reduceLT, reduceLeDiff, reduceEqDiff, Nat.reduceBEq, Nat.reduceBNe]
          refine ret_s (fun x => .tup [.int .i64 x.1, .bool x.2]) h ?_
          first | rfl | simp only [go_sem, resAV, resAll, resOne, reduceAdd, reduceLT, reduceLeDiff, reduceEqDiff, Nat.reduceBEq, Nat.reduceBNe]
         ·simp only [go_sem, reduceAdd, reduceLT, reduceLeDiff, reduceEqDiff, Nat.reduceBEq, Nat.reduceBNe]
          exact atJ (wkn (JK20 v16 false h) ⟨rfl, rfl, rfl, rfl, trivial⟩)
        ·simp only [go_sem, reduceAdd, reduceLT, reduceLeDiff, reduceEqDiff, Nat.reduceBEq, Nat.reduceBNe]
         refine cnd_s 10000 h (fun hb h => ?_) (fun hb h => ?_)
         ·refine add_s h fun v26 _ e25 h => ?_
          simp only [go_sem, reduceAdd, reduceLT, reduceLeDiff, reduceEqDiff, Nat.reduceBEq, Nat.reduceBNe, e25]
          exact atJ (wkn (JK20 v26 true h) ⟨rfl, rfl, rfl, rfl, trivial⟩)
         ·simp only [go_sem, reduceAdd, reduceLT, reduceLeDiff, reduceEqDiff, Nat.reduceBEq, Nat.reduceBNe]
          refine bsome h fun y27 hy27 h => ?_
          refine rgJ 77 10000 (.inl rfl) (fun w => w [(0, .str s), (4, .int .i64 v16), (5, .bool v17), (6, .int .i64 v18), (67, .bool y27)] []) (runX 10000 ?_) (fun Jy27 => ?_)
          ·clear hy27
           simp only [go_sem, reduceAdd, reduceLT, reduceLeDiff, reduceEqDiff, Nat.reduceBEq, Nat.reduceBNe]
           refine cnd_s 10000 h (fun hb h => ?_) (fun hb h => ?_)
           ·simp only [go_sem, reduceAdd, reduceLT, reduceLeDiff, reduceEqDiff, Nat.reduceBEq, Nat.reduceBNe]
            refine ret_s (fun x => .tup [.int .i64 x.1, .bool x.2]) h ?_
            first | rfl | simp only [go_sem, resAV, resAll, resOne, reduceAdd, reduceLT, reduceLeDiff, reduceEqDiff, Nat.reduceBEq, Nat.reduceBNe]
           ·simp only [go_sem, reduceAdd, reduceLT, reduceLeDiff, reduceEqDiff, Nat.reduceBEq, Nat.reduceBNe]
            exact atJ (wkn (JK20 v16 v17 h) ⟨rfl, rfl, rfl, rfl, trivial⟩)
          ·clear h
           have h := hy27
           refine bsome h fun v29 hv29 h => ?_
           simp only [go_sem, reduceAdd, reduceLT, reduceLeDiff, reduceEqDiff, Nat.reduceBEq, Nat.reduceBNe]
           refine callX_ 10000 (w_ref09_small  hv29) (by first | rfl | simp only [go_sem]) (by first | rfl | simp only [go_sem]) ?_
           simp only [go_sem, reduceAdd, reduceLT, reduceLeDiff, reduceEqDiff, Nat.reduceBEq, Nat.reduceBNe]
           refine grd_ (fun hb30 => ?_) (fun hb30 => ?_)
           ·have h := ite_t hb30 h
            simp only [go_sem, reduceAdd, reduceLT, reduceLeDiff, reduceEqDiff, Nat.reduceBEq, Nat.reduceBNe]
            refine grd_ (fun hb31 => ?_) (fun hb31 => ?_)
            ·have h := ite_f hb31 h
             simp only [go_sem, reduceAdd, reduceLT, reduceLeDiff, reduceEqDiff, Nat.reduceBEq, Nat.reduceBNe]
             refine grd_ (fun hb32 => ?_) (fun hb32 => ?_)
             ·have h := ite_t hb32 h
              simp only [go_sem, reduceAdd, reduceLT, reduceLeDiff, reduceEqDiff, Nat.reduceBEq, Nat.reduceBNe]
              refine grd_ (fun hb33 => ?_) (fun hb33 => ?_)
              ·have h := ite_f hb33 h
               simp only [go_sem, reduceAdd, reduceLT, reduceLeDiff, reduceEqDiff, Nat.reduceBEq, Nat.reduceBNe]
               obtain rfl := Option.some.inj h
               exact atJ (wkn (Jy27) ⟨rfl, rfl, rfl, rfl, rfl, trivial⟩)
              ·have h := ite_t hb33 h
               simp only [go_sem, reduceAdd, reduceLT, reduceLeDiff, reduceEqDiff, Nat.reduceBEq, Nat.reduceBNe]
               obtain rfl := Option.some.inj h
               exact atJ (wkn (Jy27) ⟨rfl, rfl, rfl, rfl, rfl, trivial⟩)
             ·have h := ite_f hb32 h
              simp only [go_sem, reduceAdd, reduceLT, reduceLeDiff, reduceEqDiff, Nat.reduceBEq, Nat.reduceBNe]
              obtain rfl := Option.some.inj h
              exact atJ (wkn (Jy27) ⟨rfl, rfl, rfl, rfl, rfl, trivial⟩)
            ·have h := ite_t hb31 h
             simp only [go_sem, reduceAdd, reduceLT, reduceLeDiff, reduceEqDiff, Nat.reduceBEq, Nat.reduceBNe]
             refine grd_ (fun hb34 => ?_) (fun hb34 => ?_)
             ·have h := ite_f hb34 h
              simp only [go_sem, reduceAdd, reduceLT, reduceLeDiff, reduceEqDiff, Nat.reduceBEq, Nat.reduceBNe]
              obtain rfl := Option.some.inj h
              exact atJ (wkn (Jy27) ⟨rfl, rfl, rfl, rfl, rfl, trivial⟩)
             ·have h := ite_t hb34 h
              simp only [go_sem, reduceAdd, reduceLT, reduceLeDiff, reduceEqDiff, Nat.reduceBEq, Nat.reduceBNe]
              obtain rfl := Option.some.inj h
              exact atJ (wkn (Jy27) ⟨rfl, rfl, rfl, rfl, rfl, trivial⟩)
           ·have h := ite_f hb30 h
            simp only [go_sem, reduceAdd, reduceLT, reduceLeDiff, reduceEqDiff, Nat.reduceBEq, Nat.reduceBNe]
            obtain rfl := Option.some.inj h
            exact atJ (wkn (Jy27) ⟨rfl, rfl, rfl, rfl, rfl, trivial⟩)
      ·simp only [go_sem, reduceAdd, reduceLT, reduceLeDiff, reduceEqDiff, Nat.reduceBEq, Nat.reduceBNe]
       exact atJ (wkn (JK15 v16 v17 h) ⟨rfl, rfl, trivial⟩)
     ·exact lp_back (L1 0 true 0 h) ⟨rfl, rfl, rfl, rfl, trivial⟩
 ·simp only [go_sem, reduceAdd, reduceLT, reduceLeDiff, reduceEqDiff, Nat.reduceBEq, Nat.reduceBNe]
  refine grd_ (fun hb43 => ?_) (fun hb43 => ?_)
  ·simp only [go_sem, reduceAdd, reduceLT, reduceLeDiff, reduceEqDiff, Nat.reduceBEq, Nat.reduceBNe]
   exact atJ (wkn Jg1 ⟨rfl, congrArg AV.bool (by first | rfl | (rw [hb43]; rfl) | (simp [hb43]; done) | simp_all), trivial⟩)
  ·simp only [go_sem, reduceAdd, reduceLT, reduceLeDiff, reduceEqDiff, Nat.reduceBEq, Nat.reduceBNe]
   exact atJ (wkn Jg1 ⟨rfl, congrArg AV.bool (by first | rfl | (rw [hb43]; rfl) | (simp [hb43]; done) | simp_all), trivial⟩)
theorem w_ref14_takes {sel : Str} {n : Int}   {r : Bool} (h : ref14_takes sel n = some r) : ACall Tryz.prog 67 [.str sel, .int .i64 n] [] (.bool r) [] := by
 refine acallX 10000 hf67 ok67 (by first | rfl | simp only [go_sem]) meek_bool ?_
 dsimp only [Tryz.f67, nums, Option.getD, List.append]
 unfold ref14_takes at h
 refine bsome h fun v1 hv1 h => ?_
 simp only [go_sem, reduceAdd, reduceLT, reduceLeDiff, reduceEqDiff, Nat.reduceBEq, Nat.reduceBNe]
 refine callX_ 10000 (w_ref09_Arity  hv1) (by first | rfl | simp only [go_sem]) (by first | rfl | simp only [go_sem]) ?_
 simp only [go_sem, reduceAdd, reduceLT, reduceLeDiff, reduceEqDiff, Nat.reduceBEq, Nat.reduceBNe]
 refine rgJ 18 10000 (.inl rfl) (fun w => w [(4, .bool (v1.2 && (decide (v1.1 = n))))] []) (runX 10000 ?_) (fun Jg2 => ?_)
 ·simp only [go_sem, reduceAdd, reduceLT, reduceLeDiff, reduceEqDiff, Nat.reduceBEq, Nat.reduceBNe]
  refine ret_s (fun x => .bool x) h ?_
  first | rfl | simp only [go_sem, resAV, resAll, resOne, reduceAdd, reduceLT, reduceLeDiff, reduceEqDiff, Nat.reduceBEq, Nat.reduceBNe]
 ·simp only [go_sem, reduceAdd, reduceLT, reduceLeDiff, reduceEqDiff, Nat.reduceBEq, Nat.reduceBNe]
  refine grd_ (fun hb3 => ?_) (fun hb3 => ?_)
  ·simp only [go_sem, reduceAdd, reduceLT, reduceLeDiff, reduceEqDiff, Nat.reduceBEq, Nat.reduceBNe]
   exact atJ (wkn Jg2 ⟨congrArg AV.bool (by first | rfl | (rw [hb3]; rfl) | (simp [hb3]; done) | simp_all), trivial⟩)
  ·simp only [go_sem, reduceAdd, reduceLT, reduceLeDiff, reduceEqDiff, Nat.reduceBEq, Nat.reduceBNe]
   exact atJ (wkn Jg2 ⟨congrArg AV.bool (by first | rfl | (rw [hb3]; rfl) | (simp [hb3]; done) | simp_all), trivial⟩)
theorem w_ref10_Name {s : Str} {lo : Int} {hi : Int}   {r : Bool} (h : ref10_Name s lo hi = some r) : ACall Tryz.prog 85 [.str s, .int .u8 lo, .int .u8 hi] [] (.bool r) [] := by
 refine acallX 10000 hf85 ok85 (by first | rfl | simp only [go_sem]) meek_bool ?_
 dsimp only [Tryz.f85, nums, Option.getD, List.append]
 unfold ref10_Name at h
 simp only [go_sem, reduceAdd, reduceLT, reduceLeDiff, reduceEqDiff, Nat.reduceBEq, Nat.reduceBNe]
 refine bsome h fun y1 hy1 h => ?_
 refine rgJ 68 10000 (.inl rfl) (fun w => w [(0, .str s), (27, .bool y1)] []) (runX 10000 ?_) (fun Jy1 => ?_)
 ·clear hy1
  simp only [go_sem, reduceAdd, reduceLT, reduceLeDiff, reduceEqDiff, Nat.reduceBEq, Nat.reduceBNe]
  refine cnd_s 10000 h (fun hb h => ?_) (fun hb h => ?_)
  ·simp only [go_sem, reduceAdd, reduceLT, reduceLeDiff, reduceEqDiff, Nat.reduceBEq, Nat.reduceBNe]
   refine ret_s (fun x => .bool x) h ?_
   first | rfl | simp only [go_sem, resAV, resAll, resOne, reduceAdd, reduceLT, reduceLeDiff, reduceEqDiff, Nat.reduceBEq, Nat.reduceBNe]
  ·simp only [go_sem, reduceAdd, reduceLT, reduceLeDiff, reduceEqDiff, Nat.reduceBEq, Nat.reduceBNe]
   refine letK_s h fun K12 hK12 h => ?_
   refine blkJ 68 10000 (fun w => K12 () = some r → w [] []) (fun  h => runX 10000 ?_) (fun JK12 => ?_)
   ·subst hK12
    dsimp only at h
    simp only [go_sem, reduceAdd, reduceLT, reduceLeDiff, reduceEqDiff, Nat.reduceBEq, Nat.reduceBNe]
    refine ret_s (fun x => .bool x) h ?_
    first | rfl | simp only [go_sem, resAV, resAll, resOne, reduceAdd, reduceLT, reduceLeDiff, reduceEqDiff, Nat.reduceBEq, Nat.reduceBNe]
   ·clear hK12
    simp only [go_sem, reduceAdd, reduceLT, reduceLeDiff, reduceEqDiff, Nat.reduceBEq, Nat.reduceBNe]
    refine lpJ 68 fuel (fun q1 w => ∀ (v13 : Int), ref10_Name_l1 s K12 q1 v13 = some r → w [(0, .str s), (7, .int .i64 v13)] []) (fun w _ h => nomatch h) (fun q1 ih1 v13 h => ?_) (fun L1 => ?_)
    ·unfold ref10_Name_l1 at h
     refine runL 10000 ?_
     simp only [go_sem, reduceAdd, reduceLT, reduceLeDiff, reduceEqDiff, Nat.reduceBEq, Nat.reduceBNe]
     refine cnd_s 10000 h (fun hb h => ?_) (fun hb h => ?_)
     ·simp only [go_sem, reduceAdd, reduceLT, reduceLeDiff, reduceEqDiff, Nat.reduceBEq, Nat.reduceBNe]
      refine blk_ 10000 ?_
      simp only [go_sem, reduceAdd, reduceLT, reduceLeDiff, reduceEqDiff, Nat.reduceBEq, Nat.reduceBNe]
      refine bsome h fun y14 hy14 h => ?_
      refine rgJ 68 10000 (.inl rfl) (fun w => w [(0, .str s), (7, .int .i64 v13), (67, .bool y14)] []) (runX 10000 ?_) (fun Jy14 => ?_)
      ·clear hy14
       simp only [go_sem, reduceAdd, reduceLT, reduceLeDiff, reduceEqDiff, Nat.reduceBEq, Nat.reduceBNe]
       refine cnd_s 10000 h (fun hb h => ?_) (fun hb h => ?_)
       ·simp only [go_sem, reduceAdd, reduceLT, reduceLeDiff, reduceEqDiff, Nat.reduceBEq, Nat.reduceBNe]
        refine ret_s (fun x => .bool x) h ?_
        first | rfl | simp only [go_sem, resAV, resAll, resOne, reduceAdd, reduceLT, reduceLeDiff, reduceEqDiff, Nat.reduceBEq, Nat.reduceBNe]
       ·refine add_s h fun v56 _ e55 h => ?_
        simp only [go_sem, reduceAdd, reduceLT, reduceLeDiff, reduceEqDiff, Nat.reduceBEq, Nat.reduceBNe, e55]
        exact lp_back (ih1 v56 h) ⟨rfl, rfl, trivial⟩
      ·clear h
       have h := hy14
       refine sIdx_s .i64 h fun v18 _ b16 e17 h => ?_
       simp only [go_sem, reduceAdd, reduceLT, reduceLeDiff, reduceEqDiff, Nat.reduceBEq, Nat.reduceBNe, b16, e17]
       refine grd_ (fun hb19 => ?_) (fun hb19 => ?_)
       ·have h := ite_f hb19 h
        simp only [go_sem, reduceAdd, reduceLT, reduceLeDiff, reduceEqDiff, Nat.reduceBEq, Nat.reduceBNe, b16, e17]
        refine grd_ (fun hb22 => ?_) (fun hb22 => ?_)
        ·have h := ite_t hb22 h
         simp only [go_sem, reduceAdd, reduceLT, reduceLeDiff, reduceEqDiff, Nat.reduceBEq, Nat.reduceBNe, b16, e17]
         refine grd_ (fun hb25 => ?_) (fun hb25 => ?_)
         ·have h := ite_f hb25 h
          simp only [go_sem, reduceAdd, reduceLT, reduceLeDiff, reduceEqDiff, Nat.reduceBEq, Nat.reduceBNe, b16, e17]
          refine grd_ (fun hb28 => ?_) (fun hb28 => ?_)
          ·have h := ite_t hb28 h
           simp only [go_sem, reduceAdd, reduceLT, reduceLeDiff, reduceEqDiff, Nat.reduceBEq, Nat.reduceBNe, b16, e17]
           refine grd_ (fun hb31 => ?_) (fun hb31 => ?_)
           ·have h := ite_f hb31 h
            simp only [go_sem, reduceAdd, reduceLT, reduceLeDiff, reduceEqDiff, Nat.reduceBEq, Nat.reduceBNe, b16, e17]
            obtain rfl := Option.some.inj h
            exact atJ (wkn (Jy14) ⟨rfl, rfl, rfl, trivial⟩)
           ·have h := ite_t hb31 h
            simp only [go_sem, reduceAdd, reduceLT, reduceLeDiff, reduceEqDiff, Nat.reduceBEq, Nat.reduceBNe]
            obtain rfl := Option.some.inj h
            exact atJ (wkn (Jy14) ⟨rfl, rfl, rfl, trivial⟩)
          ·have h := ite_f hb28 h
           simp only [go_sem, reduceAdd, reduceLT, reduceLeDiff, reduceEqDiff, Nat.reduceBEq, Nat.reduceBNe]
           obtain rfl := Option.some.inj h
           exact atJ (wkn (Jy14) ⟨rfl, rfl, rfl, trivial⟩)
         ·have h := ite_t hb25 h
          simp only [go_sem, reduceAdd, reduceLT, reduceLeDiff, reduceEqDiff, Nat.reduceBEq, Nat.reduceBNe, b16, e17]
          refine grd_ (fun hb36 => ?_) (fun hb36 => ?_)
          ·have h := ite_f hb36 h
           simp only [go_sem, reduceAdd, reduceLT, reduceLeDiff, reduceEqDiff, Nat.reduceBEq, Nat.reduceBNe, b16, e17]
           obtain rfl := Option.some.inj h
           exact atJ (wkn (Jy14) ⟨rfl, rfl, rfl, trivial⟩)
          ·have h := ite_t hb36 h
           simp only [go_sem, reduceAdd, reduceLT, reduceLeDiff, reduceEqDiff, Nat.reduceBEq, Nat.reduceBNe]
           obtain rfl := Option.some.inj h
           exact atJ (wkn (Jy14) ⟨rfl, rfl, rfl, trivial⟩)
        ·have h := ite_f hb22 h
         simp only [go_sem, reduceAdd, reduceLT, reduceLeDiff, reduceEqDiff, Nat.reduceBEq, Nat.reduceBNe]
         obtain rfl := Option.some.inj h
         exact atJ (wkn (Jy14) ⟨rfl, rfl, rfl, trivial⟩)
       ·have h := ite_t hb19 h
        simp only [go_sem, reduceAdd, reduceLT, reduceLeDiff, reduceEqDiff, Nat.reduceBEq, Nat.reduceBNe, b16, e17]
        refine grd_ (fun hb41 => ?_) (fun hb41 => ?_)
        ·have h := ite_f hb41 h
         simp only [go_sem, reduceAdd, reduceLT, reduceLeDiff, reduceEqDiff, Nat.reduceBEq, Nat.reduceBNe, b16, e17]
         refine grd_ (fun hb44 => ?_) (fun hb44 => ?_)
         ·have h := ite_t hb44 h
          simp only [go_sem, reduceAdd, reduceLT, reduceLeDiff, reduceEqDiff, Nat.reduceBEq, Nat.reduceBNe, b16, e17]
          refine grd_ (fun hb47 => ?_) (fun hb47 => ?_)
          ·have h := ite_f hb47 h
           simp only [go_sem, reduceAdd, reduceLT, reduceLeDiff, reduceEqDiff, Nat.reduceBEq, Nat.reduceBNe, b16, e17]
           obtain rfl := Option.some.inj h
           exact atJ (wkn (Jy14) ⟨rfl, rfl, rfl, trivial⟩)
          ·have h := ite_t hb47 h
           simp only [go_sem, reduceAdd, reduceLT, reduceLeDiff, reduceEqDiff, Nat.reduceBEq, Nat.reduceBNe]
           obtain rfl := Option.some.inj h
           exact atJ (wkn (Jy14) ⟨rfl, rfl, rfl, trivial⟩)
         ·have h := ite_f hb44 h
          simp only [go_sem, reduceAdd, reduceLT, reduceLeDiff, reduceEqDiff, Nat.reduceBEq, Nat.reduceBNe]
          obtain rfl := Option.some.inj h
          exact atJ (wkn (Jy14) ⟨rfl, rfl, rfl, trivial⟩)
        ·have h := ite_t hb41 h
         simp only [go_sem, reduceAdd, reduceLT, reduceLeDiff, reduceEqDiff, Nat.reduceBEq, Nat.reduceBNe, b16, e17]
         refine grd_ (fun hb52 => ?_) (fun hb52 => ?_)
         ·have h := ite_f hb52 h
          simp only [go_sem, reduceAdd, reduceLT, reduceLeDiff, reduceEqDiff, Nat.reduceBEq, Nat.reduceBNe, b16, e17]
          obtain rfl := Option.some.inj h
          exact atJ (wkn (Jy14) ⟨rfl, rfl, rfl, trivial⟩)
         ·have h := ite_t hb52 h
          simp only [go_sem, reduceAdd, reduceLT, reduceLeDiff, reduceEqDiff, Nat.reduceBEq, Nat.reduceBNe]
          obtain rfl := Option.some.inj h
          exact atJ (wkn (Jy14) ⟨rfl, rfl, rfl, trivial⟩)
     ·simp only [go_sem, reduceAdd, reduceLT, reduceLeDiff, reduceEqDiff, Nat.reduceBEq, Nat.reduceBNe]
      exact atJ (wkn (JK12  h) trivial)
    ·exact lp_back (L1 0 h) ⟨rfl, rfl, trivial⟩
 ·clear h
  have h := hy1
  simp only [go_sem, reduceAdd, reduceLT, reduceLeDiff, reduceEqDiff, Nat.reduceBEq, Nat.reduceBNe]
  refine grd_ (fun hb3 => ?_) (fun hb3 => ?_)
  ·have h := ite_f hb3 h
   simp only [go_sem, reduceAdd, reduceLT, reduceLeDiff, reduceEqDiff, Nat.reduceBEq, Nat.reduceBNe]
   refine grd_ (fun hb4 => ?_) (fun hb4 => ?_)
   ·have h := ite_f hb4 h
    refine sIdx_s .i64 h fun v7 _ b5 e6 h => ?_
    simp only [go_sem, reduceAdd, reduceLT, reduceLeDiff, reduceEqDiff, Nat.reduceBEq, Nat.reduceBNe, b5, e6]
    refine grd_ (fun hb8 => ?_) (fun hb8 => ?_)
    ·have h := ite_f hb8 h
     simp only [go_sem, reduceAdd, reduceLT, reduceLeDiff, reduceEqDiff, Nat.reduceBEq, Nat.reduceBNe, b5, e6]
     obtain rfl := Option.some.inj h
     exact atJ (wkn (Jy1) ⟨rfl, rfl, trivial⟩)
    ·have h := ite_t hb8 h
     simp only [go_sem, reduceAdd, reduceLT, reduceLeDiff, reduceEqDiff, Nat.reduceBEq, Nat.reduceBNe]
     obtain rfl := Option.some.inj h
     exact atJ (wkn (Jy1) ⟨rfl, rfl, trivial⟩)
   ·have h := ite_t hb4 h
    simp only [go_sem, reduceAdd, reduceLT, reduceLeDiff, reduceEqDiff, Nat.reduceBEq, Nat.reduceBNe]
    obtain rfl := Option.some.inj h
    exact atJ (wkn (Jy1) ⟨rfl, rfl, trivial⟩)
  ·have h := ite_t hb3 h
   simp only [go_sem, reduceAdd, reduceLT, reduceLeDiff, reduceEqDiff, Nat.reduceBEq, Nat.reduceBNe]
   obtain rfl := Option.some.inj h
   exact atJ (wkn (Jy1) ⟨rfl, rfl, trivial⟩)
theorem w_ref10_Var {s : Str}   {r : Bool} (h : ref10_Var s = some r) : ACall Tryz.prog 86 [.str s] [] (.bool r) [] := by
 refine acallX 10000 hf86 ok86 (by first | rfl | simp only [go_sem]) meek_bool ?_
 dsimp only [Tryz.f86, nums, Option.getD, List.append]
 unfold ref10_Var at h
 simp only [go_sem, reduceAdd, reduceLT, reduceLeDiff, reduceEqDiff, Nat.reduceBEq, Nat.reduceBNe]
 refine bsome h fun y1 hy1 h => ?_
 refine rgJ 25 10000 (.inl rfl) (fun w => w [(2, .bool y1)] []) (runX 10000 ?_) (fun Jy1 => ?_)
 ·clear hy1
  simp only [go_sem, reduceAdd, reduceLT, reduceLeDiff, reduceEqDiff, Nat.reduceBEq, Nat.reduceBNe]
  refine ret_s (fun x => .bool x) h ?_
  first | rfl | simp only [go_sem, resAV, resAll, resOne, reduceAdd, reduceLT, reduceLeDiff, reduceEqDiff, Nat.reduceBEq, Nat.reduceBNe]
 ·clear h
  have h := hy1
  refine bsome h fun v3 hv3 h => ?_
  simp only [go_sem, reduceAdd, reduceLT, reduceLeDiff, reduceEqDiff, Nat.reduceBEq, Nat.reduceBNe]
  refine callX_ 10000 (w_ref10_Name  hv3) (by first | rfl | simp only [go_sem]) (by first | rfl | simp only [go_sem]) ?_
  simp only [go_sem, reduceAdd, reduceLT, reduceLeDiff, reduceEqDiff, Nat.reduceBEq, Nat.reduceBNe]
  refine grd_ (fun hb4 => ?_) (fun hb4 => ?_)
  ·have h := ite_t hb4 h
   simp only [go_sem, reduceAdd, reduceLT, reduceLeDiff, reduceEqDiff, Nat.reduceBEq, Nat.reduceBNe]
   refine grd_ (fun hb5 => ?_) (fun hb5 => ?_)
   ·have h := ite_t hb5 h
    simp only [go_sem, reduceAdd, reduceLT, reduceLeDiff, reduceEqDiff, Nat.reduceBEq, Nat.reduceBNe]
    refine grd_ (fun hb6 => ?_) (fun hb6 => ?_)
    ·have h := ite_t hb6 h
     simp only [go_sem, reduceAdd, reduceLT, reduceLeDiff, reduceEqDiff, Nat.reduceBEq, Nat.reduceBNe]
     refine grd_ (fun hb7 => ?_) (fun hb7 => ?_)
     ·have h := ite_t hb7 h
      simp only [go_sem, reduceAdd, reduceLT, reduceLeDiff, reduceEqDiff, Nat.reduceBEq, Nat.reduceBNe]
      refine grd_ (fun hb8 => ?_) (fun hb8 => ?_)
      ·have h := ite_t hb8 h
       simp only [go_sem, reduceAdd, reduceLT, reduceLeDiff, reduceEqDiff, Nat.reduceBEq, Nat.reduceBNe]
       obtain rfl := Option.some.inj h
       exact atJ (wkn (Jy1) ⟨rfl, trivial⟩)
      ·have h := ite_f hb8 h
       simp only [go_sem, reduceAdd, reduceLT, reduceLeDiff, reduceEqDiff, Nat.reduceBEq, Nat.reduceBNe]
       obtain rfl := Option.some.inj h
       exact atJ (wkn (Jy1) ⟨rfl, trivial⟩)
     ·have h := ite_f hb7 h
      simp only [go_sem, reduceAdd, reduceLT, reduceLeDiff, reduceEqDiff, Nat.reduceBEq, Nat.reduceBNe]
      obtain rfl := Option.some.inj h
      exact atJ (wkn (Jy1) ⟨rfl, trivial⟩)
    ·have h := ite_f hb6 h
     simp only [go_sem, reduceAdd, reduceLT, reduceLeDiff, reduceEqDiff, Nat.reduceBEq, Nat.reduceBNe]
     obtain rfl := Option.some.inj h
     exact atJ (wkn (Jy1) ⟨rfl, trivial⟩)
   ·have h := ite_f hb5 h
    simp only [go_sem, reduceAdd, reduceLT, reduceLeDiff, reduceEqDiff, Nat.reduceBEq, Nat.reduceBNe]
    obtain rfl := Option.some.inj h
    exact atJ (wkn (Jy1) ⟨rfl, trivial⟩)
  ·have h := ite_f hb4 h
   simp only [go_sem, reduceAdd, reduceLT, reduceLeDiff, reduceEqDiff, Nat.reduceBEq, Nat.reduceBNe]
   obtain rfl := Option.some.inj h
   exact atJ (wkn (Jy1) ⟨rfl, trivial⟩)
theorem w_ref14_Vars {l : (List Str)} {most : Int}   {r : Bool} (h : ref14_Vars l most = some r) : ACall Tryz.prog 68 [.sl none (List.map AV.str l), .int .i64 most] [] (.bool r) [] := by
 refine acallX 10000 hf68 ok68 (by first | rfl | simp only [go_sem]) meek_bool ?_
 dsimp only [Tryz.f68, nums, Option.getD, List.append]
 unfold ref14_Vars at h
 simp only [go_sem, reduceAdd, reduceLT, reduceLeDiff, reduceEqDiff, Nat.reduceBEq, Nat.reduceBNe]
 refine cnd_s 10000 h (fun hb h => ?_) (fun hb h => ?_)
 ·simp only [go_sem, reduceAdd, reduceLT, reduceLeDiff, reduceEqDiff, Nat.reduceBEq, Nat.reduceBNe]
  refine ret_s (fun x => .bool x) h ?_
  first | rfl | simp only [go_sem, resAV, resAll, resOne, reduceAdd, reduceLT, reduceLeDiff, reduceEqDiff, Nat.reduceBEq, Nat.reduceBNe]
 ·simp only [go_sem, reduceAdd, reduceLT, reduceLeDiff, reduceEqDiff, Nat.reduceBEq, Nat.reduceBNe]
  refine letK_s h fun K2 hK2 h => ?_
  refine blkJ 37 10000 (fun w => K2 () = some r → w [] []) (fun  h => runX 10000 ?_) (fun JK2 => ?_)
  ·subst hK2
   dsimp only at h
   simp only [go_sem, reduceAdd, reduceLT, reduceLeDiff, reduceEqDiff, Nat.reduceBEq, Nat.reduceBNe]
   refine ret_s (fun x => .bool x) h ?_
   first | rfl | simp only [go_sem, resAV, resAll, resOne, reduceAdd, reduceLT, reduceLeDiff, reduceEqDiff, Nat.reduceBEq, Nat.reduceBNe]
  ·clear hK2
   simp only [go_sem, reduceAdd, reduceLT, reduceLeDiff, reduceEqDiff, Nat.reduceBEq, Nat.reduceBNe]
   refine lpJ 37 fuel (fun q1 w => ∀ (v3 : Int), ref14_Vars_l1 l K2 q1 v3 = some r → w [(0, .sl none (List.map AV.str l)), (5, .int .i64 v3)] []) (fun w _ h => nomatch h) (fun q1 ih1 v3 h => ?_) (fun L1 => ?_)
   ·unfold ref14_Vars_l1 at h
    refine runL 10000 ?_
    simp only [go_sem, reduceAdd, reduceLT, reduceLeDiff, reduceEqDiff, Nat.reduceBEq, Nat.reduceBNe]
    refine cnd_s 10000 h (fun hb h => ?_) (fun hb h => ?_)
    ·simp only [go_sem, reduceAdd, reduceLT, reduceLeDiff, reduceEqDiff, Nat.reduceBEq, Nat.reduceBNe]
     refine blk_ 10000 ?_
     refine lAt_s AV.str none .i64 ⟨9, 1, false, 16⟩ (fun _ => rfl) h fun v6 _ b4 e5 h => ?_
     refine bsome h fun v7 hv7 h => ?_
     simp only [go_sem, reduceAdd, reduceLT, reduceLeDiff, reduceEqDiff, Nat.reduceBEq, Nat.reduceBNe, b4, e5]
     refine callX_ 10000 (w_ref10_Var  hv7) (by first | rfl | simp only [go_sem]) (by first | rfl | simp only [go_sem]) ?_
     simp only [go_sem, reduceAdd, reduceLT, reduceLeDiff, reduceEqDiff, Nat.reduceBEq, Nat.reduceBNe]
     refine cnd_s 10000 h (fun hb h => ?_) (fun hb h => ?_)
     ·simp only [go_sem, reduceAdd, reduceLT, reduceLeDiff, reduceEqDiff, Nat.reduceBEq, Nat.reduceBNe]
      refine ret_s (fun x => .bool x) h ?_
      first | rfl | simp only [go_sem, resAV, resAll, resOne, reduceAdd, reduceLT, reduceLeDiff, reduceEqDiff, Nat.reduceBEq, Nat.reduceBNe]
     ·simp only [go_sem, reduceAdd, reduceLT, reduceLeDiff, reduceEqDiff, Nat.reduceBEq, Nat.reduceBNe]
      refine letK_s h fun K9 hK9 h => ?_
      refine blkJ 37 10000 (fun w => K9 () = some r → w [(0, .sl none (List.map AV.str l)), (5, .int .i64 v3)] []) (fun  h => runX 10000 ?_) (fun JK9 => ?_)
      ·subst hK9
       dsimp only at h
       refine add_s h fun v19 _ e18 h => ?_
       simp only [go_sem, reduceAdd, reduceLT, reduceLeDiff, reduceEqDiff, Nat.reduceBEq, Nat.reduceBNe, e18]
       exact lp_back (ih1 v19 h) ⟨rfl, rfl, trivial⟩
      ·clear hK9
       simp only [go_sem, reduceAdd, reduceLT, reduceLeDiff, reduceEqDiff, Nat.reduceBEq, Nat.reduceBNe]
       refine lpJ 37 fuel (fun q2 w => ∀ (v10 : Int), ref14_Vars_l2 l v3 v6 K9 q2 v10 = some r → w [(0, .sl none (List.map AV.str l)), (5, .int .i64 v3), (6, .int .i64 v10)] []) (fun w _ h => nomatch h) (fun q2 ih2 v10 h => ?_) (fun L2 => ?_)
       ·unfold ref14_Vars_l2 at h
        refine runL 10000 ?_
        simp only [go_sem, reduceAdd, reduceLT, reduceLeDiff, reduceEqDiff, Nat.reduceBEq, Nat.reduceBNe]
        refine cnd_s 10000 h (fun hb h => ?_) (fun hb h => ?_)
        ·simp only [go_sem, reduceAdd, reduceLT, reduceLeDiff, reduceEqDiff, Nat.reduceBEq, Nat.reduceBNe]
         refine blk_ 10000 ?_
         simp only [go_sem, reduceAdd, reduceLT, reduceLeDiff, reduceEqDiff, Nat.reduceBEq, Nat.reduceBNe]
         refine rg_ 10000 (.inr ⟨[], by kernel_rfl, by kernel_rfl, by rfl⟩) ?_
         refine lAt_s AV.str none .i64 ⟨9, 1, false, 16⟩ (fun _ => rfl) h fun v13 _ b11 e12 h => ?_
         simp only [go_sem, reduceAdd, reduceLT, reduceLeDiff, reduceEqDiff, Nat.reduceBEq, Nat.reduceBNe, b11, e12, b4, e5]
         refine cnd_s 10000 h (fun hb h => ?_) (fun hb h => ?_)
         ·simp only [go_sem, reduceAdd, reduceLT, reduceLeDiff, reduceEqDiff, Nat.reduceBEq, Nat.reduceBNe]
          refine ret_s (fun x => .bool x) h ?_
          first | rfl | simp only [go_sem, resAV, resAll, resOne, reduceAdd, reduceLT, reduceLeDiff, reduceEqDiff, Nat.reduceBEq, Nat.reduceBNe]
         ·refine add_s h fun v17 _ e16 h => ?_
          simp only [go_sem, reduceAdd, reduceLT, reduceLeDiff, reduceEqDiff, Nat.reduceBEq, Nat.reduceBNe, e16]
          exact lp_back (ih2 v17 h) ⟨rfl, rfl, rfl, trivial⟩
        ·simp only [go_sem, reduceAdd, reduceLT, reduceLeDiff, reduceEqDiff, Nat.reduceBEq, Nat.reduceBNe]
         exact atJ (wkn (JK9  h) ⟨rfl, rfl, trivial⟩)
       ·exact lp_back (L2 0 h) ⟨rfl, rfl, rfl, trivial⟩
    ·simp only [go_sem, reduceAdd, reduceLT, reduceLeDiff, reduceEqDiff, Nat.reduceBEq, Nat.reduceBNe]
     exact atJ (wkn (JK2  h) trivial)
   ·exact lp_back (L1 0 h) ⟨rfl, rfl, trivial⟩
theorem w_ref03_cut {p0_b : (List Int)}   {r : (List Int)} (h : ref03_cut p0_b = some r) : ACall Tryz.prog 220 [.sl none (List.map (AV.int .u8) p0_b)] [] (.sl none (List.map (AV.int .u8) r)) [] := by
 refine acallX 10000 hf220 ok220 (by first | rfl | simp only [go_sem]) meek_sl ?_
 dsimp only [Tryz.f220, nums, Option.getD, List.append]
 unfold ref03_cut at h
 simp only [go_sem, reduceAdd, reduceLT, reduceLeDiff, reduceEqDiff, Nat.reduceBEq, Nat.reduceBNe]
 refine bsome h fun y1 hy1 h => ?_
 refine blkJ 21 10000 (fun w => w [(0, .sl none (List.map (AV.int .u8) y1))] []) (runX 10000 ?_) (fun Jy1 => ?_)
 ·clear hy1
  simp only [go_sem, reduceAdd, reduceLT, reduceLeDiff, reduceEqDiff, Nat.reduceBEq, Nat.reduceBNe]
  refine ret_s (fun x => .sl none (List.map (AV.int .u8) x)) h ?_
  first | rfl | simp only [go_sem, resAV, resAll, resOne, reduceAdd, reduceLT, reduceLeDiff, reduceEqDiff, Nat.reduceBEq, Nat.reduceBNe]
 ·clear h
  have h := hy1
  simp only [go_sem, reduceAdd, reduceLT, reduceLeDiff, reduceEqDiff, Nat.reduceBEq, Nat.reduceBNe]
  refine lpJ 21 fuel (fun q1 w => ∀ (v3 : (List Int)), ref03_cut_l1  q1 v3 = some y1 → w [(0, .sl none (List.map (AV.int .u8) v3))] []) (fun w _ h => nomatch h) (fun q1 ih1 v3 h => ?_) (fun L1 => ?_)
  ·unfold ref03_cut_l1 at h
   refine runL 10000 ?_
   simp only [go_sem, reduceAdd, reduceLT, reduceLeDiff, reduceEqDiff, Nat.reduceBEq, Nat.reduceBNe]
   refine bsome h fun y4 hy4 h => ?_
   refine rgJ 21 10000 (.inl rfl) (fun w => w [(0, .sl none (List.map (AV.int .u8) v3)), (14, .bool y4)] []) (runX 10000 ?_) (fun Jy4 => ?_)
   ·clear hy4
    simp only [go_sem, reduceAdd, reduceLT, reduceLeDiff, reduceEqDiff, Nat.reduceBEq, Nat.reduceBNe]
    refine cnd_s 10000 h (fun hb h => ?_) (fun hb h => ?_)
    ·simp only [go_sem, reduceAdd, reduceLT, reduceLeDiff, reduceEqDiff, Nat.reduceBEq, Nat.reduceBNe]
     refine blk_ 10000 ?_
     refine sub_s h fun v13 _ e12 h => ?_
     refine subL_s (AV.int .u8) none ⟨5, 1, false, 1⟩ (fun _ => rfl) none (some (.int .i64 v13)) rfl rfl h fun v16 _ b14 e15 h => ?_
     simp only [go_sem, reduceAdd, reduceLT, reduceLeDiff, reduceEqDiff, Nat.reduceBEq, Nat.reduceBNe, e12, b14, e15]
     exact lp_back (ih1 v16 h) ⟨rfl, trivial⟩
    ·simp only [go_sem, reduceAdd, reduceLT, reduceLeDiff, reduceEqDiff, Nat.reduceBEq, Nat.reduceBNe]
     obtain rfl := Option.some.inj h
     exact atJ (wkn (Jy1) ⟨rfl, trivial⟩)
   ·clear h
    have h := hy4
    simp only [go_sem, reduceAdd, reduceLT, reduceLeDiff, reduceEqDiff, Nat.reduceBEq, Nat.reduceBNe]
    refine grd_ (fun hb6 => ?_) (fun hb6 => ?_)
    ·have h := ite_t hb6 h
     refine sub_s h fun v8 _ e7 h => ?_
     refine lAt_s (AV.int .u8) none .i64 ⟨5, 1, false, 1⟩ (fun _ => rfl) h fun v11 _ b9 e10 h => ?_
     simp only [go_sem, reduceAdd, reduceLT, reduceLeDiff, reduceEqDiff, Nat.reduceBEq, Nat.reduceBNe, e7, b9, e10]
     obtain rfl := Option.some.inj h
     exact atJ (wkn (Jy4) ⟨rfl, rfl, trivial⟩)
    ·have h := ite_f hb6 h
     simp only [go_sem, reduceAdd, reduceLT, reduceLeDiff, reduceEqDiff, Nat.reduceBEq, Nat.reduceBNe]
     obtain rfl := Option.some.inj h
     exact atJ (wkn (Jy4) ⟨rfl, rfl, trivial⟩)
  ·exact lp_back (L1 p0_b h) ⟨rfl, trivial⟩
theorem w_ref03_words {p0_b : (List Int)}   {r : (List Int)} (h : ref03_words p0_b = some r) : ACall Tryz.prog 221 [.sl none (List.map (AV.int .u8) p0_b)] [] (.sl none (List.map (AV.int .u32) r)) [] := by
 refine acallX 10000 hf221 ok221 (by first | rfl | simp only [go_sem]) meek_sl ?_
 dsimp only [Tryz.f221, nums, Option.getD, List.append]
 unfold ref03_words at h
 simp only [go_sem, reduceAdd, reduceLT, reduceLeDiff, reduceEqDiff, Nat.reduceBEq, Nat.reduceBNe]
 refine prom_blk 3 0 false rfl (by first | rfl | simp only [go_sem]) rfl ?_
 refine bsome h fun y1 hy1 h => ?_
 refine blkJ 37 10000 (fun w => w [(3, .rs 0 0 y1.length 1 false false)] [some (List.map (AV.int .u32) y1)]) (runX 10000 ?_) (fun Jy1 => ?_)
 ·clear hy1
  simp only [go_sem, reduceAdd, reduceLT, reduceLeDiff, reduceEqDiff, Nat.reduceBEq, Nat.reduceBNe]
  refine mvF_ 10000 (AV.int .u32) plain_int (v := y1) rfl rfl (by first | rfl | simp only [go_sem]) (by first | rfl | simp only [go_sem]) (by first | rfl | simp only [go_sem]) rfl rfl ?_
  simp only [go_sem, reduceAdd, reduceLT, reduceLeDiff, reduceEqDiff, Nat.reduceBEq, Nat.reduceBNe]
  refine ret_s (fun x => .sl none (List.map (AV.int .u32) x)) h ?_
  first | rfl | simp only [go_sem, resAV, resAll, resOne, reduceAdd, reduceLT, reduceLeDiff, reduceEqDiff, Nat.reduceBEq, Nat.reduceBNe]
 ·clear h
  have h := hy1
  simp only [go_sem, reduceAdd, reduceLT, reduceLeDiff, reduceEqDiff, Nat.reduceBEq, Nat.reduceBNe]
  refine lpJ 37 fuel (fun q1 w => ∀ (v38 : Int) (v39 : (List Int)), ref03_words_l1 p0_b q1 v38 v39 = some y1 → w [(0, .sl none (List.map (AV.int .u8) p0_b)), (3, .rs 0 0 v39.length 1 false false), (4, .int .i64 v38)] [some (List.map (AV.int .u32) v39)]) (fun w _ _ h => nomatch h) (fun q1 ih1 v38 v39 h => ?_) (fun L1 => ?_)
  ·unfold ref03_words_l1 at h
   refine runL 10000 ?_
   simp only [go_sem, reduceAdd, reduceLT, reduceLeDiff, reduceEqDiff, Nat.reduceBEq, Nat.reduceBNe]
   refine cnd_s 10000 h (fun hb h => ?_) (fun hb h => ?_)
   ·simp only [go_sem, reduceAdd, reduceLT, reduceLeDiff, reduceEqDiff, Nat.reduceBEq, Nat.reduceBNe]
    refine blk_ 10000 ?_
    refine rem_s .i64 h fun v42 _ b41 e40 h => ?_
    simp only [go_sem, reduceAdd, reduceLT, reduceLeDiff, reduceEqDiff, Nat.reduceBEq, Nat.reduceBNe, e40, ne_eq, Int.reduceEq, not_false_eq_true]
    refine bsome h fun y43 hy43 h => ?_
    refine cndJ 37 10000 (fun w => w [(0, .sl none (List.map (AV.int .u8) p0_b)), (3, .rs 0 0 y43.length 1 false false), (4, .int .i64 v38)] [some (List.map (AV.int .u32) y43)]) (runX 10000 ?_) (fun Jy43 => ?_)
    ·clear hy43
     simp only [go_sem, reduceAdd, reduceLT, reduceLeDiff, reduceEqDiff, Nat.reduceBEq, Nat.reduceBNe]
     refine rg_ 10000 (.inr ⟨[], by kernel_rfl, by kernel_rfl, by rfl⟩) ?_
     refine quo_s h fun v51 _ b50 e49 h => ?_
     refine bAt_s (AV.int .u32) .i64 ⟨272, 1, false, 4⟩ rfl 0 false false rfl h fun v60 _ e54 e55 e56 e57 e58 e59 h => ?_
     refine lAt_s (AV.int .u8) none .i64 ⟨5, 1, false, 1⟩ (fun _ => rfl) h fun v63 _ b61 e62 h => ?_
     refine shl_s h fun v68 _ b67 e66 h => ?_
     refine stB_s h fun v71 e69 e70 h => ?_
     refine add_s h fun v73 _ e72 h => ?_
     simp only [go_sem, reduceAdd, reduceLT, reduceLeDiff, reduceEqDiff, Nat.reduceBEq, Nat.reduceBNe, e49, ne_eq, Int.reduceEq, not_false_eq_true, e54, e55, e56, e57, e58, b61, e62, (cvw_e (s := 5) (k := .u8) io272 v63), e40, (cvw_e (s := 3) (k := .i64) io234 v42), e66, b67, (show intv .add .u32 v60 v68 = .int .u32 (IntKind.wrap .u32 (v60 + v68)) from rfl), e59, e69, e72]
     exact lp_back (ih1 v73 v71 h) ⟨rfl, congrArg (fun n => AV.rs 0 0 n 1 false false) e70.symm, rfl, trivial⟩
    ·clear h
     have h := hy43
     refine cnd_s 10000 h (fun hb h => ?_) (fun hb h => ?_)
     ·simp only [go_sem, reduceAdd, reduceLT, reduceLeDiff, reduceEqDiff, Nat.reduceBEq, Nat.reduceBNe]
      refine appB_s (AV.int .u32) (some none) ⟨272, 1, false, 4⟩ (fun _ => rfl) (by decide) rfl h fun v48 e45 e46 e47 h => ?_
      refine appB_ 10000 (AV.int .u32) plain_int (v := v39) (ws := ([0] : List Int)) rfl rfl rfl el175 rfl kd175 (by first | rfl | simp only [go_sem]) (by first | rfl | simp only [go_sem]) (by first | rfl | simp only [go_sem]) e45 e46 e47 (by first | rfl | simp only [go_sem]) rfl rfl ?_
      simp only [go_sem, reduceAdd, reduceLT, reduceLeDiff, reduceEqDiff, Nat.reduceBEq, Nat.reduceBNe]
      obtain rfl := Option.some.inj h
      exact atJ (wkn (Jy43) ⟨rfl, rfl, rfl, trivial⟩)
     ·simp only [go_sem, reduceAdd, reduceLT, reduceLeDiff, reduceEqDiff, Nat.reduceBEq, Nat.reduceBNe]
      obtain rfl := Option.some.inj h
      exact atJ (wkn (Jy43) ⟨rfl, rfl, rfl, trivial⟩)
   ·simp only [go_sem, reduceAdd, reduceLT, reduceLeDiff, reduceEqDiff, Nat.reduceBEq, Nat.reduceBNe]
    obtain rfl := Option.some.inj h
    exact atJ (wkn (Jy1) ⟨rfl, trivial⟩)
  ·exact lp_back (L1 0 [] h) ⟨rfl, rfl, rfl, trivial⟩
theorem w_ref03_made {neg : Bool} {p1_b : (List Int)}   {r : (ref03_Num × Int)} (h : ref03_made neg p1_b = some r) : ACall Tryz.prog 182 [.bool neg, .sl none (List.map (AV.int .u8) p1_b)] [] (.tup [enc_ref03_Num r.1, .int .i64 r.2]) [] := by
 refine acallX 10000 hf182 ok182 (by first | rfl | simp only [go_sem]) meek_tup ?_
 dsimp only [Tryz.f182, nums, Option.getD, List.append]
 unfold ref03_made at h
 refine bsome h fun v1 hv1 h => ?_
 simp only [go_sem, reduceAdd, reduceLT, reduceLeDiff, reduceEqDiff, Nat.reduceBEq, Nat.reduceBNe]
 refine callX_ 10000 (w_ref03_cut  hv1) (by first | rfl | simp only [go_sem]) (by first | rfl | simp only [go_sem]) ?_
 refine bsome h fun v2 hv2 h => ?_
 simp only [go_sem, reduceAdd, reduceLT, reduceLeDiff, reduceEqDiff, Nat.reduceBEq, Nat.reduceBNe]
 refine callX_ 10000 (w_ref03_words  hv2) (by first | rfl | simp only [go_sem]) (by first | rfl | simp only [go_sem]) ?_
 simp only [go_sem, reduceAdd, reduceLT, reduceLeDiff, reduceEqDiff, Nat.reduceBEq, Nat.reduceBNe]
 refine cnd_s 10000 h (fun hb h => ?_) (fun hb h => ?_)
 ·simp only [go_sem, reduceAdd, reduceLT, reduceLeDiff, reduceEqDiff, Nat.reduceBEq, Nat.reduceBNe]
  refine ret_s (fun x => .tup [enc_ref03_Num x.1, .int .i64 x.2]) h ?_
  first | rfl | simp only [go_sem, resAV, resAll, resOne, reduceAdd, reduceLT, reduceLeDiff, reduceEqDiff, Nat.reduceBEq, Nat.reduceBNe]
 ·simp only [go_sem, reduceAdd, reduceLT, reduceLeDiff, reduceEqDiff, Nat.reduceBEq, Nat.reduceBNe]
  refine bsome h fun y3 hy3 h => ?_
  refine rgJ 24 10000 (.inl rfl) (fun w => w [(4, .ptr 0 0), (5, .int .i64 0)] [some [.bool y3, .sl none (List.map (AV.int .u32) v2)]]) (runX 10000 ?_) (fun Jy3 => ?_)
  ·clear hy3
   simp only [go_sem, reduceAdd, reduceLT, reduceLeDiff, reduceEqDiff, Nat.reduceBEq, Nat.reduceBNe]
   refine ret_s (fun x => .tup [enc_ref03_Num x.1, .int .i64 x.2]) h ?_
   first | rfl | simp only [go_sem, resAV, resAll, resOne, reduceAdd, reduceLT, reduceLeDiff, reduceEqDiff, Nat.reduceBEq, Nat.reduceBNe]
  ·clear h
   have h := hy3
   simp only [go_sem, reduceAdd, reduceLT, reduceLeDiff, reduceEqDiff, Nat.reduceBEq, Nat.reduceBNe]
   refine grd_ (fun hb5 => ?_) (fun hb5 => ?_)
   ·have h := ite_t hb5 h
    simp only [go_sem, reduceAdd, reduceLT, reduceLeDiff, reduceEqDiff, Nat.reduceBEq, Nat.reduceBNe]
    obtain rfl := Option.some.inj h
    exact atJ (wkn (Jy3) ⟨rfl, rfl, trivial⟩)
   ·have h := ite_f hb5 h
    simp only [go_sem, reduceAdd, reduceLT, reduceLeDiff, reduceEqDiff, Nat.reduceBEq, Nat.reduceBNe]
    obtain rfl := Option.some.inj h
    exact atJ (wkn (Jy3) ⟨rfl, rfl, trivial⟩)
theorem w_ref03_Parse {s : Str}   {r : (ref03_Num × Int)} (h : ref03_Parse s = some r) : ACall Tryz.prog 125 [.str s] [] (.tup [enc_ref03_Num r.1, .int .i64 r.2]) [] := by
 refine acallX 10000 hf125 ok125 (by first | rfl | simp only [go_sem]) meek_tup ?_
 dsimp only [Tryz.f125, nums, Option.getD, List.append]
 unfold ref03_Parse at h
 simp only [go_sem, reduceAdd, reduceLT, reduceLeDiff, reduceEqDiff, Nat.reduceBEq, Nat.reduceBNe]
 refine bsome h fun y1 hy1 h => ?_
 refine rgJ 115 10000 (.inl rfl) (fun w => w [(0, .str s), (2, .ptr 0 0), (4, .bool y1)] [some [.bool false, .sl (some none) []]]) (runX 10000 ?_) (fun Jy1 => ?_)
 ·clear hy1
  simp only [go_sem, reduceAdd, reduceLT, reduceLeDiff, reduceEqDiff, Nat.reduceBEq, Nat.reduceBNe]
  refine bsome h fun y7 hy7 h => ?_
  refine cndJ 115 10000 (fun w => w [(2, .ptr 0 0), (4, .bool y1), (5, .str y7)] [some [.bool false, .sl (some none) []]]) (runX 10000 ?_) (fun Jy7 => ?_)
  ·clear hy7
   simp only [go_sem, reduceAdd, reduceLT, reduceLeDiff, reduceEqDiff, Nat.reduceBEq, Nat.reduceBNe]
   refine bsome h fun y12 hy12 h => ?_
   refine rgJ 115 10000 (.inl rfl) (fun w => w [(2, .ptr 0 0), (4, .bool y1), (5, .str y7), (48, .bool y12)] [some [.bool false, .sl (some none) []]]) (runX 10000 ?_) (fun Jy12 => ?_)
   ·clear hy12
    simp only [go_sem, reduceAdd, reduceLT, reduceLeDiff, reduceEqDiff, Nat.reduceBEq, Nat.reduceBNe]
    refine cnd_s 10000 h (fun hb h => ?_) (fun hb h => ?_)
    ·simp only [go_sem, reduceAdd, reduceLT, reduceLeDiff, reduceEqDiff, Nat.reduceBEq, Nat.reduceBNe]
     refine ret_s (fun x => .tup [enc_ref03_Num x.1, .int .i64 x.2]) h ?_
     first | rfl | simp only [go_sem, resAV, resAll, resOne, reduceAdd, reduceLT, reduceLeDiff, reduceEqDiff, Nat.reduceBEq, Nat.reduceBNe]
    ·simp only [go_sem, reduceAdd, reduceLT, reduceLeDiff, reduceEqDiff, Nat.reduceBEq, Nat.reduceBNe]
     refine letK_s h fun K24 hK24 h => ?_
     refine blkJ 115 10000 (fun w => ∀ (v43 : (List Int)), K24 v43 = some r → w [(2, .ptr 0 0), (4, .bool y1), (6, .sl (some none) (List.map (AV.int .u8) v43))] [some [.bool false, .sl (some none) []]]) (fun v43 h => runX 10000 ?_) (fun JK24 => ?_)
     ·subst hK24
      dsimp only at h
      simp only [go_sem, reduceAdd, reduceLT, reduceLeDiff, reduceEqDiff, Nat.reduceBEq, Nat.reduceBNe]
      refine bsome h fun y44 hy44 h => ?_
      refine blkJ 115 10000 (fun w => w [(2, .ptr 0 0), (4, .bool y1), (8, .sl (some none) (List.map (AV.int .u8) y44))] [some [.bool false, .sl (some none) []]]) (runX 10000 ?_) (fun Jy44 => ?_)
      ·clear hy44
       refine bsome h fun v110 hv110 h => ?_
       simp only [go_sem, reduceAdd, reduceLT, reduceLeDiff, reduceEqDiff, Nat.reduceBEq, Nat.reduceBNe]
       refine callX_ 10000 (w_ref03_made  hv110) (by first | rfl | simp only [go_sem]) (by first | rfl | simp only [go_sem]) ?_
       simp only [go_sem, reduceAdd, reduceLT, reduceLeDiff, reduceEqDiff, Nat.reduceBEq, Nat.reduceBNe]
       refine ret_s (fun x => .tup [enc_ref03_Num x.1, .int .i64 x.2]) h ?_
       first | rfl | simp only [go_sem, resAV, resAll, resOne, reduceAdd, reduceLT, reduceLeDiff, reduceEqDiff, Nat.reduceBEq, Nat.reduceBNe]
      ·clear h
       have h := hy44
       simp only [go_sem, reduceAdd, reduceLT, reduceLeDiff, reduceEqDiff, Nat.reduceBEq, Nat.reduceBNe]
       refine unown_lp 6 (by first | rfl | simp only [go_sem]) ?_
       refine lpJ 115 fuel (fun q2 w => ∀ (v78 : (List Int)) (v79 : (List Int)), ref03_Parse_l2  q2 v78 v79 = some y44 → w [(2, .ptr 0 0), (4, .bool y1), (6, .sl none (List.map (AV.int .u8) v78)), (8, .sl (some none) (List.map (AV.int .u8) v79))] [some [.bool false, .sl (some none) []]]) (fun w _ _ h => nomatch h) (fun q2 ih2 v78 v79 h => ?_) (fun L2 => ?_)
       ·unfold ref03_Parse_l2 at h
        refine runL 10000 ?_
        simp only [go_sem, reduceAdd, reduceLT, reduceLeDiff, reduceEqDiff, Nat.reduceBEq, Nat.reduceBNe]
        refine cnd_s 10000 h (fun hb h => ?_) (fun hb h => ?_)
        ·simp only [go_sem, reduceAdd, reduceLT, reduceLeDiff, reduceEqDiff, Nat.reduceBEq, Nat.reduceBNe]
         refine blk_ 10000 ?_
         simp only [go_sem, reduceAdd, reduceLT, reduceLeDiff, reduceEqDiff, Nat.reduceBEq, Nat.reduceBNe]
         refine bsome h fun y80 hy80 h => ?_
         refine blkJ 115 10000 (fun w => w [(2, .ptr 0 0), (4, .bool y1), (8, .sl (some none) (List.map (AV.int .u8) v79)), (9, .int .u8 y80.1), (10, .sl (some none) (List.map (AV.int .u8) y80.2))] [some [.bool false, .sl (some none) []]]) (runX 10000 ?_) (fun Jy80 => ?_)
         ·clear hy80
          refine app_s (AV.int .u8) (some none) ⟨5, 1, false, 1⟩ (fun _ => rfl) (by decide) rfl h fun v109 _ (b107 : appc ⟨5, 1, false, 1⟩ (.sl (some none) (List.map (AV.int .u8) v79)) (.sl (some none) [.int .u8 y80.1])) (e108 : appv (.sl (some none) (List.map (AV.int .u8) v79)) (.sl (some none) [.int .u8 y80.1]) = .sl (some none) (List.map (AV.int .u8) v109)) h => ?_
          simp only [go_sem, reduceAdd, reduceLT, reduceLeDiff, reduceEqDiff, Nat.reduceBEq, Nat.reduceBNe, b107, e108]
          exact lp_back (ih2 y80.2 v109 h) ⟨rfl, rfl, rfl, rfl, trivial⟩
         ·clear h
          have h := hy80
          simp only [go_sem, reduceAdd, reduceLT, reduceLeDiff, reduceEqDiff, Nat.reduceBEq, Nat.reduceBNe]
          refine lpJ 115 fuel (fun q4 w => ∀ (v82 : Int) (v83 : (List Int)) (v84 : Int), ref03_Parse_l4 v78 q4 v82 v83 v84 = some y80 → w [(2, .ptr 0 0), (4, .bool y1), (6, .sl none (List.map (AV.int .u8) v78)), (8, .sl (some none) (List.map (AV.int .u8) v79)), (9, .int .u8 v82), (10, .sl (some none) (List.map (AV.int .u8) v83)), (11, .int .i64 v84)] [some [.bool false, .sl (some none) []]]) (fun w _ _ _ h => nomatch h) (fun q4 ih4 v82 v83 v84 h => ?_) (fun L4 => ?_)
          ·unfold ref03_Parse_l4 at h
           refine runL 10000 ?_
           simp only [go_sem, reduceAdd, reduceLT, reduceLeDiff, reduceEqDiff, Nat.reduceBEq, Nat.reduceBNe]
           refine cnd_s 10000 h (fun hb h => ?_) (fun hb h => ?_)
           ·simp only [go_sem, reduceAdd, reduceLT, reduceLeDiff, reduceEqDiff, Nat.reduceBEq, Nat.reduceBNe]
            refine blk_ 10000 ?_
            refine lAt_s (AV.int .u8) none .i64 ⟨5, 1, false, 1⟩ (fun _ => rfl) h fun v87 _ b85 e86 h => ?_
            simp only [go_sem, reduceAdd, reduceLT, reduceLeDiff, reduceEqDiff, Nat.reduceBEq, Nat.reduceBNe, (show intv .mul .u8 10 v82 = .int .u8 (IntKind.wrap .u8 (10 * v82)) from rfl), b85, e86, (show intv .add .u8 (IntKind.wrap .u8 (10 * v82)) v87 = .int .u8 (IntKind.wrap .u8 ((IntKind.wrap .u8 (10 * v82)) + v87)) from rfl)]
            refine bsome h fun y88 hy88 h => ?_
            refine rgJ 115 10000 (.inl rfl) (fun w => w [(2, .ptr 0 0), (4, .bool y1), (6, .sl none (List.map (AV.int .u8) v78)), (8, .sl (some none) (List.map (AV.int .u8) v79)), (9, .int .u8 (IntKind.wrap .u8 ((IntKind.wrap .u8 (10 * v82)) + v87))), (10, .sl (some none) (List.map (AV.int .u8) v83)), (11, .int .i64 v84), (97, .bool y88)] [some [.bool false, .sl (some none) []]]) (runX 10000 ?_) (fun Jy88 => ?_)
            ·clear hy88
             simp only [go_sem, reduceAdd, reduceLT, reduceLeDiff, reduceEqDiff, Nat.reduceBEq, Nat.reduceBNe]
             refine bsome h fun y94 hy94 h => ?_
             refine cndJ 115 10000 (fun w => w [(2, .ptr 0 0), (4, .bool y1), (6, .sl none (List.map (AV.int .u8) v78)), (8, .sl (some none) (List.map (AV.int .u8) v79)), (9, .int .u8 (IntKind.wrap .u8 ((IntKind.wrap .u8 (10 * v82)) + v87))), (10, .sl (some none) (List.map (AV.int .u8) y94)), (11, .int .i64 v84)] [some [.bool false, .sl (some none) []]]) (runX 10000 ?_) (fun Jy94 => ?_)
             ·clear hy94
              refine rem_s .u8 h fun v104 _ b103 e102 h => ?_
              refine add_s h fun v106 _ e105 h => ?_
              simp only [go_sem, reduceAdd, reduceLT, reduceLeDiff, reduceEqDiff, Nat.reduceBEq, Nat.reduceBNe, e102, ne_eq, Int.reduceEq, not_false_eq_true, e105]
              exact lp_back (ih4 v104 y94 v106 h) ⟨rfl, rfl, rfl, rfl, rfl, rfl, rfl, trivial⟩
             ·clear h
              have h := hy94
              refine cnd_s 10000 h (fun hb h => ?_) (fun hb h => ?_)
              ·refine quo_s h fun v98 _ b97 e96 h => ?_
               refine app_s (AV.int .u8) (some none) ⟨5, 1, false, 1⟩ (fun _ => rfl) (by decide) rfl h fun v101 _ (b99 : appc ⟨5, 1, false, 1⟩ (.sl (some none) (List.map (AV.int .u8) v83)) (.sl (some none) [.int .u8 v98])) (e100 : appv (.sl (some none) (List.map (AV.int .u8) v83)) (.sl (some none) [.int .u8 v98]) = .sl (some none) (List.map (AV.int .u8) v101)) h => ?_
               simp only [go_sem, reduceAdd, reduceLT, reduceLeDiff, reduceEqDiff, Nat.reduceBEq, Nat.reduceBNe, e96, ne_eq, Int.reduceEq, not_false_eq_true, b99, e100]
               obtain rfl := Option.some.inj h
               exact atJ (wkn (Jy94) ⟨rfl, rfl, rfl, rfl, rfl, rfl, rfl, trivial⟩)
              ·simp only [go_sem, reduceAdd, reduceLT, reduceLeDiff, reduceEqDiff, Nat.reduceBEq, Nat.reduceBNe]
               obtain rfl := Option.some.inj h
               exact atJ (wkn (Jy94) ⟨rfl, rfl, rfl, rfl, rfl, rfl, rfl, trivial⟩)
            ·clear h
             have h := hy88
             simp only [go_sem, reduceAdd, reduceLT, reduceLeDiff, reduceEqDiff, Nat.reduceBEq, Nat.reduceBNe]
             refine grd_ (fun hb90 => ?_) (fun hb90 => ?_)
             ·have h := ite_f hb90 h
              refine quo_s h fun v93 _ b92 e91 h => ?_
              simp only [go_sem, reduceAdd, reduceLT, reduceLeDiff, reduceEqDiff, Nat.reduceBEq, Nat.reduceBNe, e91, ne_eq, Int.reduceEq, not_false_eq_true]
              obtain rfl := Option.some.inj h
              exact atJ (wkn (Jy88) ⟨rfl, rfl, rfl, rfl, rfl, rfl, rfl, rfl, trivial⟩)
             ·have h := ite_t hb90 h
              simp only [go_sem, reduceAdd, reduceLT, reduceLeDiff, reduceEqDiff, Nat.reduceBEq, Nat.reduceBNe]
              obtain rfl := Option.some.inj h
              exact atJ (wkn (Jy88) ⟨rfl, rfl, rfl, rfl, rfl, rfl, rfl, rfl, trivial⟩)
           ·simp only [go_sem, reduceAdd, reduceLT, reduceLeDiff, reduceEqDiff, Nat.reduceBEq, Nat.reduceBNe]
            obtain rfl := Option.some.inj h
            exact atJ (wkn (Jy80) ⟨rfl, rfl, rfl, rfl, rfl, trivial⟩)
          ·exact lp_back (L4 0 [] 0 h) ⟨rfl, rfl, rfl, rfl, rfl, rfl, rfl, trivial⟩
        ·simp only [go_sem, reduceAdd, reduceLT, reduceLeDiff, reduceEqDiff, Nat.reduceBEq, Nat.reduceBNe]
         obtain rfl := Option.some.inj h
         exact atJ (wkn (Jy44) ⟨rfl, rfl, rfl, trivial⟩)
       ·exact lp_back (L2 v43 [] h) ⟨rfl, rfl, rfl, rfl, trivial⟩
     ·clear hK24
      simp only [go_sem, reduceAdd, reduceLT, reduceLeDiff, reduceEqDiff, Nat.reduceBEq, Nat.reduceBNe]
      refine lpJ 115 fuel (fun q1 w => ∀ (v25 : (List Int)) (v26 : Int), ref03_Parse_l1 y7 K24 q1 v25 v26 = some r → w [(2, .ptr 0 0), (4, .bool y1), (5, .str y7), (6, .sl (some none) (List.map (AV.int .u8) v25)), (7, .int .i64 v26)] [some [.bool false, .sl (some none) []]]) (fun w _ _ h => nomatch h) (fun q1 ih1 v25 v26 h => ?_) (fun L1 => ?_)
      ·unfold ref03_Parse_l1 at h
       refine runL 10000 ?_
       simp only [go_sem, reduceAdd, reduceLT, reduceLeDiff, reduceEqDiff, Nat.reduceBEq, Nat.reduceBNe]
       refine cnd_s 10000 h (fun hb h => ?_) (fun hb h => ?_)
       ·simp only [go_sem, reduceAdd, reduceLT, reduceLeDiff, reduceEqDiff, Nat.reduceBEq, Nat.reduceBNe]
        refine blk_ 10000 ?_
        simp only [go_sem, reduceAdd, reduceLT, reduceLeDiff, reduceEqDiff, Nat.reduceBEq, Nat.reduceBNe]
        refine bsome h fun y27 hy27 h => ?_
        refine rgJ 115 10000 (.inl rfl) (fun w => w [(2, .ptr 0 0), (4, .bool y1), (5, .str y7), (6, .sl (some none) (List.map (AV.int .u8) v25)), (7, .int .i64 v26), (65, .bool y27)] [some [.bool false, .sl (some none) []]]) (runX 10000 ?_) (fun Jy27 => ?_)
        ·clear hy27
         simp only [go_sem, reduceAdd, reduceLT, reduceLeDiff, reduceEqDiff, Nat.reduceBEq, Nat.reduceBNe]
         refine cnd_s 10000 h (fun hb h => ?_) (fun hb h => ?_)
         ·simp only [go_sem, reduceAdd, reduceLT, reduceLeDiff, reduceEqDiff, Nat.reduceBEq, Nat.reduceBNe]
          refine ret_s (fun x => .tup [enc_ref03_Num x.1, .int .i64 x.2]) h ?_
          first | rfl | simp only [go_sem, resAV, resAll, resOne, reduceAdd, reduceLT, reduceLeDiff, reduceEqDiff, Nat.reduceBEq, Nat.reduceBNe]
         ·refine sIdx_s .i64 h fun v37 _ b35 e36 h => ?_
          refine app_s (AV.int .u8) (some none) ⟨5, 1, false, 1⟩ (fun _ => rfl) (by decide) rfl h fun v40 _ (b38 : appc ⟨5, 1, false, 1⟩ (.sl (some none) (List.map (AV.int .u8) v25)) (.sl (some none) [.int .u8 (IntKind.wrap .u8 (v37 - 48))])) (e39 : appv (.sl (some none) (List.map (AV.int .u8) v25)) (.sl (some none) [.int .u8 (IntKind.wrap .u8 (v37 - 48))]) = .sl (some none) (List.map (AV.int .u8) v40)) h => ?_
          refine add_s h fun v42 _ e41 h => ?_
          simp only [go_sem, reduceAdd, reduceLT, reduceLeDiff, reduceEqDiff, Nat.reduceBEq, Nat.reduceBNe, b35, e36, (show intv .sub .u8 v37 48 = .int .u8 (IntKind.wrap .u8 (v37 - 48)) from rfl), b38, e39, e41]
          exact lp_back (ih1 v40 v42 h) ⟨rfl, rfl, rfl, rfl, rfl, trivial⟩
        ·clear h
         have h := hy27
         refine sIdx_s .i64 h fun v31 _ b29 e30 h => ?_
         simp only [go_sem, reduceAdd, reduceLT, reduceLeDiff, reduceEqDiff, Nat.reduceBEq, Nat.reduceBNe, b29, e30]
         refine grd_ (fun hb32 => ?_) (fun hb32 => ?_)
         ·have h := ite_f hb32 h
          simp only [go_sem, reduceAdd, reduceLT, reduceLeDiff, reduceEqDiff, Nat.reduceBEq, Nat.reduceBNe, b29, e30]
          obtain rfl := Option.some.inj h
          exact atJ (wkn (Jy27) ⟨rfl, rfl, rfl, rfl, rfl, rfl, trivial⟩)
         ·have h := ite_t hb32 h
          simp only [go_sem, reduceAdd, reduceLT, reduceLeDiff, reduceEqDiff, Nat.reduceBEq, Nat.reduceBNe]
          obtain rfl := Option.some.inj h
          exact atJ (wkn (Jy27) ⟨rfl, rfl, rfl, rfl, rfl, rfl, trivial⟩)
       ·simp only [go_sem, reduceAdd, reduceLT, reduceLeDiff, reduceEqDiff, Nat.reduceBEq, Nat.reduceBNe]
        exact atJ (wkn (JK24 v25 h) ⟨rfl, rfl, rfl, trivial⟩)
      ·exact lp_back (L1 [] 0 h) ⟨rfl, rfl, rfl, rfl, rfl, trivial⟩
   ·clear h
    have h := hy12
    simp only [go_sem, reduceAdd, reduceLT, reduceLeDiff, reduceEqDiff, Nat.reduceBEq, Nat.reduceBNe]
    refine grd_ (fun hb14 => ?_) (fun hb14 => ?_)
    ·have h := ite_f hb14 h
     simp only [go_sem, reduceAdd, reduceLT, reduceLeDiff, reduceEqDiff, Nat.reduceBEq, Nat.reduceBNe]
     refine grd_ (fun hb15 => ?_) (fun hb15 => ?_)
     ·have h := ite_f hb15 h
      simp only [go_sem, reduceAdd, reduceLT, reduceLeDiff, reduceEqDiff, Nat.reduceBEq, Nat.reduceBNe]
      refine grd_ (fun hb16 => ?_) (fun hb16 => ?_)
      ·have h := ite_t hb16 h
       refine sIdx_s .i64 h fun v19 _ b17 e18 h => ?_
       simp only [go_sem, reduceAdd, reduceLT, reduceLeDiff, reduceEqDiff, Nat.reduceBEq, Nat.reduceBNe, b17, e18]
       refine grd_ (fun hb20 => ?_) (fun hb20 => ?_)
       ·have h := ite_f hb20 h
        simp only [go_sem, reduceAdd, reduceLT, reduceLeDiff, reduceEqDiff, Nat.reduceBEq, Nat.reduceBNe]
        refine grd_ (fun hb21 => ?_) (fun hb21 => ?_)
        ·have h := ite_t hb21 h
         simp only [go_sem, reduceAdd, reduceLT, reduceLeDiff, reduceEqDiff, Nat.reduceBEq, Nat.reduceBNe]
         obtain rfl := Option.some.inj h
         exact atJ (wkn (Jy12) ⟨rfl, rfl, rfl, rfl, trivial⟩)
        ·have h := ite_f hb21 h
         simp only [go_sem, reduceAdd, reduceLT, reduceLeDiff, reduceEqDiff, Nat.reduceBEq, Nat.reduceBNe]
         obtain rfl := Option.some.inj h
         exact atJ (wkn (Jy12) ⟨rfl, rfl, rfl, rfl, trivial⟩)
       ·have h := ite_t hb20 h
        simp only [go_sem, reduceAdd, reduceLT, reduceLeDiff, reduceEqDiff, Nat.reduceBEq, Nat.reduceBNe]
        obtain rfl := Option.some.inj h
        exact atJ (wkn (Jy12) ⟨rfl, rfl, rfl, rfl, trivial⟩)
      ·have h := ite_f hb16 h
       simp only [go_sem, reduceAdd, reduceLT, reduceLeDiff, reduceEqDiff, Nat.reduceBEq, Nat.reduceBNe]
       refine grd_ (fun hb22 => ?_) (fun hb22 => ?_)
       ·have h := ite_t hb22 h
        simp only [go_sem, reduceAdd, reduceLT, reduceLeDiff, reduceEqDiff, Nat.reduceBEq, Nat.reduceBNe]
        obtain rfl := Option.some.inj h
        exact atJ (wkn (Jy12) ⟨rfl, rfl, rfl, rfl, trivial⟩)
       ·have h := ite_f hb22 h
        simp only [go_sem, reduceAdd, reduceLT, reduceLeDiff, reduceEqDiff, Nat.reduceBEq, Nat.reduceBNe]
        obtain rfl := Option.some.inj h
        exact atJ (wkn (Jy12) ⟨rfl, rfl, rfl, rfl, trivial⟩)
     ·have h := ite_t hb15 h
      simp only [go_sem, reduceAdd, reduceLT, reduceLeDiff, reduceEqDiff, Nat.reduceBEq, Nat.reduceBNe]
      obtain rfl := Option.some.inj h
      exact atJ (wkn (Jy12) ⟨rfl, rfl, rfl, rfl, trivial⟩)
    ·have h := ite_t hb14 h
     simp only [go_sem, reduceAdd, reduceLT, reduceLeDiff, reduceEqDiff, Nat.reduceBEq, Nat.reduceBNe]
     obtain rfl := Option.some.inj h
     exact atJ (wkn (Jy12) ⟨rfl, rfl, rfl, rfl, trivial⟩)
  ·clear h
   have h := hy7
   refine cnd_s 10000 h (fun hb h => ?_) (fun hb h => ?_)
   ·refine subS_s (some (.int .i64 1)) none rfl rfl h fun v11 _ b9 e10 h => ?_
    simp only [go_sem, reduceAdd, reduceLT, reduceLeDiff, reduceEqDiff, Nat.reduceBEq, Nat.reduceBNe, b9, e10]
    obtain rfl := Option.some.inj h
    exact atJ (wkn (Jy7) ⟨rfl, rfl, rfl, trivial⟩)
   ·simp only [go_sem, reduceAdd, reduceLT, reduceLeDiff, reduceEqDiff, Nat.reduceBEq, Nat.reduceBNe]
    obtain rfl := Option.some.inj h
    exact atJ (wkn (Jy7) ⟨rfl, rfl, rfl, trivial⟩)
 ·clear h
  have h := hy1
  simp only [go_sem, reduceAdd, reduceLT, reduceLeDiff, reduceEqDiff, Nat.reduceBEq, Nat.reduceBNe]
  refine grd_ (fun hb3 => ?_) (fun hb3 => ?_)
  ·have h := ite_t hb3 h
   refine sIdx_s .i64 h fun v6 _ b4 e5 h => ?_
   simp only [go_sem, reduceAdd, reduceLT, reduceLeDiff, reduceEqDiff, Nat.reduceBEq, Nat.reduceBNe, b4, e5]
   obtain rfl := Option.some.inj h
   exact atJ (wkn (Jy1) ⟨rfl, rfl, rfl, trivial⟩)
  ·have h := ite_f hb3 h
   simp only [go_sem, reduceAdd, reduceLT, reduceLeDiff, reduceEqDiff, Nat.reduceBEq, Nat.reduceBNe]
   obtain rfl := Option.some.inj h
   exact atJ (wkn (Jy1) ⟨rfl, rfl, rfl, trivial⟩)
theorem w_ref14_shape {n : ref14_Node}   {r : Bool} (h : ref14_shape n = some r) : ACall Tryz.prog 69 [enc_ref14_Node n] [] (.bool r) [] := by
 refine acallX 10000 hf69 ok69 (by first | rfl | simp only [go_sem]) meek_bool ?_
 dsimp only [Tryz.f69, nums, Option.getD, List.append]
 unfold ref14_shape at h
 simp only [go_sem, reduceAdd, reduceLT, reduceLeDiff, reduceEqDiff, Nat.reduceBEq, Nat.reduceBNe]
 refine rgJ 145 10000 (.inl rfl) (fun w => w [(1, .ptr 0 0), (24, .bool (((!decide (n.K = 12)) && ((!decide (n.N = 0)) || (decide ((0 : Int) < (n.L.length : Int))))) || (decide ((13 : Int) < n.K))))] [some [.int .u8 n.K, .str n.S, .int .i64 n.N, .sl none (List.map AV.str n.L), .sl none (List.map (AV.int .i64) n.Kids)]]) (runX 10000 ?_) (fun Jg1 => ?_)
 ·simp only [go_sem, reduceAdd, reduceLT, reduceLeDiff, reduceEqDiff, Nat.reduceBEq, Nat.reduceBNe]
  refine cnd_s 10000 h (fun hb h => ?_) (fun hb h => ?_)
  ·simp only [go_sem, reduceAdd, reduceLT, reduceLeDiff, reduceEqDiff, Nat.reduceBEq, Nat.reduceBNe]
   refine ret_s (fun x => .bool x) h ?_
   first | rfl | simp only [go_sem, resAV, resAll, resOne, reduceAdd, reduceLT, reduceLeDiff, reduceEqDiff, Nat.reduceBEq, Nat.reduceBNe]
  ·simp only [go_sem, reduceAdd, reduceLT, reduceLeDiff, reduceEqDiff, Nat.reduceBEq, Nat.reduceBNe]
   refine rgJ 145 10000 (.inl rfl) (fun w => w [(1, .ptr 0 0), (37, .bool (((decide (n.K < 5)) || (decide (n.K = 10))) || (decide ((12 : Int) ≤ n.K))))] [some [.int .u8 n.K, .str n.S, .int .i64 n.N, .sl none (List.map AV.str n.L), .sl none (List.map (AV.int .i64) n.Kids)]]) (runX 10000 ?_) (fun Jg2 => ?_)
   ·simp only [go_sem, reduceAdd, reduceLT, reduceLeDiff, reduceEqDiff, Nat.reduceBEq, Nat.reduceBNe]
    refine letK_s h fun K4 hK4 h => ?_
    refine cndJ 145 10000 (fun w => K4 () = some r → w [(1, .ptr 0 0)] [some [.int .u8 n.K, .str n.S, .int .i64 n.N, .sl none (List.map AV.str n.L), .sl none (List.map (AV.int .i64) n.Kids)]]) (fun  h => runX 10000 ?_) (fun JK4 => ?_)
    ·subst hK4
     dsimp only at h
     simp only [go_sem, reduceAdd, reduceLT, reduceLeDiff, reduceEqDiff, Nat.reduceBEq, Nat.reduceBNe]
     refine rgJ 145 10000 (.inl rfl) (fun w => w [(1, .ptr 0 0), (3, .int .i64 (n.Kids.length : Int)), (50, .bool ((decide (n.K < 8)) && (decide ((0 : Int) < (n.Kids.length : Int)))))] [some [.int .u8 n.K, .str n.S, .int .i64 n.N, .sl none (List.map AV.str n.L), .sl none (List.map (AV.int .i64) n.Kids)]]) (runX 10000 ?_) (fun Jg5 => ?_)
     ·simp only [go_sem, reduceAdd, reduceLT, reduceLeDiff, reduceEqDiff, Nat.reduceBEq, Nat.reduceBNe]
      refine cnd_s 10000 h (fun hb h => ?_) (fun hb h => ?_)
      ·simp only [go_sem, reduceAdd, reduceLT, reduceLeDiff, reduceEqDiff, Nat.reduceBEq, Nat.reduceBNe]
       refine ret_s (fun x => .bool x) h ?_
       first | rfl | simp only [go_sem, resAV, resAll, resOne, reduceAdd, reduceLT, reduceLeDiff, reduceEqDiff, Nat.reduceBEq, Nat.reduceBNe]
      ·simp only [go_sem, reduceAdd, reduceLT, reduceLeDiff, reduceEqDiff, Nat.reduceBEq, Nat.reduceBNe]
       refine cnd_s 10000 h (fun hb h => ?_) (fun hb h => ?_)
       ·refine bsome h fun v6 hv6 h => ?_
        simp only [go_sem, reduceAdd, reduceLT, reduceLeDiff, reduceEqDiff, Nat.reduceBEq, Nat.reduceBNe]
        refine callX_ 10000 (w_ref03_Parse  hv6) (by first | rfl | simp only [go_sem]) (by first | rfl | simp only [go_sem]) ?_
        simp only [go_sem, reduceAdd, reduceLT, reduceLeDiff, reduceEqDiff, Nat.reduceBEq, Nat.reduceBNe]
        refine ret_s (fun x => .bool x) h ?_
        first | rfl | simp only [go_sem, resAV, resAll, resOne, reduceAdd, reduceLT, reduceLeDiff, reduceEqDiff, Nat.reduceBEq, Nat.reduceBNe]
       ·simp only [go_sem, reduceAdd, reduceLT, reduceLeDiff, reduceEqDiff, Nat.reduceBEq, Nat.reduceBNe]
        refine cnd_s 10000 h (fun hb h => ?_) (fun hb h => ?_)
        ·simp only [go_sem, reduceAdd, reduceLT, reduceLeDiff, reduceEqDiff, Nat.reduceBEq, Nat.reduceBNe]
         refine ret_s (fun x => .bool x) h ?_
         first | rfl | simp only [go_sem, resAV, resAll, resOne, reduceAdd, reduceLT, reduceLeDiff, reduceEqDiff, Nat.reduceBEq, Nat.reduceBNe]
        ·simp only [go_sem, reduceAdd, reduceLT, reduceLeDiff, reduceEqDiff, Nat.reduceBEq, Nat.reduceBNe]
         refine cnd_s 10000 h (fun hb h => ?_) (fun hb h => ?_)
         ·simp only [go_sem, reduceAdd, reduceLT, reduceLeDiff, reduceEqDiff, Nat.reduceBEq, Nat.reduceBNe]
          refine bsome h fun y7 hy7 h => ?_
          refine rgJ 145 10000 (.inl rfl) (fun w => w [(2, .bool y7)] [some [.int .u8 n.K, .str n.S, .int .i64 n.N, .sl none (List.map AV.str n.L), .sl none (List.map (AV.int .i64) n.Kids)]]) (runX 10000 ?_) (fun Jy7 => ?_)
          ·clear hy7
           simp only [go_sem, reduceAdd, reduceLT, reduceLeDiff, reduceEqDiff, Nat.reduceBEq, Nat.reduceBNe]
           refine ret_s (fun x => .bool x) h ?_
           first | rfl | simp only [go_sem, resAV, resAll, resOne, reduceAdd, reduceLT, reduceLeDiff, reduceEqDiff, Nat.reduceBEq, Nat.reduceBNe]
          ·clear h
           have h := hy7
           refine bsome h fun v9 hv9 h => ?_
           simp only [go_sem, reduceAdd, reduceLT, reduceLeDiff, reduceEqDiff, Nat.reduceBEq, Nat.reduceBNe]
           refine callX_ 10000 (w_ref10_Var  hv9) (by first | rfl | simp only [go_sem]) (by first | rfl | simp only [go_sem]) ?_
           simp only [go_sem, reduceAdd, reduceLT, reduceLeDiff, reduceEqDiff, Nat.reduceBEq, Nat.reduceBNe]
           refine grd_ (fun hb10 => ?_) (fun hb10 => ?_)
           ·have h := ite_f hb10 h
            refine bsome h fun v11 hv11 h => ?_
            simp only [go_sem, reduceAdd, reduceLT, reduceLeDiff, reduceEqDiff, Nat.reduceBEq, Nat.reduceBNe]
            refine callX_ 10000 (w_ref10_Name  hv11) (by first | rfl | simp only [go_sem]) (by first | rfl | simp only [go_sem]) ?_
            simp only [go_sem, reduceAdd, reduceLT, reduceLeDiff, reduceEqDiff, Nat.reduceBEq, Nat.reduceBNe]
            obtain rfl := Option.some.inj h
            exact atJ (wkn (Jy7) ⟨rfl, trivial⟩)
           ·have h := ite_t hb10 h
            simp only [go_sem, reduceAdd, reduceLT, reduceLeDiff, reduceEqDiff, Nat.reduceBEq, Nat.reduceBNe]
            obtain rfl := Option.some.inj h
            exact atJ (wkn (Jy7) ⟨rfl, trivial⟩)
         ·simp only [go_sem, reduceAdd, reduceLT, reduceLeDiff, reduceEqDiff, Nat.reduceBEq, Nat.reduceBNe]
          refine cnd_s 10000 h (fun hb h => ?_) (fun hb h => ?_)
          ·simp only [go_sem, reduceAdd, reduceLT, reduceLeDiff, reduceEqDiff, Nat.reduceBEq, Nat.reduceBNe]
           refine bsome h fun y12 hy12 h => ?_
           refine rgJ 145 10000 (.inl rfl) (fun w => w [(2, .bool y12)] [some [.int .u8 n.K, .str n.S, .int .i64 n.N, .sl none (List.map AV.str n.L), .sl none (List.map (AV.int .i64) n.Kids)]]) (runX 10000 ?_) (fun Jy12 => ?_)
           ·clear hy12
            simp only [go_sem, reduceAdd, reduceLT, reduceLeDiff, reduceEqDiff, Nat.reduceBEq, Nat.reduceBNe]
            refine ret_s (fun x => .bool x) h ?_
            first | rfl | simp only [go_sem, resAV, resAll, resOne, reduceAdd, reduceLT, reduceLeDiff, reduceEqDiff, Nat.reduceBEq, Nat.reduceBNe]
           ·clear h
            have h := hy12
            simp only [go_sem, reduceAdd, reduceLT, reduceLeDiff, reduceEqDiff, Nat.reduceBEq, Nat.reduceBNe]
            refine grd_ (fun hb14 => ?_) (fun hb14 => ?_)
            ·have h := ite_t hb14 h
             refine bsome h fun v15 hv15 h => ?_
             simp only [go_sem, reduceAdd, reduceLT, reduceLeDiff, reduceEqDiff, Nat.reduceBEq, Nat.reduceBNe]
             refine callX_ 10000 (w_ref10_Var  hv15) (by first | rfl | simp only [go_sem]) (by first | rfl | simp only [go_sem]) ?_
             simp only [go_sem, reduceAdd, reduceLT, reduceLeDiff, reduceEqDiff, Nat.reduceBEq, Nat.reduceBNe]
             obtain rfl := Option.some.inj h
             exact atJ (wkn (Jy12) ⟨rfl, trivial⟩)
            ·have h := ite_f hb14 h
             simp only [go_sem, reduceAdd, reduceLT, reduceLeDiff, reduceEqDiff, Nat.reduceBEq, Nat.reduceBNe]
             obtain rfl := Option.some.inj h
             exact atJ (wkn (Jy12) ⟨rfl, trivial⟩)
          ·simp only [go_sem, reduceAdd, reduceLT, reduceLeDiff, reduceEqDiff, Nat.reduceBEq, Nat.reduceBNe]
           refine cnd_s 10000 h (fun hb h => ?_) (fun hb h => ?_)
           ·refine sub_s h fun v17 _ e16 h => ?_
            refine bsome h fun v18 hv18 h => ?_
            simp only [go_sem, reduceAdd, reduceLT, reduceLeDiff, reduceEqDiff, Nat.reduceBEq, Nat.reduceBNe, e16]
            refine callX_ 10000 (w_ref14_takes  hv18) (by first | rfl | simp only [go_sem]) (by first | rfl | simp only [go_sem]) ?_
            simp only [go_sem, reduceAdd, reduceLT, reduceLeDiff, reduceEqDiff, Nat.reduceBEq, Nat.reduceBNe]
            refine ret_s (fun x => .bool x) h ?_
            first | rfl | simp only [go_sem, resAV, resAll, resOne, reduceAdd, reduceLT, reduceLeDiff, reduceEqDiff, Nat.reduceBEq, Nat.reduceBNe]
           ·simp only [go_sem, reduceAdd, reduceLT, reduceLeDiff, reduceEqDiff, Nat.reduceBEq, Nat.reduceBNe]
            refine cnd_s 10000 h (fun hb h => ?_) (fun hb h => ?_)
            ·simp only [go_sem, reduceAdd, reduceLT, reduceLeDiff, reduceEqDiff, Nat.reduceBEq, Nat.reduceBNe]
             refine rgJ 145 10000 (.inl rfl) (fun w => w [(2, .bool ((decide ((3 : Int) ≤ (n.Kids.length : Int))) && (decide ((n.Kids.length : Int) ≤ 17))))] [some [.int .u8 n.K, .str n.S, .int .i64 n.N, .sl none (List.map AV.str n.L), .sl none (List.map (AV.int .i64) n.Kids)]]) (runX 10000 ?_) (fun Jg19 => ?_)
             ·simp only [go_sem, reduceAdd, reduceLT, reduceLeDiff, reduceEqDiff, Nat.reduceBEq, Nat.reduceBNe]
              refine ret_s (fun x => .bool x) h ?_
              first | rfl | simp only [go_sem, resAV, resAll, resOne, reduceAdd, reduceLT, reduceLeDiff, reduceEqDiff, Nat.reduceBEq, Nat.reduceBNe]
             ·simp only [go_sem, reduceAdd, reduceLT, reduceLeDiff, reduceEqDiff, Nat.reduceBEq, Nat.reduceBNe]
              refine grd_ (fun hb20 => ?_) (fun hb20 => ?_)
              ·simp only [go_sem, reduceAdd, reduceLT, reduceLeDiff, reduceEqDiff, Nat.reduceBEq, Nat.reduceBNe]
               exact atJ (wkn Jg19 ⟨congrArg AV.bool (by first | rfl | (rw [hb20]; rfl) | (simp [hb20]; done) | simp_all), trivial⟩)
              ·simp only [go_sem, reduceAdd, reduceLT, reduceLeDiff, reduceEqDiff, Nat.reduceBEq, Nat.reduceBNe]
               exact atJ (wkn Jg19 ⟨congrArg AV.bool (by first | rfl | (rw [hb20]; rfl) | (simp [hb20]; done) | simp_all), trivial⟩)
            ·simp only [go_sem, reduceAdd, reduceLT, reduceLeDiff, reduceEqDiff, Nat.reduceBEq, Nat.reduceBNe]
             refine cnd_s 10000 h (fun hb h => ?_) (fun hb h => ?_)
             ·refine bsome h fun v21 hv21 h => ?_
              simp only [go_sem, reduceAdd, reduceLT, reduceLeDiff, reduceEqDiff, Nat.reduceBEq, Nat.reduceBNe]
              refine callX_ 10000 (w_ref14_takes  hv21) (by first | rfl | simp only [go_sem]) (by first | rfl | simp only [go_sem]) ?_
              simp only [go_sem, reduceAdd, reduceLT, reduceLeDiff, reduceEqDiff, Nat.reduceBEq, Nat.reduceBNe]
              refine ret_s (fun x => .bool x) h ?_
              first | rfl | simp only [go_sem, resAV, resAll, resOne, reduceAdd, reduceLT, reduceLeDiff, reduceEqDiff, Nat.reduceBEq, Nat.reduceBNe]
             ·simp only [go_sem, reduceAdd, reduceLT, reduceLeDiff, reduceEqDiff, Nat.reduceBEq, Nat.reduceBNe]
              refine cnd_s 10000 h (fun hb h => ?_) (fun hb h => ?_)
              ·simp only [go_sem, reduceAdd, reduceLT, reduceLeDiff, reduceEqDiff, Nat.reduceBEq, Nat.reduceBNe]
               refine bsome h fun y22 hy22 h => ?_
               refine rgJ 145 10000 (.inl rfl) (fun w => w [(2, .bool y22)] [some [.int .u8 n.K, .str n.S, .int .i64 n.N, .sl none (List.map AV.str n.L), .sl none (List.map (AV.int .i64) n.Kids)]]) (runX 10000 ?_) (fun Jy22 => ?_)
               ·clear hy22
                simp only [go_sem, reduceAdd, reduceLT, reduceLeDiff, reduceEqDiff, Nat.reduceBEq, Nat.reduceBNe]
                refine ret_s (fun x => .bool x) h ?_
                first | rfl | simp only [go_sem, resAV, resAll, resOne, reduceAdd, reduceLT, reduceLeDiff, reduceEqDiff, Nat.reduceBEq, Nat.reduceBNe]
               ·clear h
                have h := hy22
                simp only [go_sem, reduceAdd, reduceLT, reduceLeDiff, reduceEqDiff, Nat.reduceBEq, Nat.reduceBNe]
                refine grd_ (fun hb24 => ?_) (fun hb24 => ?_)
                ·have h := ite_t hb24 h
                 simp only [go_sem, reduceAdd, reduceLT, reduceLeDiff, reduceEqDiff, Nat.reduceBEq, Nat.reduceBNe]
                 refine grd_ (fun hb25 => ?_) (fun hb25 => ?_)
                 ·have h := ite_t hb25 h
                  simp only [go_sem, reduceAdd, reduceLT, reduceLeDiff, reduceEqDiff, Nat.reduceBEq, Nat.reduceBNe]
                  refine grd_ (fun hb26 => ?_) (fun hb26 => ?_)
                  ·have h := ite_t hb26 h
                   refine bsome h fun v27 hv27 h => ?_
                   simp only [go_sem, reduceAdd, reduceLT, reduceLeDiff, reduceEqDiff, Nat.reduceBEq, Nat.reduceBNe]
                   refine callX_ 10000 (w_ref14_Vars  hv27) (by first | rfl | simp only [go_sem]) (by first | rfl | simp only [go_sem]) ?_
                   simp only [go_sem, reduceAdd, reduceLT, reduceLeDiff, reduceEqDiff, Nat.reduceBEq, Nat.reduceBNe]
                   obtain rfl := Option.some.inj h
                   exact atJ (wkn (Jy22) ⟨rfl, trivial⟩)
                  ·have h := ite_f hb26 h
                   simp only [go_sem, reduceAdd, reduceLT, reduceLeDiff, reduceEqDiff, Nat.reduceBEq, Nat.reduceBNe]
                   obtain rfl := Option.some.inj h
                   exact atJ (wkn (Jy22) ⟨rfl, trivial⟩)
                 ·have h := ite_f hb25 h
                  simp only [go_sem, reduceAdd, reduceLT, reduceLeDiff, reduceEqDiff, Nat.reduceBEq, Nat.reduceBNe]
                  obtain rfl := Option.some.inj h
                  exact atJ (wkn (Jy22) ⟨rfl, trivial⟩)
                ·have h := ite_f hb24 h
                 simp only [go_sem, reduceAdd, reduceLT, reduceLeDiff, reduceEqDiff, Nat.reduceBEq, Nat.reduceBNe]
                 obtain rfl := Option.some.inj h
                 exact atJ (wkn (Jy22) ⟨rfl, trivial⟩)
              ·simp only [go_sem, reduceAdd, reduceLT, reduceLeDiff, reduceEqDiff, Nat.reduceBEq, Nat.reduceBNe]
               refine rgJ 145 10000 (.inl rfl) (fun w => w [(2, .bool ((decide (n.K < 8)) || (decide ((n.Kids.length : Int) = 1))))] [some [.int .u8 n.K, .str n.S, .int .i64 n.N, .sl none (List.map AV.str n.L), .sl none (List.map (AV.int .i64) n.Kids)]]) (runX 10000 ?_) (fun Jg28 => ?_)
               ·simp only [go_sem, reduceAdd, reduceLT, reduceLeDiff, reduceEqDiff, Nat.reduceBEq, Nat.reduceBNe]
                refine ret_s (fun x => .bool x) h ?_
                first | rfl | simp only [go_sem, resAV, resAll, resOne, reduceAdd, reduceLT, reduceLeDiff, reduceEqDiff, Nat.reduceBEq, Nat.reduceBNe]
               ·simp only [go_sem, reduceAdd, reduceLT, reduceLeDiff, reduceEqDiff, Nat.reduceBEq, Nat.reduceBNe]
                refine grd_ (fun hb29 => ?_) (fun hb29 => ?_)
                ·simp only [go_sem, reduceAdd, reduceLT, reduceLeDiff, reduceEqDiff, Nat.reduceBEq, Nat.reduceBNe]
                 exact atJ (wkn Jg28 ⟨congrArg AV.bool (by first | rfl | (rw [hb29]; rfl) | (simp [hb29]; done) | simp_all), trivial⟩)
                ·simp only [go_sem, reduceAdd, reduceLT, reduceLeDiff, reduceEqDiff, Nat.reduceBEq, Nat.reduceBNe]
                 exact atJ (wkn Jg28 ⟨congrArg AV.bool (by first | rfl | (rw [hb29]; rfl) | (simp [hb29]; done) | simp_all), trivial⟩)
     ·simp only [go_sem, reduceAdd, reduceLT, reduceLeDiff, reduceEqDiff, Nat.reduceBEq, Nat.reduceBNe]
      refine grd_ (fun hb30 => ?_) (fun hb30 => ?_)
      ·simp only [go_sem, reduceAdd, reduceLT, reduceLeDiff, reduceEqDiff, Nat.reduceBEq, Nat.reduceBNe]
       exact atJ (wkn Jg5 ⟨rfl, rfl, congrArg AV.bool (by first | rfl | (rw [hb30]; rfl) | (simp [hb30]; done) | simp_all), trivial⟩)
      ·simp only [go_sem, reduceAdd, reduceLT, reduceLeDiff, reduceEqDiff, Nat.reduceBEq, Nat.reduceBNe]
       exact atJ (wkn Jg5 ⟨rfl, rfl, congrArg AV.bool (by first | rfl | (rw [hb30]; rfl) | (simp [hb30]; done) | simp_all), trivial⟩)
    ·clear hK4
     refine cnd_s 10000 h (fun hb h => ?_) (fun hb h => ?_)
     ·simp only [go_sem, reduceAdd, reduceLT, reduceLeDiff, reduceEqDiff, Nat.reduceBEq, Nat.reduceBNe]
      refine cnd_s 10000 h (fun hb h => ?_) (fun hb h => ?_)
      ·simp only [go_sem, reduceAdd, reduceLT, reduceLeDiff, reduceEqDiff, Nat.reduceBEq, Nat.reduceBNe]
       refine ret_s (fun x => .bool x) h ?_
       first | rfl | simp only [go_sem, resAV, resAll, resOne, reduceAdd, reduceLT, reduceLeDiff, reduceEqDiff, Nat.reduceBEq, Nat.reduceBNe]
      ·simp only [go_sem, reduceAdd, reduceLT, reduceLeDiff, reduceEqDiff, Nat.reduceBEq, Nat.reduceBNe]
       exact atJ (wkn (JK4  h) ⟨rfl, trivial⟩)
     ·simp only [go_sem, reduceAdd, reduceLT, reduceLeDiff, reduceEqDiff, Nat.reduceBEq, Nat.reduceBNe]
      exact atJ (wkn (JK4  h) ⟨rfl, trivial⟩)
   ·simp only [go_sem, reduceAdd, reduceLT, reduceLeDiff, reduceEqDiff, Nat.reduceBEq, Nat.reduceBNe]
    refine grd_ (fun hb31 => ?_) (fun hb31 => ?_)
    ·simp only [go_sem, reduceAdd, reduceLT, reduceLeDiff, reduceEqDiff, Nat.reduceBEq, Nat.reduceBNe]
     refine grd_ (fun hb32 => ?_) (fun hb32 => ?_)
     ·simp only [go_sem, reduceAdd, reduceLT, reduceLeDiff, reduceEqDiff, Nat.reduceBEq, Nat.reduceBNe]
      exact atJ (wkn Jg2 ⟨rfl, congrArg AV.bool (by first | rfl | (rw [hb31, hb32]; rfl) | (simp [hb31, hb32]; done) | simp_all), trivial⟩)
     ·simp only [go_sem, reduceAdd, reduceLT, reduceLeDiff, reduceEqDiff, Nat.reduceBEq, Nat.reduceBNe]
      exact atJ (wkn Jg2 ⟨rfl, congrArg AV.bool (by first | rfl | (rw [hb31, hb32]; rfl) | (simp [hb31, hb32]; done) | simp_all), trivial⟩)
    ·simp only [go_sem, reduceAdd, reduceLT, reduceLeDiff, reduceEqDiff, Nat.reduceBEq, Nat.reduceBNe]
     exact atJ (wkn Jg2 ⟨rfl, congrArg AV.bool (by first | rfl | (rw [hb31]; rfl) | (simp [hb31]; done) | simp_all), trivial⟩)
 ·simp only [go_sem, reduceAdd, reduceLT, reduceLeDiff, reduceEqDiff, Nat.reduceBEq, Nat.reduceBNe]
  refine grd_ (fun hb33 => ?_) (fun hb33 => ?_)
  ·simp only [go_sem, reduceAdd, reduceLT, reduceLeDiff, reduceEqDiff, Nat.reduceBEq, Nat.reduceBNe]
   refine grd_ (fun hb34 => ?_) (fun hb34 => ?_)
   ·simp only [go_sem, reduceAdd, reduceLT, reduceLeDiff, reduceEqDiff, Nat.reduceBEq, Nat.reduceBNe]
    refine grd_ (fun hb35 => ?_) (fun hb35 => ?_)
    ·simp only [go_sem, reduceAdd, reduceLT, reduceLeDiff, reduceEqDiff, Nat.reduceBEq, Nat.reduceBNe]
     exact atJ (wkn Jg1 ⟨rfl, congrArg AV.bool (by first | rfl | (rw [hb33, hb34, hb35]; rfl) | (simp [hb33, hb34, hb35]; done) | simp_all), trivial⟩)
    ·simp only [go_sem, reduceAdd, reduceLT, reduceLeDiff, reduceEqDiff, Nat.reduceBEq, Nat.reduceBNe]
     exact atJ (wkn Jg1 ⟨rfl, congrArg AV.bool (by first | rfl | (rw [hb33, hb34, hb35]; rfl) | (simp [hb33, hb34, hb35]; done) | simp_all), trivial⟩)
   ·simp only [go_sem, reduceAdd, reduceLT, reduceLeDiff, reduceEqDiff, Nat.reduceBEq, Nat.reduceBNe]
    exact atJ (wkn Jg1 ⟨rfl, congrArg AV.bool (by first | rfl | (rw [hb33, hb34]; rfl) | (simp [hb33, hb34]; done) | simp_all), trivial⟩)
  ·simp only [go_sem, reduceAdd, reduceLT, reduceLeDiff, reduceEqDiff, Nat.reduceBEq, Nat.reduceBNe]
   exact atJ (wkn Jg1 ⟨rfl, congrArg AV.bool (by first | rfl | (rw [hb33]; rfl) | (simp [hb33]; done) | simp_all), trivial⟩)
theorem w_ref14_stands {k : Int} {above : Int} {at_ : Int} {of : Int}   {r : Bool} (h : ref14_stands k above at_ of = some r) : ACall Tryz.prog 70 [.int .u8 k, .int .u8 above, .int .i64 at_, .int .i64 of] [] (.bool r) [] := by
 refine acallX 10000 hf70 ok70 (by first | rfl | simp only [go_sem]) meek_bool ?_
 dsimp only [Tryz.f70, nums, Option.getD, List.append]
 unfold ref14_stands at h
 simp only [go_sem, reduceAdd, reduceLT, reduceLeDiff, reduceEqDiff, Nat.reduceBEq, Nat.reduceBNe]
 refine cnd_s 10000 h (fun hb h => ?_) (fun hb h => ?_)
 ·simp only [go_sem, reduceAdd, reduceLT, reduceLeDiff, reduceEqDiff, Nat.reduceBEq, Nat.reduceBNe]
  refine rgJ 44 10000 (.inl rfl) (fun w => w [(8, .bool (((decide (above = 9)) || (decide (above = 10))) && (decide (at_ = 0))))] []) (runX 10000 ?_) (fun Jg1 => ?_)
  ·simp only [go_sem, reduceAdd, reduceLT, reduceLeDiff, reduceEqDiff, Nat.reduceBEq, Nat.reduceBNe]
   refine ret_s (fun x => .bool x) h ?_
   first | rfl | simp only [go_sem, resAV, resAll, resOne, reduceAdd, reduceLT, reduceLeDiff, reduceEqDiff, Nat.reduceBEq, Nat.reduceBNe]
  ·simp only [go_sem, reduceAdd, reduceLT, reduceLeDiff, reduceEqDiff, Nat.reduceBEq, Nat.reduceBNe]
   refine grd_ (fun hb2 => ?_) (fun hb2 => ?_)
   ·simp only [go_sem, reduceAdd, reduceLT, reduceLeDiff, reduceEqDiff, Nat.reduceBEq, Nat.reduceBNe]
    refine grd_ (fun hb3 => ?_) (fun hb3 => ?_)
    ·simp only [go_sem, reduceAdd, reduceLT, reduceLeDiff, reduceEqDiff, Nat.reduceBEq, Nat.reduceBNe]
     exact atJ (wkn Jg1 ⟨congrArg AV.bool (by first | rfl | (rw [hb2, hb3]; rfl) | (simp [hb2, hb3]; done) | simp_all), trivial⟩)
    ·simp only [go_sem, reduceAdd, reduceLT, reduceLeDiff, reduceEqDiff, Nat.reduceBEq, Nat.reduceBNe]
     exact atJ (wkn Jg1 ⟨congrArg AV.bool (by first | rfl | (rw [hb2, hb3]; rfl) | (simp [hb2, hb3]; done) | simp_all), trivial⟩)
   ·simp only [go_sem, reduceAdd, reduceLT, reduceLeDiff, reduceEqDiff, Nat.reduceBEq, Nat.reduceBNe]
    exact atJ (wkn Jg1 ⟨congrArg AV.bool (by first | rfl | (rw [hb2]; rfl) | (simp [hb2]; done) | simp_all), trivial⟩)
 ·simp only [go_sem, reduceAdd, reduceLT, reduceLeDiff, reduceEqDiff, Nat.reduceBEq, Nat.reduceBNe]
  refine cnd_s 10000 h (fun hb h => ?_) (fun hb h => ?_)
  ·simp only [go_sem, reduceAdd, reduceLT, reduceLeDiff, reduceEqDiff, Nat.reduceBEq, Nat.reduceBNe]
   refine bsome h fun y4 hy4 h => ?_
   refine rgJ 44 10000 (.inl rfl) (fun w => w [(8, .bool y4)] []) (runX 10000 ?_) (fun Jy4 => ?_)
   ·clear hy4
    simp only [go_sem, reduceAdd, reduceLT, reduceLeDiff, reduceEqDiff, Nat.reduceBEq, Nat.reduceBNe]
    refine ret_s (fun x => .bool x) h ?_
    first | rfl | simp only [go_sem, resAV, resAll, resOne, reduceAdd, reduceLT, reduceLeDiff, reduceEqDiff, Nat.reduceBEq, Nat.reduceBNe]
   ·clear h
    have h := hy4
    simp only [go_sem, reduceAdd, reduceLT, reduceLeDiff, reduceEqDiff, Nat.reduceBEq, Nat.reduceBNe]
    refine grd_ (fun hb6 => ?_) (fun hb6 => ?_)
    ·have h := ite_t hb6 h
     simp only [go_sem, reduceAdd, reduceLT, reduceLeDiff, reduceEqDiff, Nat.reduceBEq, Nat.reduceBNe]
     refine grd_ (fun hb7 => ?_) (fun hb7 => ?_)
     ·have h := ite_t hb7 h
      refine sub_s h fun v9 _ e8 h => ?_
      simp only [go_sem, reduceAdd, reduceLT, reduceLeDiff, reduceEqDiff, Nat.reduceBEq, Nat.reduceBNe, e8]
      obtain rfl := Option.some.inj h
      exact atJ (wkn (Jy4) ⟨rfl, trivial⟩)
     ·have h := ite_f hb7 h
      simp only [go_sem, reduceAdd, reduceLT, reduceLeDiff, reduceEqDiff, Nat.reduceBEq, Nat.reduceBNe]
      obtain rfl := Option.some.inj h
      exact atJ (wkn (Jy4) ⟨rfl, trivial⟩)
    ·have h := ite_f hb6 h
     simp only [go_sem, reduceAdd, reduceLT, reduceLeDiff, reduceEqDiff, Nat.reduceBEq, Nat.reduceBNe]
     obtain rfl := Option.some.inj h
     exact atJ (wkn (Jy4) ⟨rfl, trivial⟩)
  ·simp only [go_sem, reduceAdd, reduceLT, reduceLeDiff, reduceEqDiff, Nat.reduceBEq, Nat.reduceBNe]
   refine rgJ 44 10000 (.inl rfl) (fun w => w [(8, .bool ((decide (k = 11)) == ((decide (above = 10)) && (decide ((0 : Int) < at_)))))] []) (runX 10000 ?_) (fun Jg10 => ?_)
   ·simp only [go_sem, reduceAdd, reduceLT, reduceLeDiff, reduceEqDiff, Nat.reduceBEq, Nat.reduceBNe]
    refine ret_s (fun x => .bool x) h ?_
    first | rfl | simp only [go_sem, resAV, resAll, resOne, reduceAdd, reduceLT, reduceLeDiff, reduceEqDiff, Nat.reduceBEq, Nat.reduceBNe]
   ·simp only [go_sem, reduceAdd, reduceLT, reduceLeDiff, reduceEqDiff, Nat.reduceBEq, Nat.reduceBNe]
    refine grd_ (fun hb11 => ?_) (fun hb11 => ?_)
    ·simp only [go_sem, reduceAdd, reduceLT, reduceLeDiff, reduceEqDiff, Nat.reduceBEq, Nat.reduceBNe]
     exact atJ (wkn Jg10 ⟨congrArg AV.bool (by first | rfl | (rw [hb11]; rfl) | (simp [hb11]; done) | simp_all), trivial⟩)
    ·simp only [go_sem, reduceAdd, reduceLT, reduceLeDiff, reduceEqDiff, Nat.reduceBEq, Nat.reduceBNe]
     exact atJ (wkn Jg10 ⟨congrArg AV.bool (by first | rfl | (rw [hb11]; rfl) | (simp [hb11]; done) | simp_all), trivial⟩)
theorem w_ref14_May {m : ref14_Method}   {r : Bool} (h : ref14_May m = some r) : ACall Tryz.prog 27 [enc_ref14_Method m] [] (.bool r) [] := by
 refine acallX 10000 hf27 ok27 (by first | rfl | simp only [go_sem]) meek_bool ?_
 dsimp only [Tryz.f27, nums, Option.getD, List.append]
 unfold ref14_May at h
 simp only [go_sem, reduceAdd, reduceLT, reduceLeDiff, reduceEqDiff, Nat.reduceBEq, Nat.reduceBNe]
 refine rg_ 10000 (.inr ⟨[], by kernel_rfl, by kernel_rfl, by rfl⟩) ?_
 refine app_s AV.str none ⟨9, 1, false, 16⟩ (fun _ => rfl) (by decide) rfl h fun v3 _ (b1 : appc ⟨9, 1, false, 16⟩ (.sl (some none) []) (.sl none (List.map AV.str m.Args))) (e2 : appv (.sl (some none) []) (.sl none (List.map AV.str m.Args)) = .sl (some none) (List.map AV.str v3)) h => ?_
 refine app_s AV.str none ⟨9, 1, false, 16⟩ (fun _ => rfl) (by decide) rfl h fun v6 _ b4 e5 h => ?_
 simp only [go_sem, reduceAdd, reduceLT, reduceLeDiff, reduceEqDiff, Nat.reduceBEq, Nat.reduceBNe, b1, e2, b4, e5]
 refine bsome h fun y7 hy7 h => ?_
 refine rgJ 171 10000 (.inl rfl) (fun w => w [(1, .ptr 0 0), (42, .bool y7)] [some [.str m.Sel, .sl none (List.map AV.str m.Args), .sl none (List.map AV.str m.Temps), .sl none (List.map enc_ref14_Node m.Nodes), .sl none (List.map (AV.int .i64) m.Body)]]) (runX 10000 ?_) (fun Jy7 => ?_)
 ·clear hy7
  simp only [go_sem, reduceAdd, reduceLT, reduceLeDiff, reduceEqDiff, Nat.reduceBEq, Nat.reduceBNe]
  refine cnd_s 10000 h (fun hb h => ?_) (fun hb h => ?_)
  ·simp only [go_sem, reduceAdd, reduceLT, reduceLeDiff, reduceEqDiff, Nat.reduceBEq, Nat.reduceBNe]
   refine ret_s (fun x => .bool x) h ?_
   first | rfl | simp only [go_sem, resAV, resAll, resOne, reduceAdd, reduceLT, reduceLeDiff, reduceEqDiff, Nat.reduceBEq, Nat.reduceBNe]
  ·simp only [go_sem, reduceAdd, reduceLT, reduceLeDiff, reduceEqDiff, Nat.reduceBEq, Nat.reduceBNe]
   refine letK_s h fun K15 hK15 h => ?_
   refine blkJ 171 10000 (fun w => ∀ (v71 : (List Int)), K15 v71 = some r → w [(1, .ptr 0 0), (4, .sl (some none) (List.map (AV.int .i64) v71))] [some [.str m.Sel, .sl none (List.map AV.str m.Args), .sl none (List.map AV.str m.Temps), .sl none (List.map enc_ref14_Node m.Nodes), .sl none (List.map (AV.int .i64) m.Body)]]) (fun v71 h => runX 10000 ?_) (fun JK15 => ?_)
   ·subst hK15
    dsimp only at h
    simp only [go_sem, reduceAdd, reduceLT, reduceLeDiff, reduceEqDiff, Nat.reduceBEq, Nat.reduceBNe]
    refine cnd_s 10000 h (fun hb h => ?_) (fun hb h => ?_)
    ·simp only [go_sem, reduceAdd, reduceLT, reduceLeDiff, reduceEqDiff, Nat.reduceBEq, Nat.reduceBNe]
     refine ret_s (fun x => .bool x) h ?_
     first | rfl | simp only [go_sem, resAV, resAll, resOne, reduceAdd, reduceLT, reduceLeDiff, reduceEqDiff, Nat.reduceBEq, Nat.reduceBNe]
    ·simp only [go_sem, reduceAdd, reduceLT, reduceLeDiff, reduceEqDiff, Nat.reduceBEq, Nat.reduceBNe]
     refine letK_s h fun K73 hK73 h => ?_
     refine blkJ 171 10000 (fun w => K73 () = some r → w [] [some [.str m.Sel, .sl none (List.map AV.str m.Args), .sl none (List.map AV.str m.Temps), .sl none (List.map enc_ref14_Node m.Nodes), .sl none (List.map (AV.int .i64) m.Body)]]) (fun  h => runX 10000 ?_) (fun JK73 => ?_)
     ·subst hK73
      dsimp only at h
      simp only [go_sem, reduceAdd, reduceLT, reduceLeDiff, reduceEqDiff, Nat.reduceBEq, Nat.reduceBNe]
      refine ret_s (fun x => .bool x) h ?_
      first | rfl | simp only [go_sem, resAV, resAll, resOne, reduceAdd, reduceLT, reduceLeDiff, reduceEqDiff, Nat.reduceBEq, Nat.reduceBNe]
     ·clear hK73
      simp only [go_sem, reduceAdd, reduceLT, reduceLeDiff, reduceEqDiff, Nat.reduceBEq, Nat.reduceBNe]
      refine lpJ 171 fuel (fun q3 w => ∀ (v74 : Int), ref14_May_l3 m v71 K73 q3 v74 = some r → w [(1, .ptr 0 0), (4, .sl (some none) (List.map (AV.int .i64) v71)), (11, .int .i64 v74)] [some [.str m.Sel, .sl none (List.map AV.str m.Args), .sl none (List.map AV.str m.Temps), .sl none (List.map enc_ref14_Node m.Nodes), .sl none (List.map (AV.int .i64) m.Body)]]) (fun w _ h => nomatch h) (fun q3 ih3 v74 h => ?_) (fun L3 => ?_)
      ·unfold ref14_May_l3 at h
       refine runL 10000 ?_
       simp only [go_sem, reduceAdd, reduceLT, reduceLeDiff, reduceEqDiff, Nat.reduceBEq, Nat.reduceBNe]
       refine cnd_s 10000 h (fun hb h => ?_) (fun hb h => ?_)
       ·simp only [go_sem, reduceAdd, reduceLT, reduceLeDiff, reduceEqDiff, Nat.reduceBEq, Nat.reduceBNe]
        refine blk_ 10000 ?_
        simp only [go_sem, reduceAdd, reduceLT, reduceLeDiff, reduceEqDiff, Nat.reduceBEq, Nat.reduceBNe]
        refine bsome h fun y75 hy75 h => ?_
        refine rgJ 171 10000 (.inr ⟨[], by kernel_rfl, by kernel_rfl, by rfl⟩) (fun w => w [(1, .ptr 0 0), (4, .sl (some none) (List.map (AV.int .i64) v71)), (11, .int .i64 v74), (170, .bool y75)] [some [.str m.Sel, .sl none (List.map AV.str m.Args), .sl none (List.map AV.str m.Temps), .sl none (List.map enc_ref14_Node m.Nodes), .sl none (List.map (AV.int .i64) m.Body)]]) (runX 10000 ?_) (fun Jy75 => ?_)
        ·clear hy75
         simp only [go_sem, reduceAdd, reduceLT, reduceLeDiff, reduceEqDiff, Nat.reduceBEq, Nat.reduceBNe]
         refine cnd_s 10000 h (fun hb h => ?_) (fun hb h => ?_)
         ·simp only [go_sem, reduceAdd, reduceLT, reduceLeDiff, reduceEqDiff, Nat.reduceBEq, Nat.reduceBNe]
          refine ret_s (fun x => .bool x) h ?_
          first | rfl | simp only [go_sem, resAV, resAll, resOne, reduceAdd, reduceLT, reduceLeDiff, reduceEqDiff, Nat.reduceBEq, Nat.reduceBNe]
         ·refine add_s h fun v91 _ e90 h => ?_
          simp only [go_sem, reduceAdd, reduceLT, reduceLeDiff, reduceEqDiff, Nat.reduceBEq, Nat.reduceBNe, e90]
          exact lp_back (ih3 v91 h) ⟨rfl, rfl, rfl, trivial⟩
        ·clear h
         have h := hy75
         refine lAt_s (AV.int .i64) none .i64 ⟨3, 1, false, 8⟩ (fun _ => rfl) h fun v79 _ b77 e78 h => ?_
         refine lAt_s (AV.int .i64) none .i64 ⟨3, 1, false, 8⟩ (fun _ => rfl) h fun v82 _ b80 e81 h => ?_
         simp only [go_sem, reduceAdd, reduceLT, reduceLeDiff, reduceEqDiff, Nat.reduceBEq, Nat.reduceBNe, b77, e78, b80, e81]
         refine grd_ (fun hb83 => ?_) (fun hb83 => ?_)
         ·have h := ite_f hb83 h
          refine lAt_s enc_ref14_Node none .i64 ⟨78, 5, true, 80⟩ (fun _ => rfl) h fun v88 _ b86 e87 h => ?_
          refine bsome h fun v89 hv89 h => ?_
          simp only [go_sem, reduceAdd, reduceLT, reduceLeDiff, reduceEqDiff, Nat.reduceBEq, Nat.reduceBNe, b80, e81, b86, e87]
          refine callX_ 10000 (w_ref14_stands  hv89) (by first | rfl | simp only [go_sem]) (by first | rfl | simp only [go_sem]) ?_
          simp only [go_sem, reduceAdd, reduceLT, reduceLeDiff, reduceEqDiff, Nat.reduceBEq, Nat.reduceBNe]
          obtain rfl := Option.some.inj h
          exact atJ (wkn (Jy75) ⟨rfl, rfl, rfl, rfl, trivial⟩)
         ·have h := ite_t hb83 h
          simp only [go_sem, reduceAdd, reduceLT, reduceLeDiff, reduceEqDiff, Nat.reduceBEq, Nat.reduceBNe]
          obtain rfl := Option.some.inj h
          exact atJ (wkn (Jy75) ⟨rfl, rfl, rfl, rfl, trivial⟩)
       ·simp only [go_sem, reduceAdd, reduceLT, reduceLeDiff, reduceEqDiff, Nat.reduceBEq, Nat.reduceBNe]
        exact atJ (wkn (JK73  h) trivial)
      ·exact lp_back (L3 0 h) ⟨rfl, rfl, rfl, trivial⟩
   ·clear hK15
    simp only [go_sem, reduceAdd, reduceLT, reduceLeDiff, reduceEqDiff, Nat.reduceBEq, Nat.reduceBNe]
    refine lpJ 171 fuel (fun q1 w => ∀ (v16 : (List Int)) (v17 : (List Int)) (v18 : Int), ref14_May_l1 m K15 q1 v16 v17 v18 = some r → w [(1, .ptr 0 0), (4, .sl (some none) (List.map (AV.int .i64) v16)), (5, .sl (some none) (List.map (AV.int .i64) v17)), (6, .int .i64 v18)] [some [.str m.Sel, .sl none (List.map AV.str m.Args), .sl none (List.map AV.str m.Temps), .sl none (List.map enc_ref14_Node m.Nodes), .sl none (List.map (AV.int .i64) m.Body)]]) (fun w _ _ _ h => nomatch h) (fun q1 ih1 v16 v17 v18 h => ?_) (fun L1 => ?_)
    ·unfold ref14_May_l1 at h
     refine runL 10000 ?_
     simp only [go_sem, reduceAdd, reduceLT, reduceLeDiff, reduceEqDiff, Nat.reduceBEq, Nat.reduceBNe]
     refine cnd_s 10000 h (fun hb h => ?_) (fun hb h => ?_)
     ·simp only [go_sem, reduceAdd, reduceLT, reduceLeDiff, reduceEqDiff, Nat.reduceBEq, Nat.reduceBNe]
      refine blk_ 10000 ?_
      refine lAt_s enc_ref14_Node none .i64 ⟨78, 5, true, 80⟩ (fun _ => rfl) h fun v21 _ b19 e20 h => ?_
      simp only [go_sem, reduceAdd, reduceLT, reduceLeDiff, reduceEqDiff, Nat.reduceBEq, Nat.reduceBNe, b19, e20]
      refine bsome h fun y22 hy22 h => ?_
      refine rgJ 171 10000 (.inl rfl) (fun w => w [(1, .ptr 0 0), (4, .sl (some none) (List.map (AV.int .i64) v16)), (5, .sl (some none) (List.map (AV.int .i64) v17)), (6, .int .i64 v18), (7, .ptr 1 0), (65, .bool y22)] [some [.str m.Sel, .sl none (List.map AV.str m.Args), .sl none (List.map AV.str m.Temps), .sl none (List.map enc_ref14_Node m.Nodes), .sl none (List.map (AV.int .i64) m.Body)], some [.int .u8 v21.K, .str v21.S, .int .i64 v21.N, .sl none (List.map AV.str v21.L), .sl none (List.map (AV.int .i64) v21.Kids)]]) (runX 10000 ?_) (fun Jy22 => ?_)
      ·clear hy22
       simp only [go_sem, reduceAdd, reduceLT, reduceLeDiff, reduceEqDiff, Nat.reduceBEq, Nat.reduceBNe]
       refine cnd_s 10000 h (fun hb h => ?_) (fun hb h => ?_)
       ·simp only [go_sem, reduceAdd, reduceLT, reduceLeDiff, reduceEqDiff, Nat.reduceBEq, Nat.reduceBNe]
        refine ret_s (fun x => .bool x) h ?_
        first | rfl | simp only [go_sem, resAV, resAll, resOne, reduceAdd, reduceLT, reduceLeDiff, reduceEqDiff, Nat.reduceBEq, Nat.reduceBNe]
       ·simp only [go_sem, reduceAdd, reduceLT, reduceLeDiff, reduceEqDiff, Nat.reduceBEq, Nat.reduceBNe]
        refine letK_s h fun K27 hK27 h => ?_
        refine blkJ 171 10000 (fun w => ∀ (v52 : Int), K27 v52 = some r → w [(1, .ptr 0 0), (4, .sl (some none) (List.map (AV.int .i64) v16)), (5, .sl (some none) (List.map (AV.int .i64) v17)), (6, .int .i64 v18), (7, .ptr 1 0), (8, .int .i64 v52)] [some [.str m.Sel, .sl none (List.map AV.str m.Args), .sl none (List.map AV.str m.Temps), .sl none (List.map enc_ref14_Node m.Nodes), .sl none (List.map (AV.int .i64) m.Body)], some [.int .u8 v21.K, .str v21.S, .int .i64 v21.N, .sl none (List.map AV.str v21.L), .sl none (List.map (AV.int .i64) v21.Kids)]]) (fun v52 h => runX 10000 ?_) (fun JK27 => ?_)
        ·subst hK27
         dsimp only at h
         simp only [go_sem, reduceAdd, reduceLT, reduceLeDiff, reduceEqDiff, Nat.reduceBEq, Nat.reduceBNe]
         refine cnd_s 10000 h (fun hb h => ?_) (fun hb h => ?_)
         ·simp only [go_sem, reduceAdd, reduceLT, reduceLeDiff, reduceEqDiff, Nat.reduceBEq, Nat.reduceBNe]
          refine ret_s (fun x => .bool x) h ?_
          first | rfl | simp only [go_sem, resAV, resAll, resOne, reduceAdd, reduceLT, reduceLeDiff, reduceEqDiff, Nat.reduceBEq, Nat.reduceBNe]
         ·refine add_s h fun v54 _ e53 h => ?_
          refine app_s (AV.int .i64) (some none) ⟨3, 1, false, 8⟩ (fun _ => rfl) (by decide) rfl h fun v57 _ (b55 : appc ⟨3, 1, false, 8⟩ (.sl (some none) (List.map (AV.int .i64) v17)) (.sl (some none) [.int .i64 v54])) (e56 : appv (.sl (some none) (List.map (AV.int .i64) v17)) (.sl (some none) [.int .i64 v54]) = .sl (some none) (List.map (AV.int .i64) v57)) h => ?_
          refine sub_s h fun v59 _ e58 h => ?_
          refine subL_s (AV.int .i64) none ⟨3, 1, false, 8⟩ (fun _ => rfl) none (some (.int .i64 v59)) rfl rfl h fun v62 _ b60 e61 h => ?_
          refine app_s (AV.int .i64) none ⟨3, 1, false, 8⟩ (fun _ => rfl) (by decide) rfl h fun v65 _ (b63 : appc ⟨3, 1, false, 8⟩ (.sl (some none) []) (.sl none (List.map (AV.int .i64) v62))) (e64 : appv (.sl (some none) []) (.sl none (List.map (AV.int .i64) v62)) = .sl (some none) (List.map (AV.int .i64) v65)) h => ?_
          refine app_s (AV.int .i64) (some none) ⟨3, 1, false, 8⟩ (fun _ => rfl) (by decide) rfl h fun v68 _ (b66 : appc ⟨3, 1, false, 8⟩ (.sl (some none) (List.map (AV.int .i64) v65)) (.sl (some none) [.int .i64 v18])) (e67 : appv (.sl (some none) (List.map (AV.int .i64) v65)) (.sl (some none) [.int .i64 v18]) = .sl (some none) (List.map (AV.int .i64) v68)) h => ?_
          refine add_s h fun v70 _ e69 h => ?_
          simp only [go_sem, reduceAdd, reduceLT, reduceLeDiff, reduceEqDiff, Nat.reduceBEq, Nat.reduceBNe, e53, b55, e56, e58, b60, e61, b63, e64, b66, e67, e69]
          exact lp_backH 1 (ih1 v68 v57 v70 h) ⟨rfl, rfl, rfl, rfl, trivial⟩ rfl rfl rfl (by first | rfl | simp only [go_sem, ltF]) (by first | rfl | simp only [go_sem, allLt])
        ·clear hK27
         simp only [go_sem, reduceAdd, reduceLT, reduceLeDiff, reduceEqDiff, Nat.reduceBEq, Nat.reduceBNe]
         refine lpJ 171 fuel (fun q2 w => ∀ (v28 : Int) (v29 : Int), ref14_May_l2 m v16 v17 v21 K27 q2 v28 v29 = some r → w [(1, .ptr 0 0), (4, .sl (some none) (List.map (AV.int .i64) v16)), (5, .sl (some none) (List.map (AV.int .i64) v17)), (6, .int .i64 v18), (7, .ptr 1 0), (8, .int .i64 v28), (9, .int .i64 v29)] [some [.str m.Sel, .sl none (List.map AV.str m.Args), .sl none (List.map AV.str m.Temps), .sl none (List.map enc_ref14_Node m.Nodes), .sl none (List.map (AV.int .i64) m.Body)], some [.int .u8 v21.K, .str v21.S, .int .i64 v21.N, .sl none (List.map AV.str v21.L), .sl none (List.map (AV.int .i64) v21.Kids)]]) (fun w _ _ h => nomatch h) (fun q2 ih2 v28 v29 h => ?_) (fun L2 => ?_)
         ·unfold ref14_May_l2 at h
          refine runL 10000 ?_
          simp only [go_sem, reduceAdd, reduceLT, reduceLeDiff, reduceEqDiff, Nat.reduceBEq, Nat.reduceBNe]
          refine cnd_s 10000 h (fun hb h => ?_) (fun hb h => ?_)
          ·simp only [go_sem, reduceAdd, reduceLT, reduceLeDiff, reduceEqDiff, Nat.reduceBEq, Nat.reduceBNe]
           refine blk_ 10000 ?_
           refine sub_s h fun v31 _ e30 h => ?_
           refine add_s h fun v33 _ e32 h => ?_
           refine lAt_s (AV.int .i64) none .i64 ⟨3, 1, false, 8⟩ (fun _ => rfl) h fun v36 _ b34 e35 h => ?_
           simp only [go_sem, reduceAdd, reduceLT, reduceLeDiff, reduceEqDiff, Nat.reduceBEq, Nat.reduceBNe, e30, e32, b34, e35]
           refine bsome h fun y37 hy37 h => ?_
           refine rgJ 171 10000 (.inr ⟨[], by kernel_rfl, by kernel_rfl, by rfl⟩) (fun w => w [(1, .ptr 0 0), (4, .sl (some none) (List.map (AV.int .i64) v16)), (5, .sl (some none) (List.map (AV.int .i64) v17)), (6, .int .i64 v18), (7, .ptr 1 0), (8, .int .i64 v28), (9, .int .i64 v29), (10, .int .i64 v36), (106, .bool y37)] [some [.str m.Sel, .sl none (List.map AV.str m.Args), .sl none (List.map AV.str m.Temps), .sl none (List.map enc_ref14_Node m.Nodes), .sl none (List.map (AV.int .i64) m.Body)], some [.int .u8 v21.K, .str v21.S, .int .i64 v21.N, .sl none (List.map AV.str v21.L), .sl none (List.map (AV.int .i64) v21.Kids)]]) (runX 10000 ?_) (fun Jy37 => ?_)
           ·clear hy37
            simp only [go_sem, reduceAdd, reduceLT, reduceLeDiff, reduceEqDiff, Nat.reduceBEq, Nat.reduceBNe]
            refine cnd_s 10000 h (fun hb h => ?_) (fun hb h => ?_)
            ·simp only [go_sem, reduceAdd, reduceLT, reduceLeDiff, reduceEqDiff, Nat.reduceBEq, Nat.reduceBNe]
             refine ret_s (fun x => .bool x) h ?_
             first | rfl | simp only [go_sem, resAV, resAll, resOne, reduceAdd, reduceLT, reduceLeDiff, reduceEqDiff, Nat.reduceBEq, Nat.reduceBNe]
            ·refine lAt_s (AV.int .i64) none .i64 ⟨3, 1, false, 8⟩ (fun _ => rfl) h fun v49 _ b47 e48 h => ?_
             refine add_s h fun v51 _ e50 h => ?_
             simp only [go_sem, reduceAdd, reduceLT, reduceLeDiff, reduceEqDiff, Nat.reduceBEq, Nat.reduceBNe, b47, e48, (mxv_e .i64 v28 v49), e50]
             exact lp_back (ih2 (max v28 v49) v51 h) ⟨rfl, rfl, rfl, rfl, rfl, rfl, rfl, trivial⟩
           ·clear h
            have h := hy37
            refine lAt_s (AV.int .i64) none .i64 ⟨3, 1, false, 8⟩ (fun _ => rfl) h fun v41 _ b39 e40 h => ?_
            simp only [go_sem, reduceAdd, reduceLT, reduceLeDiff, reduceEqDiff, Nat.reduceBEq, Nat.reduceBNe, b39, e40]
            refine grd_ (fun hb42 => ?_) (fun hb42 => ?_)
            ·have h := ite_f hb42 h
             refine lAt_s enc_ref14_Node none .i64 ⟨78, 5, true, 80⟩ (fun _ => rfl) h fun v45 _ b43 e44 h => ?_
             refine bsome h fun v46 hv46 h => ?_
             simp only [go_sem, reduceAdd, reduceLT, reduceLeDiff, reduceEqDiff, Nat.reduceBEq, Nat.reduceBNe, b43, e44]
             refine callX_ 10000 (w_ref14_stands  hv46) (by first | rfl | simp only [go_sem]) (by first | rfl | simp only [go_sem]) ?_
             simp only [go_sem, reduceAdd, reduceLT, reduceLeDiff, reduceEqDiff, Nat.reduceBEq, Nat.reduceBNe]
             obtain rfl := Option.some.inj h
             exact atJ (wkn (Jy37) ⟨rfl, rfl, rfl, rfl, rfl, rfl, rfl, rfl, rfl, trivial⟩)
            ·have h := ite_t hb42 h
             simp only [go_sem, reduceAdd, reduceLT, reduceLeDiff, reduceEqDiff, Nat.reduceBEq, Nat.reduceBNe]
             obtain rfl := Option.some.inj h
             exact atJ (wkn (Jy37) ⟨rfl, rfl, rfl, rfl, rfl, rfl, rfl, rfl, rfl, trivial⟩)
          ·simp only [go_sem, reduceAdd, reduceLT, reduceLeDiff, reduceEqDiff, Nat.reduceBEq, Nat.reduceBNe]
           exact atJ (wkn (JK27 v28 h) ⟨rfl, rfl, rfl, rfl, rfl, rfl, trivial⟩)
         ·exact lp_back (L2 0 0 h) ⟨rfl, rfl, rfl, rfl, rfl, rfl, rfl, trivial⟩
      ·clear h
       have h := hy22
       refine bsome h fun v24 hv24 h => ?_
       simp only [go_sem, reduceAdd, reduceLT, reduceLeDiff, reduceEqDiff, Nat.reduceBEq, Nat.reduceBNe]
       refine callX_ 10000 (w_ref14_shape  hv24) (by first | rfl | simp only [go_sem]) (by first | rfl | simp only [go_sem]) ?_
       simp only [go_sem, reduceAdd, reduceLT, reduceLeDiff, reduceEqDiff, Nat.reduceBEq, Nat.reduceBNe]
       refine grd_ (fun hb25 => ?_) (fun hb25 => ?_)
       ·have h := ite_f hb25 h
        simp only [go_sem, reduceAdd, reduceLT, reduceLeDiff, reduceEqDiff, Nat.reduceBEq, Nat.reduceBNe]
        obtain rfl := Option.some.inj h
        exact atJ (wkn (Jy22) ⟨rfl, rfl, rfl, rfl, rfl, rfl, trivial⟩)
       ·have h := ite_t hb25 h
        simp only [go_sem, reduceAdd, reduceLT, reduceLeDiff, reduceEqDiff, Nat.reduceBEq, Nat.reduceBNe]
        obtain rfl := Option.some.inj h
        exact atJ (wkn (Jy22) ⟨rfl, rfl, rfl, rfl, rfl, rfl, trivial⟩)
     ·simp only [go_sem, reduceAdd, reduceLT, reduceLeDiff, reduceEqDiff, Nat.reduceBEq, Nat.reduceBNe]
      exact atJ (wkn (JK15 v16 h) ⟨rfl, rfl, trivial⟩)
    ·exact lp_back (L1 [] [] 0 h) ⟨rfl, rfl, rfl, rfl, trivial⟩
 ·clear h
  have h := hy7
  refine bsome h fun v9 hv9 h => ?_
  simp only [go_sem, reduceAdd, reduceLT, reduceLeDiff, reduceEqDiff, Nat.reduceBEq, Nat.reduceBNe]
  refine callX_ 10000 (w_ref14_takes  hv9) (by first | rfl | simp only [go_sem]) (by first | rfl | simp only [go_sem]) ?_
  simp only [go_sem, reduceAdd, reduceLT, reduceLeDiff, reduceEqDiff, Nat.reduceBEq, Nat.reduceBNe]
  refine grd_ (fun hb10 => ?_) (fun hb10 => ?_)
  ·have h := ite_f hb10 h
   refine bsome h fun v11 hv11 h => ?_
   simp only [go_sem, reduceAdd, reduceLT, reduceLeDiff, reduceEqDiff, Nat.reduceBEq, Nat.reduceBNe]
   refine callX_ 10000 (w_ref14_Vars  hv11) (by first | rfl | simp only [go_sem]) (by first | rfl | simp only [go_sem]) ?_
   simp only [go_sem, reduceAdd, reduceLT, reduceLeDiff, reduceEqDiff, Nat.reduceBEq, Nat.reduceBNe]
   refine grd_ (fun hb12 => ?_) (fun hb12 => ?_)
   ·have h := ite_f hb12 h
    simp only [go_sem, reduceAdd, reduceLT, reduceLeDiff, reduceEqDiff, Nat.reduceBEq, Nat.reduceBNe]
    refine grd_ (fun hb13 => ?_) (fun hb13 => ?_)
    ·have h := ite_f hb13 h
     simp only [go_sem, reduceAdd, reduceLT, reduceLeDiff, reduceEqDiff, Nat.reduceBEq, Nat.reduceBNe]
     obtain rfl := Option.some.inj h
     exact atJ (wkn (Jy7) ⟨rfl, rfl, trivial⟩)
    ·have h := ite_t hb13 h
     simp only [go_sem, reduceAdd, reduceLT, reduceLeDiff, reduceEqDiff, Nat.reduceBEq, Nat.reduceBNe]
     obtain rfl := Option.some.inj h
     exact atJ (wkn (Jy7) ⟨rfl, rfl, trivial⟩)
   ·have h := ite_t hb12 h
    simp only [go_sem, reduceAdd, reduceLT, reduceLeDiff, reduceEqDiff, Nat.reduceBEq, Nat.reduceBNe]
    obtain rfl := Option.some.inj h
    exact atJ (wkn (Jy7) ⟨rfl, rfl, trivial⟩)
  ·have h := ite_t hb10 h
   simp only [go_sem, reduceAdd, reduceLT, reduceLeDiff, reduceEqDiff, Nat.reduceBEq, Nat.reduceBNe]
   obtain rfl := Option.some.inj h
   exact atJ (wkn (Jy7) ⟨rfl, rfl, trivial⟩)
theorem w_ref14_MayAll {l : (List ref14_Class)}   {r : Bool} (h : ref14_MayAll l = some r) : ACall Tryz.prog 39 [.sl none (List.map enc_ref14_Class l)] [] (.bool r) [] := by
 refine acallX 10000 hf39 ok39 (by first | rfl | simp only [go_sem]) meek_bool ?_
 dsimp only [Tryz.f39, nums, Option.getD, List.append]
 unfold ref14_MayAll at h
 simp only [go_sem, reduceAdd, reduceLT, reduceLeDiff, reduceEqDiff, Nat.reduceBEq, Nat.reduceBNe]
 refine cnd_s 10000 h (fun hb h => ?_) (fun hb h => ?_)
 ·simp only [go_sem, reduceAdd, reduceLT, reduceLeDiff, reduceEqDiff, Nat.reduceBEq, Nat.reduceBNe]
  refine ret_s (fun x => .bool x) h ?_
  first | rfl | simp only [go_sem, resAV, resAll, resOne, reduceAdd, reduceLT, reduceLeDiff, reduceEqDiff, Nat.reduceBEq, Nat.reduceBNe]
 ·simp only [go_sem, reduceAdd, reduceLT, reduceLeDiff, reduceEqDiff, Nat.reduceBEq, Nat.reduceBNe]
  refine letK_s h fun K2 hK2 h => ?_
  refine blkJ 70 10000 (fun w => K2 () = some r → w [] []) (fun  h => runX 10000 ?_) (fun JK2 => ?_)
  ·subst hK2
   dsimp only at h
   simp only [go_sem, reduceAdd, reduceLT, reduceLeDiff, reduceEqDiff, Nat.reduceBEq, Nat.reduceBNe]
   refine ret_s (fun x => .bool x) h ?_
   first | rfl | simp only [go_sem, resAV, resAll, resOne, reduceAdd, reduceLT, reduceLeDiff, reduceEqDiff, Nat.reduceBEq, Nat.reduceBNe]
  ·clear hK2
   simp only [go_sem, reduceAdd, reduceLT, reduceLeDiff, reduceEqDiff, Nat.reduceBEq, Nat.reduceBNe]
   refine lpJ 70 fuel (fun q1 w => ∀ (v3 : Int), ref14_MayAll_l1 l K2 q1 v3 = some r → w [(0, .sl none (List.map enc_ref14_Class l)), (3, .int .i64 v3)] []) (fun w _ h => nomatch h) (fun q1 ih1 v3 h => ?_) (fun L1 => ?_)
   ·unfold ref14_MayAll_l1 at h
    refine runL 10000 ?_
    simp only [go_sem, reduceAdd, reduceLT, reduceLeDiff, reduceEqDiff, Nat.reduceBEq, Nat.reduceBNe]
    refine cnd_s 10000 h (fun hb h => ?_) (fun hb h => ?_)
    ·simp only [go_sem, reduceAdd, reduceLT, reduceLeDiff, reduceEqDiff, Nat.reduceBEq, Nat.reduceBNe]
     refine blk_ 10000 ?_
     refine lAt_s enc_ref14_Class none .i64 ⟨54, 4, true, 80⟩ (fun _ => rfl) h fun v6 _ b4 e5 h => ?_
     simp only [go_sem, reduceAdd, reduceLT, reduceLeDiff, reduceEqDiff, Nat.reduceBEq, Nat.reduceBNe, b4, e5]
     refine bsome h fun y7 hy7 h => ?_
     refine rgJ 70 10000 (.inl rfl) (fun w => w [(0, .sl none (List.map enc_ref14_Class l)), (3, .int .i64 v3), (4, .ptr 0 0), (41, .bool y7)] [some [.str v6.Name, .str v6.Super, .sl none (List.map AV.str v6.Vars), .sl none (List.map enc_ref14_Method v6.Methods)]]) (runX 10000 ?_) (fun Jy7 => ?_)
     ·clear hy7
      simp only [go_sem, reduceAdd, reduceLT, reduceLeDiff, reduceEqDiff, Nat.reduceBEq, Nat.reduceBNe]
      refine cnd_s 10000 h (fun hb h => ?_) (fun hb h => ?_)
      ·simp only [go_sem, reduceAdd, reduceLT, reduceLeDiff, reduceEqDiff, Nat.reduceBEq, Nat.reduceBNe]
       refine ret_s (fun x => .bool x) h ?_
       first | rfl | simp only [go_sem, resAV, resAll, resOne, reduceAdd, reduceLT, reduceLeDiff, reduceEqDiff, Nat.reduceBEq, Nat.reduceBNe]
      ·simp only [go_sem, reduceAdd, reduceLT, reduceLeDiff, reduceEqDiff, Nat.reduceBEq, Nat.reduceBNe]
       refine letK_s h fun K15 hK15 h => ?_
       refine blkJ 70 10000 (fun w => K15 () = some r → w [(0, .sl none (List.map enc_ref14_Class l)), (3, .int .i64 v3), (4, .ptr 0 0)] [some [.str v6.Name, .str v6.Super, .sl none (List.map AV.str v6.Vars), .sl none (List.map enc_ref14_Method v6.Methods)]]) (fun  h => runX 10000 ?_) (fun JK15 => ?_)
       ·subst hK15
        dsimp only at h
        simp only [go_sem, reduceAdd, reduceLT, reduceLeDiff, reduceEqDiff, Nat.reduceBEq, Nat.reduceBNe]
        refine letK_s h fun K24 hK24 h => ?_
        refine blkJ 70 10000 (fun w => K24 () = some r → w [(0, .sl none (List.map enc_ref14_Class l)), (3, .int .i64 v3)] [some [.str v6.Name, .str v6.Super, .sl none (List.map AV.str v6.Vars), .sl none (List.map enc_ref14_Method v6.Methods)]]) (fun  h => runX 10000 ?_) (fun JK24 => ?_)
        ·subst hK24
         dsimp only at h
         refine add_s h fun v33 _ e32 h => ?_
         simp only [go_sem, reduceAdd, reduceLT, reduceLeDiff, reduceEqDiff, Nat.reduceBEq, Nat.reduceBNe, e32]
         exact lp_backH 0 (ih1 v33 h) ⟨rfl, rfl, trivial⟩ rfl rfl rfl (by first | rfl | simp only [go_sem, ltF]) (by first | rfl | simp only [go_sem, allLt])
        ·clear hK24
         simp only [go_sem, reduceAdd, reduceLT, reduceLeDiff, reduceEqDiff, Nat.reduceBEq, Nat.reduceBNe]
         refine lpJ 70 fuel (fun q3 w => ∀ (v25 : Int), ref14_MayAll_l3 v6 K24 q3 v25 = some r → w [(0, .sl none (List.map enc_ref14_Class l)), (3, .int .i64 v3), (4, .ptr 0 0), (6, .int .i64 v25)] [some [.str v6.Name, .str v6.Super, .sl none (List.map AV.str v6.Vars), .sl none (List.map enc_ref14_Method v6.Methods)]]) (fun w _ h => nomatch h) (fun q3 ih3 v25 h => ?_) (fun L3 => ?_)
         ·unfold ref14_MayAll_l3 at h
          refine runL 10000 ?_
          simp only [go_sem, reduceAdd, reduceLT, reduceLeDiff, reduceEqDiff, Nat.reduceBEq, Nat.reduceBNe]
          refine cnd_s 10000 h (fun hb h => ?_) (fun hb h => ?_)
          ·simp only [go_sem, reduceAdd, reduceLT, reduceLeDiff, reduceEqDiff, Nat.reduceBEq, Nat.reduceBNe]
           refine blk_ 10000 ?_
           refine lAt_s enc_ref14_Method none .i64 ⟨26, 5, true, 112⟩ (fun _ => rfl) h fun v28 _ b26 e27 h => ?_
           refine bsome h fun v29 hv29 h => ?_
           simp only [go_sem, reduceAdd, reduceLT, reduceLeDiff, reduceEqDiff, Nat.reduceBEq, Nat.reduceBNe, b26, e27]
           refine callX_ 10000 (w_ref14_May  hv29) (by first | rfl | simp only [go_sem]) (by first | rfl | simp only [go_sem]) ?_
           simp only [go_sem, reduceAdd, reduceLT, reduceLeDiff, reduceEqDiff, Nat.reduceBEq, Nat.reduceBNe]
           refine cnd_s 10000 h (fun hb h => ?_) (fun hb h => ?_)
           ·simp only [go_sem, reduceAdd, reduceLT, reduceLeDiff, reduceEqDiff, Nat.reduceBEq, Nat.reduceBNe]
            refine ret_s (fun x => .bool x) h ?_
            first | rfl | simp only [go_sem, resAV, resAll, resOne, reduceAdd, reduceLT, reduceLeDiff, reduceEqDiff, Nat.reduceBEq, Nat.reduceBNe]
           ·refine add_s h fun v31 _ e30 h => ?_
            simp only [go_sem, reduceAdd, reduceLT, reduceLeDiff, reduceEqDiff, Nat.reduceBEq, Nat.reduceBNe, e30]
            exact lp_back (ih3 v31 h) ⟨rfl, rfl, rfl, rfl, trivial⟩
          ·simp only [go_sem, reduceAdd, reduceLT, reduceLeDiff, reduceEqDiff, Nat.reduceBEq, Nat.reduceBNe]
           exact atJ (wkn (JK24  h) ⟨rfl, rfl, trivial⟩)
         ·exact lp_back (L3 0 h) ⟨rfl, rfl, rfl, rfl, trivial⟩
       ·clear hK15
        simp only [go_sem, reduceAdd, reduceLT, reduceLeDiff, reduceEqDiff, Nat.reduceBEq, Nat.reduceBNe]
        refine lpJ 70 fuel (fun q2 w => ∀ (v16 : Int), ref14_MayAll_l2 v6 K15 q2 v16 = some r → w [(0, .sl none (List.map enc_ref14_Class l)), (3, .int .i64 v3), (4, .ptr 0 0), (5, .int .i64 v16)] [some [.str v6.Name, .str v6.Super, .sl none (List.map AV.str v6.Vars), .sl none (List.map enc_ref14_Method v6.Methods)]]) (fun w _ h => nomatch h) (fun q2 ih2 v16 h => ?_) (fun L2 => ?_)
        ·unfold ref14_MayAll_l2 at h
         refine runL 10000 ?_
         simp only [go_sem, reduceAdd, reduceLT, reduceLeDiff, reduceEqDiff, Nat.reduceBEq, Nat.reduceBNe]
         refine cnd_s 10000 h (fun hb h => ?_) (fun hb h => ?_)
         ·simp only [go_sem, reduceAdd, reduceLT, reduceLeDiff, reduceEqDiff, Nat.reduceBEq, Nat.reduceBNe]
          refine blk_ 10000 ?_
          refine lAt_s AV.str none .i64 ⟨9, 1, false, 16⟩ (fun _ => rfl) h fun v19 _ b17 e18 h => ?_
          refine bsome h fun v20 hv20 h => ?_
          simp only [go_sem, reduceAdd, reduceLT, reduceLeDiff, reduceEqDiff, Nat.reduceBEq, Nat.reduceBNe, b17, e18]
          refine callX_ 10000 (w_ref10_Var  hv20) (by first | rfl | simp only [go_sem]) (by first | rfl | simp only [go_sem]) ?_
          simp only [go_sem, reduceAdd, reduceLT, reduceLeDiff, reduceEqDiff, Nat.reduceBEq, Nat.reduceBNe]
          refine cnd_s 10000 h (fun hb h => ?_) (fun hb h => ?_)
          ·simp only [go_sem, reduceAdd, reduceLT, reduceLeDiff, reduceEqDiff, Nat.reduceBEq, Nat.reduceBNe]
           refine ret_s (fun x => .bool x) h ?_
           first | rfl | simp only [go_sem, resAV, resAll, resOne, reduceAdd, reduceLT, reduceLeDiff, reduceEqDiff, Nat.reduceBEq, Nat.reduceBNe]
          ·refine add_s h fun v22 _ e21 h => ?_
           simp only [go_sem, reduceAdd, reduceLT, reduceLeDiff, reduceEqDiff, Nat.reduceBEq, Nat.reduceBNe, e21]
           exact lp_back (ih2 v22 h) ⟨rfl, rfl, rfl, rfl, trivial⟩
         ·simp only [go_sem, reduceAdd, reduceLT, reduceLeDiff, reduceEqDiff, Nat.reduceBEq, Nat.reduceBNe]
          exact atJ (wkn (JK15  h) ⟨rfl, rfl, rfl, trivial⟩)
        ·exact lp_back (L2 0 h) ⟨rfl, rfl, rfl, rfl, trivial⟩
     ·clear h
      have h := hy7
      refine bsome h fun v9 hv9 h => ?_
      simp only [go_sem, reduceAdd, reduceLT, reduceLeDiff, reduceEqDiff, Nat.reduceBEq, Nat.reduceBNe]
      refine callX_ 10000 (w_ref10_Name  hv9) (by first | rfl | simp only [go_sem]) (by first | rfl | simp only [go_sem]) ?_
      simp only [go_sem, reduceAdd, reduceLT, reduceLeDiff, reduceEqDiff, Nat.reduceBEq, Nat.reduceBNe]
      refine grd_ (fun hb10 => ?_) (fun hb10 => ?_)
      ·have h := ite_f hb10 h
       refine bsome h fun v11 hv11 h => ?_
       simp only [go_sem, reduceAdd, reduceLT, reduceLeDiff, reduceEqDiff, Nat.reduceBEq, Nat.reduceBNe]
       refine callX_ 10000 (w_ref10_Name  hv11) (by first | rfl | simp only [go_sem]) (by first | rfl | simp only [go_sem]) ?_
       simp only [go_sem, reduceAdd, reduceLT, reduceLeDiff, reduceEqDiff, Nat.reduceBEq, Nat.reduceBNe]
       refine grd_ (fun hb12 => ?_) (fun hb12 => ?_)
       ·have h := ite_f hb12 h
        simp only [go_sem, reduceAdd, reduceLT, reduceLeDiff, reduceEqDiff, Nat.reduceBEq, Nat.reduceBNe]
        refine grd_ (fun hb13 => ?_) (fun hb13 => ?_)
        ·have h := ite_f hb13 h
         simp only [go_sem, reduceAdd, reduceLT, reduceLeDiff, reduceEqDiff, Nat.reduceBEq, Nat.reduceBNe]
         obtain rfl := Option.some.inj h
         exact atJ (wkn (Jy7) ⟨rfl, rfl, rfl, rfl, trivial⟩)
        ·have h := ite_t hb13 h
         simp only [go_sem, reduceAdd, reduceLT, reduceLeDiff, reduceEqDiff, Nat.reduceBEq, Nat.reduceBNe]
         obtain rfl := Option.some.inj h
         exact atJ (wkn (Jy7) ⟨rfl, rfl, rfl, rfl, trivial⟩)
       ·have h := ite_t hb12 h
        simp only [go_sem, reduceAdd, reduceLT, reduceLeDiff, reduceEqDiff, Nat.reduceBEq, Nat.reduceBNe]
        obtain rfl := Option.some.inj h
        exact atJ (wkn (Jy7) ⟨rfl, rfl, rfl, rfl, trivial⟩)
      ·have h := ite_t hb10 h
       simp only [go_sem, reduceAdd, reduceLT, reduceLeDiff, reduceEqDiff, Nat.reduceBEq, Nat.reduceBNe]
       obtain rfl := Option.some.inj h
       exact atJ (wkn (Jy7) ⟨rfl, rfl, rfl, rfl, trivial⟩)
    ·simp only [go_sem, reduceAdd, reduceLT, reduceLeDiff, reduceEqDiff, Nat.reduceBEq, Nat.reduceBNe]
     exact atJ (wkn (JK2  h) trivial)
   ·exact lp_back (L1 0 h) ⟨rfl, rfl, trivial⟩
theorem w_law14_TreeAll {l : (List ref14_Class)}   {r : Bool} (h : law14_TreeAll l = some r) : ACall Tryz.prog 6 [.sl none (List.map enc_ref14_Class l)] [] (.bool r) [] := by
 refine acallX 10000 hf6 ok6 (by first | rfl | simp only [go_sem]) meek_bool ?_
 dsimp only [Tryz.f6, nums, Option.getD, List.append]
 unfold law14_TreeAll at h
 simp only [go_sem, reduceAdd, reduceLT, reduceLeDiff, reduceEqDiff, Nat.reduceBEq, Nat.reduceBNe]
 refine cnd_s 10000 h (fun hb h => ?_) (fun hb h => ?_)
 ·refine bsome h fun v1 hv1 h => ?_
  simp only [go_sem, reduceAdd, reduceLT, reduceLeDiff, reduceEqDiff, Nat.reduceBEq, Nat.reduceBNe]
  refine callX_ 10000 (w_law14_sure  hv1) (by first | rfl | simp only [go_sem]) (by first | rfl | simp only [go_sem]) ?_
  simp only [go_sem, reduceAdd, reduceLT, reduceLeDiff, reduceEqDiff, Nat.reduceBEq, Nat.reduceBNe]
  refine ret_s (fun x => .bool x) h ?_
  first | rfl | simp only [go_sem, resAV, resAll, resOne, reduceAdd, reduceLT, reduceLeDiff, reduceEqDiff, Nat.reduceBEq, Nat.reduceBNe]
 ·simp only [go_sem, reduceAdd, reduceLT, reduceLeDiff, reduceEqDiff, Nat.reduceBEq, Nat.reduceBNe]
  refine letK_s h fun K3 hK3 h => ?_
  refine blkJ 91 10000 (fun w => K3 () = some r → w [(0, .sl none (List.map enc_ref14_Class l))] []) (fun  h => runX 10000 ?_) (fun JK3 => ?_)
  ·subst hK3
   dsimp only at h
   refine bsome h fun v38 hv38 h => ?_
   simp only [go_sem, reduceAdd, reduceLT, reduceLeDiff, reduceEqDiff, Nat.reduceBEq, Nat.reduceBNe]
   refine callX_ 10000 (w_law14_giveClasses  hv38) (by first | rfl | simp only [go_sem]) (by first | rfl | simp only [go_sem]) ?_
   refine bsome h fun v39 hv39 h => ?_
   simp only [go_sem, reduceAdd, reduceLT, reduceLeDiff, reduceEqDiff, Nat.reduceBEq, Nat.reduceBNe]
   refine callX_ 10000 (w_tree_CheckAll  hv39) (by first | rfl | simp only [go_sem]) (by first | rfl | simp only [go_sem]) ?_
   refine bsome h fun v40 hv40 h => ?_
   simp only [go_sem, reduceAdd, reduceLT, reduceLeDiff, reduceEqDiff, Nat.reduceBEq, Nat.reduceBNe]
   refine callX_ 10000 (w_ref14_MayAll  hv40) (by first | rfl | simp only [go_sem]) (by first | rfl | simp only [go_sem]) ?_
   simp only [go_sem, reduceAdd, reduceLT, reduceLeDiff, reduceEqDiff, Nat.reduceBEq, Nat.reduceBNe]
   refine bsome h fun y41 hy41 h => ?_
   refine rgJ 91 10000 (.inl rfl) (fun w => w [(2, .bool y41)] []) (runX 10000 ?_) (fun Jy41 => ?_)
   ·clear hy41
    simp only [go_sem, reduceAdd, reduceLT, reduceLeDiff, reduceEqDiff, Nat.reduceBEq, Nat.reduceBNe]
    refine ret_s (fun x => .bool x) h ?_
    first | rfl | simp only [go_sem, resAV, resAll, resOne, reduceAdd, reduceLT, reduceLeDiff, reduceEqDiff, Nat.reduceBEq, Nat.reduceBNe]
   ·clear h
    have h := hy41
    simp only [go_sem, reduceAdd, reduceLT, reduceLeDiff, reduceEqDiff, Nat.reduceBEq, Nat.reduceBNe]
    refine grd_ (fun hb43 => ?_) (fun hb43 => ?_)
    ·have h := ite_t hb43 h
     simp only [go_sem, reduceAdd, reduceLT, reduceLeDiff, reduceEqDiff, Nat.reduceBEq, Nat.reduceBNe]
     refine grd_ (fun hb44 => ?_) (fun hb44 => ?_)
     ·have h := ite_f hb44 h
      refine bsome h fun v45 hv45 h => ?_
      simp only [go_sem, reduceAdd, reduceLT, reduceLeDiff, reduceEqDiff, Nat.reduceBEq, Nat.reduceBNe]
      refine callX_ 10000 (w_law_num  hv45) (by first | rfl | simp only [go_sem]) (by first | rfl | simp only [go_sem]) ?_
      simp only [go_sem, reduceAdd, reduceLT, reduceLeDiff, reduceEqDiff, Nat.reduceBEq, Nat.reduceBNe]
      refine grd_ (fun hb46 => ?_) (fun hb46 => ?_)
      ·have h := ite_t hb46 h
       refine bsome h fun v47 hv47 h => ?_
       simp only [go_sem, reduceAdd, reduceLT, reduceLeDiff, reduceEqDiff, Nat.reduceBEq, Nat.reduceBNe]
       refine callX_ 10000 (w_law14_sure  hv47) (by first | rfl | simp only [go_sem]) (by first | rfl | simp only [go_sem]) ?_
       simp only [go_sem, reduceAdd, reduceLT, reduceLeDiff, reduceEqDiff, Nat.reduceBEq, Nat.reduceBNe]
       obtain rfl := Option.some.inj h
       exact atJ (wkn (Jy41) ⟨rfl, trivial⟩)
      ·have h := ite_f hb46 h
       simp only [go_sem, reduceAdd, reduceLT, reduceLeDiff, reduceEqDiff, Nat.reduceBEq, Nat.reduceBNe]
       obtain rfl := Option.some.inj h
       exact atJ (wkn (Jy41) ⟨rfl, trivial⟩)
     ·have h := ite_t hb44 h
      refine bsome h fun v48 hv48 h => ?_
      simp only [go_sem, reduceAdd, reduceLT, reduceLeDiff, reduceEqDiff, Nat.reduceBEq, Nat.reduceBNe]
      refine callX_ 10000 (w_law14_sure  hv48) (by first | rfl | simp only [go_sem]) (by first | rfl | simp only [go_sem]) ?_
      simp only [go_sem, reduceAdd, reduceLT, reduceLeDiff, reduceEqDiff, Nat.reduceBEq, Nat.reduceBNe]
      obtain rfl := Option.some.inj h
      exact atJ (wkn (Jy41) ⟨rfl, trivial⟩)
    ·have h := ite_f hb43 h
     simp only [go_sem, reduceAdd, reduceLT, reduceLeDiff, reduceEqDiff, Nat.reduceBEq, Nat.reduceBNe]
     obtain rfl := Option.some.inj h
     exact atJ (wkn (Jy41) ⟨rfl, trivial⟩)
  ·clear hK3
   simp only [go_sem, reduceAdd, reduceLT, reduceLeDiff, reduceEqDiff, Nat.reduceBEq, Nat.reduceBNe]
   refine lpJ 91 fuel (fun q1 w => ∀ (v4 : Int), law14_TreeAll_l1 l K3 q1 v4 = some r → w [(0, .sl none (List.map enc_ref14_Class l)), (3, .int .i64 v4)] []) (fun w _ h => nomatch h) (fun q1 ih1 v4 h => ?_) (fun L1 => ?_)
   ·unfold law14_TreeAll_l1 at h
    refine runL 10000 ?_
    simp only [go_sem, reduceAdd, reduceLT, reduceLeDiff, reduceEqDiff, Nat.reduceBEq, Nat.reduceBNe]
    refine cnd_s 10000 h (fun hb h => ?_) (fun hb h => ?_)
    ·simp only [go_sem, reduceAdd, reduceLT, reduceLeDiff, reduceEqDiff, Nat.reduceBEq, Nat.reduceBNe]
     refine blk_ 10000 ?_
     simp only [go_sem, reduceAdd, reduceLT, reduceLeDiff, reduceEqDiff, Nat.reduceBEq, Nat.reduceBNe]
     refine bsome h fun y5 hy5 h => ?_
     refine rgJ 91 10000 (.inl rfl) (fun w => w [(0, .sl none (List.map enc_ref14_Class l)), (3, .int .i64 v4), (49, .bool y5)] []) (runX 10000 ?_) (fun Jy5 => ?_)
     ·clear hy5
      simp only [go_sem, reduceAdd, reduceLT, reduceLeDiff, reduceEqDiff, Nat.reduceBEq, Nat.reduceBNe]
      refine cnd_s 10000 h (fun hb h => ?_) (fun hb h => ?_)
      ·refine bsome h fun v20 hv20 h => ?_
       simp only [go_sem, reduceAdd, reduceLT, reduceLeDiff, reduceEqDiff, Nat.reduceBEq, Nat.reduceBNe]
       refine callX_ 10000 (w_law14_sure  hv20) (by first | rfl | simp only [go_sem]) (by first | rfl | simp only [go_sem]) ?_
       simp only [go_sem, reduceAdd, reduceLT, reduceLeDiff, reduceEqDiff, Nat.reduceBEq, Nat.reduceBNe]
       refine ret_s (fun x => .bool x) h ?_
       first | rfl | simp only [go_sem, resAV, resAll, resOne, reduceAdd, reduceLT, reduceLeDiff, reduceEqDiff, Nat.reduceBEq, Nat.reduceBNe]
      ·simp only [go_sem, reduceAdd, reduceLT, reduceLeDiff, reduceEqDiff, Nat.reduceBEq, Nat.reduceBNe]
       refine letK_s h fun K22 hK22 h => ?_
       refine blkJ 91 10000 (fun w => K22 () = some r → w [(0, .sl none (List.map enc_ref14_Class l)), (3, .int .i64 v4)] []) (fun  h => runX 10000 ?_) (fun JK22 => ?_)
       ·subst hK22
        dsimp only at h
        refine add_s h fun v37 _ e36 h => ?_
        simp only [go_sem, reduceAdd, reduceLT, reduceLeDiff, reduceEqDiff, Nat.reduceBEq, Nat.reduceBNe, e36]
        exact lp_back (ih1 v37 h) ⟨rfl, rfl, trivial⟩
       ·clear hK22
        simp only [go_sem, reduceAdd, reduceLT, reduceLeDiff, reduceEqDiff, Nat.reduceBEq, Nat.reduceBNe]
        refine lpJ 91 fuel (fun q2 w => ∀ (v23 : Int), law14_TreeAll_l2 l v4 K22 q2 v23 = some r → w [(0, .sl none (List.map enc_ref14_Class l)), (3, .int .i64 v4), (4, .int .i64 v23)] []) (fun w _ h => nomatch h) (fun q2 ih2 v23 h => ?_) (fun L2 => ?_)
        ·unfold law14_TreeAll_l2 at h
         refine runL 10000 ?_
         refine lAt_s enc_ref14_Class none .i64 ⟨54, 4, true, 80⟩ (fun _ => rfl) h fun v26 _ b24 e25 h => ?_
         simp only [go_sem, reduceAdd, reduceLT, reduceLeDiff, reduceEqDiff, Nat.reduceBEq, Nat.reduceBNe, b24, e25]
         refine cnd_s 10000 h (fun hb h => ?_) (fun hb h => ?_)
         ·simp only [go_sem, reduceAdd, reduceLT, reduceLeDiff, reduceEqDiff, Nat.reduceBEq, Nat.reduceBNe]
          refine blk_ 10000 ?_
          refine lAt_s enc_ref14_Method none .i64 ⟨26, 5, true, 112⟩ (fun _ => rfl) h fun v31 _ b29 e30 h => ?_
          refine bsome h fun v32 hv32 h => ?_
          simp only [go_sem, reduceAdd, reduceLT, reduceLeDiff, reduceEqDiff, Nat.reduceBEq, Nat.reduceBNe, b24, e25, b29, e30]
          refine callX_ 10000 (w_law14_bigTree  hv32) (by first | rfl | simp only [go_sem]) (by first | rfl | simp only [go_sem]) ?_
          simp only [go_sem, reduceAdd, reduceLT, reduceLeDiff, reduceEqDiff, Nat.reduceBEq, Nat.reduceBNe]
          refine cnd_s 10000 h (fun hb h => ?_) (fun hb h => ?_)
          ·refine bsome h fun v33 hv33 h => ?_
           simp only [go_sem, reduceAdd, reduceLT, reduceLeDiff, reduceEqDiff, Nat.reduceBEq, Nat.reduceBNe]
           refine callX_ 10000 (w_law14_sure  hv33) (by first | rfl | simp only [go_sem]) (by first | rfl | simp only [go_sem]) ?_
           simp only [go_sem, reduceAdd, reduceLT, reduceLeDiff, reduceEqDiff, Nat.reduceBEq, Nat.reduceBNe]
           refine ret_s (fun x => .bool x) h ?_
           first | rfl | simp only [go_sem, resAV, resAll, resOne, reduceAdd, reduceLT, reduceLeDiff, reduceEqDiff, Nat.reduceBEq, Nat.reduceBNe]
          ·refine add_s h fun v35 _ e34 h => ?_
           simp only [go_sem, reduceAdd, reduceLT, reduceLeDiff, reduceEqDiff, Nat.reduceBEq, Nat.reduceBNe, e34]
           exact lp_back (ih2 v35 h) ⟨rfl, rfl, rfl, trivial⟩
         ·simp only [go_sem, reduceAdd, reduceLT, reduceLeDiff, reduceEqDiff, Nat.reduceBEq, Nat.reduceBNe]
          exact atJ (wkn (JK22  h) ⟨rfl, rfl, trivial⟩)
        ·exact lp_back (L2 0 h) ⟨rfl, rfl, rfl, trivial⟩
     ·clear h
      have h := hy5
      refine lAt_s enc_ref14_Class none .i64 ⟨54, 4, true, 80⟩ (fun _ => rfl) h fun v9 _ b7 e8 h => ?_
      simp only [go_sem, reduceAdd, reduceLT, reduceLeDiff, reduceEqDiff, Nat.reduceBEq, Nat.reduceBNe, b7, e8]
      refine grd_ (fun hb10 => ?_) (fun hb10 => ?_)
      ·have h := ite_f hb10 h
       simp only [go_sem, reduceAdd, reduceLT, reduceLeDiff, reduceEqDiff, Nat.reduceBEq, Nat.reduceBNe, b7, e8]
       refine grd_ (fun hb13 => ?_) (fun hb13 => ?_)
       ·have h := ite_f hb13 h
        refine bsome h fun v16 hv16 h => ?_
        simp only [go_sem, reduceAdd, reduceLT, reduceLeDiff, reduceEqDiff, Nat.reduceBEq, Nat.reduceBNe, b7, e8]
        refine callX_ 10000 (w_law14_bigTexts  hv16) (by first | rfl | simp only [go_sem]) (by first | rfl | simp only [go_sem]) ?_
        simp only [go_sem, reduceAdd, reduceLT, reduceLeDiff, reduceEqDiff, Nat.reduceBEq, Nat.reduceBNe]
        refine grd_ (fun hb17 => ?_) (fun hb17 => ?_)
        ·have h := ite_f hb17 h
         simp only [go_sem, reduceAdd, reduceLT, reduceLeDiff, reduceEqDiff, Nat.reduceBEq, Nat.reduceBNe, b7, e8]
         obtain rfl := Option.some.inj h
         exact atJ (wkn (Jy5) ⟨rfl, rfl, rfl, trivial⟩)
        ·have h := ite_t hb17 h
         simp only [go_sem, reduceAdd, reduceLT, reduceLeDiff, reduceEqDiff, Nat.reduceBEq, Nat.reduceBNe]
         obtain rfl := Option.some.inj h
         exact atJ (wkn (Jy5) ⟨rfl, rfl, rfl, trivial⟩)
       ·have h := ite_t hb13 h
        simp only [go_sem, reduceAdd, reduceLT, reduceLeDiff, reduceEqDiff, Nat.reduceBEq, Nat.reduceBNe]
        obtain rfl := Option.some.inj h
        exact atJ (wkn (Jy5) ⟨rfl, rfl, rfl, trivial⟩)
      ·have h := ite_t hb10 h
       simp only [go_sem, reduceAdd, reduceLT, reduceLeDiff, reduceEqDiff, Nat.reduceBEq, Nat.reduceBNe]
       obtain rfl := Option.some.inj h
       exact atJ (wkn (Jy5) ⟨rfl, rfl, rfl, trivial⟩)
    ·simp only [go_sem, reduceAdd, reduceLT, reduceLeDiff, reduceEqDiff, Nat.reduceBEq, Nat.reduceBNe]
     exact atJ (wkn (JK3  h) ⟨rfl, trivial⟩)
   ·exact lp_back (L1 0 h) ⟨rfl, rfl, trivial⟩
end Go.Cq

