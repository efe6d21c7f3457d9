import Derived.Test.YtiboeelbmgnbgaaGreatDoorSh2
import Derived.Test.YtiboeelbmgnbgaaGreatDoorW1
set_option linter.unusedSectionVars false
set_option linter.unusedVariables false
set_option linter.unusedSimpArgs false
set_option linter.unnecessarySimpa false
set_option maxRecDepth 100000
set_option maxHeartbeats 4000000
namespace Go.Cq
open Go Go.Av Go.Proofs
variable [Lay] [SeatLay]
attribute [local irreducible] hold ex W Wr nd cndV rgO exitO grdO grdV grdG callX alcX stX nckX
theorem w_ref09_Arity {s : Str} {r : (Int × Bool)} (h : ref09_Arity s = some r) : ACall Tryz.prog 124 [.str s] [] (.tup [.int .i64 r.1, .bool r.2]) [] := by
 refine aX hf124 ok124 meek_tup ?_
 dsimp only [Tryz.f124, nums, Option.getD, List.append]
 unfold ref09_Arity at h
 simp only [go_sem, seval]
 refine rgJ 77 10000 (.inl rfl) (fun w => w [(0, .str s), (15, .bool ((decide ((s.length : Int) < 1)) || (decide ((64 : Int) < (s.length : Int)))))] []) (runX 10000 ?_) (fun Jg1 => ?_)
 ·simp only [go_sem, seval]
  refine cS h (fun hb h => ?_) fun hb h => ?_
  ·simp only [go_sem, seval]
   refine ret_s (fun x => .tup [.int .i64 x.1, .bool x.2]) h ?_
   first | rfl | simp only [go_sem, resAV, resAll, resOne, seval]
  ·refine sIdx_s .i64 h fun v4 _ b2 e3 h => ?_
   refine bsome h fun v5 hv5 h => ?_
   simp only [go_sem, seval, b2, e3]
   refine cX (w_ref09_sign hv5) ?_
   simp only [go_sem, seval]
   refine cS h (fun hb h => ?_) fun hb h => ?_
   ·simp only [go_sem, seval]
    refine bsome h fun y6 hy6 h => ?_
    refine rgJ 77 10000 (.inl rfl) (fun w => w [(31, .bool y6)] []) (runX 10000 ?_) (fun Jy6 => ?_)
    ·clear hy6
     simp only [go_sem, seval]
     refine cS h (fun hb h => ?_) fun hb h => ?_
     ·simp only [go_sem, seval]
      refine ret_s (fun x => .tup [.int .i64 x.1, .bool x.2]) h ?_
      first | rfl | simp only [go_sem, resAV, resAll, resOne, seval]
     ·simp only [go_sem, seval]
      refine ret_s (fun x => .tup [.int .i64 x.1, .bool x.2]) h ?_
      first | rfl | simp only [go_sem, resAV, resAll, resOne, seval]
    ·clear h
     have h := hy6
     simp only [go_sem, seval]
     refine grd_ (fun hb8 => ?_) fun hb8 => ?_
     ·have h := ite_f hb8 h
      simp only [go_sem, seval]
      refine grd_ (fun hb9 => ?_) fun hb9 => ?_
      ·have h := ite_t hb9 h
       refine sIdx_s .i64 h fun v12 _ b10 e11 h => ?_
       refine bsome h fun v13 hv13 h => ?_
       simp only [go_sem, seval, b10, e11]
       refine cX (w_ref09_sign hv13) ?_
       simp only [go_sem, seval]
       cases h
       exact atJ (wkn (Jy6) ⟨rfl, trivial⟩)
      ·have h := ite_f hb9 h
       simp only [go_sem, seval]
       cases h
       exact atJ (wkn (Jy6) ⟨rfl, trivial⟩)
     ·have h := ite_t hb8 h
      simp only [go_sem, seval]
      cases h
      exact atJ (wkn (Jy6) ⟨rfl, trivial⟩)
   ·simp only [go_sem, seval]
    refine letK_s h fun K15 hK15 h => ?_
    refine blkJ 77 10000 (fun w => ∀ (v39 : Int) (v40 : Bool), K15 v39 v40 = some r → w [(4, .int .i64 v39), (5, .bool v40)] []) (fun v39 v40 h => runX 10000 ?_) (fun JK15 => ?_)
    ·subst hK15
     dsimp only at h
     simp only [go_sem, seval]
     refine cS h (fun hb h => ?_) fun hb h => ?_
     ·simp only [go_sem, seval]
      refine ret_s (fun x => .tup [.int .i64 x.1, .bool x.2]) h ?_
      first | rfl | simp only [go_sem, resAV, resAll, resOne, seval]
     ·simp only [go_sem, seval]
      refine rgJ 77 10000 (.inl rfl) (fun w => w [(4, .int .i64 v39), (75, .bool ((!v40) || (decide ((8 : Int) < v39))))] []) (runX 10000 ?_) (fun Jg41 => ?_)
      ·simp only [go_sem, seval]
       refine cS h (fun hb h => ?_) fun hb h => ?_
       ·simp only [go_sem, seval]
        refine ret_s (fun x => .tup [.int .i64 x.1, .bool x.2]) h ?_
        first | rfl | simp only [go_sem, resAV, resAll, resOne, seval]
       ·simp only [go_sem, seval]
        refine ret_s (fun x => .tup [.int .i64 x.1, .bool x.2]) h ?_
        first | rfl | simp only [go_sem, resAV, resAll, resOne, seval]
      ·simp only [go_sem, seval]
       refine grd_ (fun hb42 => ?_) fun hb42 => ?_
       ·simp only [go_sem, seval]
        exact atJ (wkn Jg41 ⟨rfl, congrArg AV.bool (by first | rfl | (rw [hb42]; rfl) | (simp [hb42]; done) | simp_all), trivial⟩)
       ·simp only [go_sem, seval]
        exact atJ (wkn Jg41 ⟨rfl, congrArg AV.bool (by first | rfl | (rw [hb42]; rfl) | (simp [hb42]; done) | simp_all), trivial⟩)
    ·clear hK15
     simp only [go_sem, seval]
     refine lpJ 77 fuel (fun q1 w => ∀ (v16 : Int) (v17 : Bool) (v18 : Int), ref09_Arity_l1 s K15 q1 v16 v17 v18 = some r → w [(0, .str s), (4, .int .i64 v16), (5, .bool v17), (6, .int .i64 v18)] []) (fun w _ _ _ h => nomatch h) (fun q1 ih1 v16 v17 v18 h => ?_) (fun L1 => ?_)
     ·unfold ref09_Arity_l1 at h
      refine rL ?_
      simp only [go_sem, seval]
      refine cS h (fun hb h => ?_) fun hb h => ?_
      ·simp only [go_sem, seval]
       refine letK_s h fun K20 hK20 h => ?_
       refine blkJ 77 10000 (fun w => ∀ (v35 : Int) (v36 : Bool), K20 v35 v36 = some r → w [(0, .str s), (4, .int .i64 v35), (5, .bool v36), (6, .int .i64 v18)] []) (fun v35 v36 h => runX 10000 ?_) (fun JK20 => ?_)
       ·subst hK20
        dsimp only at h
        refine add_s h fun v38 _ e37 h => ?_
        simp only [go_sem, seval, e37]
        exact lp_back (ih1 v35 v36 v38 h) ⟨rfl, rfl, rfl, rfl, trivial⟩
       ·clear hK20
        refine sIdx_s .i64 h fun v23 _ b21 e22 h => ?_
        simp only [go_sem, seval, b21, e22]
        refine cS h (fun hb h => ?_) fun hb h => ?_
        ·refine bsome h fun v24 hv24 h => ?_
         simp only [go_sem, seval]
         refine cX (w_ref09_small hv24) ?_
         simp only [go_sem, seval]
         refine cS h (fun hb h => ?_) fun hb h => ?_
         ·simp only [go_sem, seval]
          refine ret_s (fun x => .tup [.int .i64 x.1, .bool x.2]) h ?_
          first | rfl | simp only [go_sem, resAV, resAll, resOne, seval]
         ·simp only [go_sem, seval]
          exact atJ (wkn (JK20 v16 false h) ⟨rfl, rfl, rfl, rfl, trivial⟩)
        ·simp only [go_sem, seval]
         refine cS h (fun hb h => ?_) fun hb h => ?_
         ·refine add_s h fun v26 _ e25 h => ?_
          simp only [go_sem, seval, e25]
          exact atJ (wkn (JK20 v26 true h) ⟨rfl, rfl, rfl, rfl, trivial⟩)
         ·simp only [go_sem, seval]
          refine bsome h fun y27 hy27 h => ?_
          refine rgJ 77 10000 (.inl rfl) (fun w => w [(0, .str s), (4, .int .i64 v16), (5, .bool v17), (6, .int .i64 v18), (67, .bool y27)] []) (runX 10000 ?_) (fun Jy27 => ?_)
          ·clear hy27
           simp only [go_sem, seval]
           refine cS h (fun hb h => ?_) fun hb h => ?_
           ·simp only [go_sem, seval]
            refine ret_s (fun x => .tup [.int .i64 x.1, .bool x.2]) h ?_
            first | rfl | simp only [go_sem, resAV, resAll, resOne, seval]
           ·simp only [go_sem, seval]
            exact atJ (wkn (JK20 v16 v17 h) ⟨rfl, rfl, rfl, rfl, trivial⟩)
          ·clear h
           have h := hy27
           refine bsome h fun v29 hv29 h => ?_
           simp only [go_sem, seval]
           refine cX (w_ref09_small hv29) ?_
           simp only [go_sem, seval]
           refine grd_ (fun hb30 => ?_) fun hb30 => ?_
           ·have h := ite_t hb30 h
            simp only [go_sem, seval]
            refine grd_ (fun hb31 => ?_) fun hb31 => ?_
            ·have h := ite_f hb31 h
             simp only [go_sem, seval]
             refine grd_ (fun hb32 => ?_) fun hb32 => ?_
             ·have h := ite_t hb32 h
              simp only [go_sem, seval]
              refine grd_ (fun hb33 => ?_) fun hb33 => ?_
              ·have h := ite_f hb33 h
               simp only [go_sem, seval]
               cases h
               exact atJ (wkn (Jy27) ⟨rfl, rfl, rfl, rfl, rfl, trivial⟩)
              ·have h := ite_t hb33 h
               simp only [go_sem, seval]
               cases h
               exact atJ (wkn (Jy27) ⟨rfl, rfl, rfl, rfl, rfl, trivial⟩)
             ·have h := ite_f hb32 h
              simp only [go_sem, seval]
              cases h
              exact atJ (wkn (Jy27) ⟨rfl, rfl, rfl, rfl, rfl, trivial⟩)
            ·have h := ite_t hb31 h
             simp only [go_sem, seval]
             refine grd_ (fun hb34 => ?_) fun hb34 => ?_
             ·have h := ite_f hb34 h
              simp only [go_sem, seval]
              cases h
              exact atJ (wkn (Jy27) ⟨rfl, rfl, rfl, rfl, rfl, trivial⟩)
             ·have h := ite_t hb34 h
              simp only [go_sem, seval]
              cases h
              exact atJ (wkn (Jy27) ⟨rfl, rfl, rfl, rfl, rfl, trivial⟩)
           ·have h := ite_f hb30 h
            simp only [go_sem, seval]
            cases h
            exact atJ (wkn (Jy27) ⟨rfl, rfl, rfl, rfl, rfl, trivial⟩)
      ·simp only [go_sem, seval]
       exact atJ (wkn (JK15 v16 v17 h) ⟨rfl, rfl, trivial⟩)
     ·exact lp_back (L1 0 true 0 h) ⟨rfl, rfl, rfl, rfl, trivial⟩
 ·simp only [go_sem, seval]
  refine grd_ (fun hb43 => ?_) fun hb43 => ?_
  ·simp only [go_sem, seval]
   exact atJ (wkn Jg1 ⟨rfl, congrArg AV.bool (by first | rfl | (rw [hb43]; rfl) | (simp [hb43]; done) | simp_all), trivial⟩)
  ·simp only [go_sem, seval]
   exact atJ (wkn Jg1 ⟨rfl, congrArg AV.bool (by first | rfl | (rw [hb43]; rfl) | (simp [hb43]; done) | simp_all), trivial⟩)
theorem w_ref14_takes {sel : Str} {n : Int} {r : Bool} (h : ref14_takes sel n = some r) : ACall Tryz.prog 67 [.str sel, .int .i64 n] [] (.bool r) [] := by
 refine aX hf67 ok67 meek_bool ?_
 dsimp only [Tryz.f67, nums, Option.getD, List.append]
 unfold ref14_takes at h
 refine bsome h fun v1 hv1 h => ?_
 simp only [go_sem, seval]
 refine cX (w_ref09_Arity hv1) ?_
 simp only [go_sem, seval]
 refine rgJ 18 10000 (.inl rfl) (fun w => w [(4, .bool (v1.2 && (decide (v1.1 = n))))] []) (runX 10000 ?_) (fun Jg2 => ?_)
 ·simp only [go_sem, seval]
  exact rS (fun x => .bool x) h
 ·simp only [go_sem, seval]
  refine grd_ (fun hb3 => ?_) fun hb3 => ?_
  ·simp only [go_sem, seval]
   exact atJ (wkn Jg2 ⟨congrArg AV.bool (by first | rfl | (rw [hb3]; rfl) | (simp [hb3]; done) | simp_all), trivial⟩)
  ·simp only [go_sem, seval]
   exact atJ (wkn Jg2 ⟨congrArg AV.bool (by first | rfl | (rw [hb3]; rfl) | (simp [hb3]; done) | simp_all), trivial⟩)
theorem w_ref10_Name {s : Str} {lo : Int} {hi : Int} {r : Bool} (h : ref10_Name s lo hi = some r) : ACall Tryz.prog 85 [.str s, .int .u8 lo, .int .u8 hi] [] (.bool r) [] := by
 refine aX hf85 ok85 meek_bool ?_
 dsimp only [Tryz.f85, nums, Option.getD, List.append]
 unfold ref10_Name at h
 simp only [go_sem, seval]
 refine bsome h fun y1 hy1 h => ?_
 refine rgJ 68 10000 (.inl rfl) (fun w => w [(0, .str s), (27, .bool y1)] []) (runX 10000 ?_) (fun Jy1 => ?_)
 ·clear hy1
  simp only [go_sem, seval]
  refine cS h (fun hb h => ?_) fun hb h => ?_
  ·simp only [go_sem, seval]
   exact rS (fun x => .bool x) h
  ·simp only [go_sem, seval]
   refine letK_s h fun K12 hK12 h => ?_
   refine blkJ 68 10000 (fun w => K12 () = some r → w [] []) (fun h => runX 10000 ?_) (fun JK12 => ?_)
   ·subst hK12
    dsimp only at h
    simp only [go_sem, seval]
    exact rS (fun x => .bool x) h
   ·clear hK12
    simp only [go_sem, seval]
    refine lpJ 68 fuel (fun q1 w => ∀ (v13 : Int), ref10_Name_l1 s K12 q1 v13 = some r → w [(0, .str s), (7, .int .i64 v13)] []) (fun w _ h => nomatch h) (fun q1 ih1 v13 h => ?_) (fun L1 => ?_)
    ·unfold ref10_Name_l1 at h
     refine rL ?_
     simp only [go_sem, seval]
     refine cS h (fun hb h => ?_) fun hb h => ?_
     ·simp only [go_sem, seval]
      refine bK ?_
      simp only [go_sem, seval]
      refine bsome h fun y14 hy14 h => ?_
      refine rgJ 68 10000 (.inl rfl) (fun w => w [(0, .str s), (7, .int .i64 v13), (67, .bool y14)] []) (runX 10000 ?_) (fun Jy14 => ?_)
      ·clear hy14
       simp only [go_sem, seval]
       refine cS h (fun hb h => ?_) fun hb h => ?_
       ·simp only [go_sem, seval]
        exact rS (fun x => .bool x) h
       ·refine add_s h fun v56 _ e55 h => ?_
        simp only [go_sem, seval, e55]
        exact lp_back (ih1 v56 h) ⟨rfl, rfl, trivial⟩
      ·clear h
       have h := hy14
       refine sIdx_s .i64 h fun v18 _ b16 e17 h => ?_
       simp only [go_sem, seval, b16, e17]
       refine grd_ (fun hb19 => ?_) fun hb19 => ?_
       ·have h := ite_f hb19 h
        simp only [go_sem, seval, b16, e17]
        refine grd_ (fun hb22 => ?_) fun hb22 => ?_
        ·have h := ite_t hb22 h
         simp only [go_sem, seval, b16, e17]
         refine grd_ (fun hb25 => ?_) fun hb25 => ?_
         ·have h := ite_f hb25 h
          simp only [go_sem, seval, b16, e17]
          refine grd_ (fun hb28 => ?_) fun hb28 => ?_
          ·have h := ite_t hb28 h
           simp only [go_sem, seval, b16, e17]
           refine grd_ (fun hb31 => ?_) fun hb31 => ?_
           ·have h := ite_f hb31 h
            simp only [go_sem, seval, b16, e17]
            cases h
            exact atJ (wkn (Jy14) ⟨rfl, rfl, rfl, trivial⟩)
           ·have h := ite_t hb31 h
            simp only [go_sem, seval]
            cases h
            exact atJ (wkn (Jy14) ⟨rfl, rfl, rfl, trivial⟩)
          ·have h := ite_f hb28 h
           simp only [go_sem, seval]
           cases h
           exact atJ (wkn (Jy14) ⟨rfl, rfl, rfl, trivial⟩)
         ·have h := ite_t hb25 h
          simp only [go_sem, seval, b16, e17]
          refine grd_ (fun hb36 => ?_) fun hb36 => ?_
          ·have h := ite_f hb36 h
           simp only [go_sem, seval, b16, e17]
           cases h
           exact atJ (wkn (Jy14) ⟨rfl, rfl, rfl, trivial⟩)
          ·have h := ite_t hb36 h
           simp only [go_sem, seval]
           cases h
           exact atJ (wkn (Jy14) ⟨rfl, rfl, rfl, trivial⟩)
        ·have h := ite_f hb22 h
         simp only [go_sem, seval]
         cases h
         exact atJ (wkn (Jy14) ⟨rfl, rfl, rfl, trivial⟩)
       ·have h := ite_t hb19 h
        simp only [go_sem, seval, b16, e17]
        refine grd_ (fun hb41 => ?_) fun hb41 => ?_
        ·have h := ite_f hb41 h
         simp only [go_sem, seval, b16, e17]
         refine grd_ (fun hb44 => ?_) fun hb44 => ?_
         ·have h := ite_t hb44 h
          simp only [go_sem, seval, b16, e17]
          refine grd_ (fun hb47 => ?_) fun hb47 => ?_
          ·have h := ite_f hb47 h
           simp only [go_sem, seval, b16, e17]
           cases h
           exact atJ (wkn (Jy14) ⟨rfl, rfl, rfl, trivial⟩)
          ·have h := ite_t hb47 h
           simp only [go_sem, seval]
           cases h
           exact atJ (wkn (Jy14) ⟨rfl, rfl, rfl, trivial⟩)
         ·have h := ite_f hb44 h
          simp only [go_sem, seval]
          cases h
          exact atJ (wkn (Jy14) ⟨rfl, rfl, rfl, trivial⟩)
        ·have h := ite_t hb41 h
         simp only [go_sem, seval, b16, e17]
         refine grd_ (fun hb52 => ?_) fun hb52 => ?_
         ·have h := ite_f hb52 h
          simp only [go_sem, seval, b16, e17]
          cases h
          exact atJ (wkn (Jy14) ⟨rfl, rfl, rfl, trivial⟩)
         ·have h := ite_t hb52 h
          simp only [go_sem, seval]
          cases h
          exact atJ (wkn (Jy14) ⟨rfl, rfl, rfl, trivial⟩)
     ·simp only [go_sem, seval]
      exact atJ (wkn (JK12 h) trivial)
    ·exact lp_back (L1 0 h) ⟨rfl, rfl, trivial⟩
 ·clear h
  have h := hy1
  simp only [go_sem, seval]
  refine grd_ (fun hb3 => ?_) fun hb3 => ?_
  ·have h := ite_f hb3 h
   simp only [go_sem, seval]
   refine grd_ (fun hb4 => ?_) fun hb4 => ?_
   ·have h := ite_f hb4 h
    refine sIdx_s .i64 h fun v7 _ b5 e6 h => ?_
    simp only [go_sem, seval, b5, e6]
    refine grd_ (fun hb8 => ?_) fun hb8 => ?_
    ·have h := ite_f hb8 h
     simp only [go_sem, seval, b5, e6]
     cases h
     exact atJ (wkn (Jy1) ⟨rfl, rfl, trivial⟩)
    ·have h := ite_t hb8 h
     simp only [go_sem, seval]
     cases h
     exact atJ (wkn (Jy1) ⟨rfl, rfl, trivial⟩)
   ·have h := ite_t hb4 h
    simp only [go_sem, seval]
    cases h
    exact atJ (wkn (Jy1) ⟨rfl, rfl, trivial⟩)
  ·have h := ite_t hb3 h
   simp only [go_sem, seval]
   cases h
   exact atJ (wkn (Jy1) ⟨rfl, rfl, trivial⟩)
theorem w_ref10_Var {s : Str} {r : Bool} (h : ref10_Var s = some r) : ACall Tryz.prog 86 [.str s] [] (.bool r) [] := by
 refine aX hf86 ok86 meek_bool ?_
 dsimp only [Tryz.f86, nums, Option.getD, List.append]
 unfold ref10_Var at h
 simp only [go_sem, seval]
 refine bsome h fun y1 hy1 h => ?_
 refine rgJ 25 10000 (.inl rfl) (fun w => w [(2, .bool y1)] []) (runX 10000 ?_) (fun Jy1 => ?_)
 ·clear hy1
  simp only [go_sem, seval]
  exact rS (fun x => .bool x) h
 ·clear h
  have h := hy1
  refine bsome h fun v3 hv3 h => ?_
  simp only [go_sem, seval]
  refine cX (w_ref10_Name hv3) ?_
  simp only [go_sem, seval]
  refine grd_ (fun hb4 => ?_) fun hb4 => ?_
  ·have h := ite_t hb4 h
   simp only [go_sem, seval]
   refine grd_ (fun hb5 => ?_) fun hb5 => ?_
   ·have h := ite_t hb5 h
    simp only [go_sem, seval]
    refine grd_ (fun hb6 => ?_) fun hb6 => ?_
    ·have h := ite_t hb6 h
     simp only [go_sem, seval]
     refine grd_ (fun hb7 => ?_) fun hb7 => ?_
     ·have h := ite_t hb7 h
      simp only [go_sem, seval]
      refine grd_ (fun hb8 => ?_) fun hb8 => ?_
      ·have h := ite_t hb8 h
       simp only [go_sem, seval]
       cases h
       exact atJ (wkn (Jy1) ⟨rfl, trivial⟩)
      ·have h := ite_f hb8 h
       simp only [go_sem, seval]
       cases h
       exact atJ (wkn (Jy1) ⟨rfl, trivial⟩)
     ·have h := ite_f hb7 h
      simp only [go_sem, seval]
      cases h
      exact atJ (wkn (Jy1) ⟨rfl, trivial⟩)
    ·have h := ite_f hb6 h
     simp only [go_sem, seval]
     cases h
     exact atJ (wkn (Jy1) ⟨rfl, trivial⟩)
   ·have h := ite_f hb5 h
    simp only [go_sem, seval]
    cases h
    exact atJ (wkn (Jy1) ⟨rfl, trivial⟩)
  ·have h := ite_f hb4 h
   simp only [go_sem, seval]
   cases h
   exact atJ (wkn (Jy1) ⟨rfl, trivial⟩)
theorem w_ref14_Vars {l : (List Str)} {most : Int} {r : Bool} (h : ref14_Vars l most = some r) : ACall Tryz.prog 68 [.sl none (List.map AV.str l), .int .i64 most] [] (.bool r) [] := by
 refine aX hf68 ok68 meek_bool ?_
 dsimp only [Tryz.f68, nums, Option.getD, List.append]
 unfold ref14_Vars at h
 simp only [go_sem, seval]
 refine cS h (fun hb h => ?_) fun hb h => ?_
 ·simp only [go_sem, seval]
  exact rS (fun x => .bool x) h
 ·simp only [go_sem, seval]
  refine letK_s h fun K2 hK2 h => ?_
  refine blkJ 37 10000 (fun w => K2 () = some r → w [] []) (fun h => runX 10000 ?_) (fun JK2 => ?_)
  ·subst hK2
   dsimp only at h
   simp only [go_sem, seval]
   exact rS (fun x => .bool x) h
  ·clear hK2
   simp only [go_sem, seval]
   refine lpJ 37 fuel (fun q1 w => ∀ (v3 : Int), ref14_Vars_l1 l K2 q1 v3 = some r → w [(0, .sl none (List.map AV.str l)), (5, .int .i64 v3)] []) (fun w _ h => nomatch h) (fun q1 ih1 v3 h => ?_) (fun L1 => ?_)
   ·unfold ref14_Vars_l1 at h
    refine rL ?_
    simp only [go_sem, seval]
    refine cS h (fun hb h => ?_) fun hb h => ?_
    ·simp only [go_sem, seval]
     refine bK ?_
     refine lAt_s AV.str none .i64 ⟨9, 1, false, 16⟩ (fun _ => rfl) h fun v6 _ b4 e5 h => ?_
     refine bsome h fun v7 hv7 h => ?_
     simp only [go_sem, seval, b4, e5]
     refine cX (w_ref10_Var hv7) ?_
     simp only [go_sem, seval]
     refine cS h (fun hb h => ?_) fun hb h => ?_
     ·simp only [go_sem, seval]
      exact rS (fun x => .bool x) h
     ·simp only [go_sem, seval]
      refine letK_s h fun K9 hK9 h => ?_
      refine blkJ 37 10000 (fun w => K9 () = some r → w [(0, .sl none (List.map AV.str l)), (5, .int .i64 v3)] []) (fun h => runX 10000 ?_) (fun JK9 => ?_)
      ·subst hK9
       dsimp only at h
       refine add_s h fun v19 _ e18 h => ?_
       simp only [go_sem, seval, e18]
       exact lp_back (ih1 v19 h) ⟨rfl, rfl, trivial⟩
      ·clear hK9
       simp only [go_sem, seval]
       refine lpJ 37 fuel (fun q2 w => ∀ (v10 : Int), ref14_Vars_l2 l v3 v6 K9 q2 v10 = some r → w [(0, .sl none (List.map AV.str l)), (5, .int .i64 v3), (6, .int .i64 v10)] []) (fun w _ h => nomatch h) (fun q2 ih2 v10 h => ?_) (fun L2 => ?_)
       ·unfold ref14_Vars_l2 at h
        refine rL ?_
        simp only [go_sem, seval]
        refine cS h (fun hb h => ?_) fun hb h => ?_
        ·simp only [go_sem, seval]
         refine bK ?_
         simp only [go_sem, seval]
         refine rg_ 10000 (.inr ⟨[], by kernel_rfl, by kernel_rfl, by rfl⟩) ?_
         refine lAt_s AV.str none .i64 ⟨9, 1, false, 16⟩ (fun _ => rfl) h fun v13 _ b11 e12 h => ?_
         simp only [go_sem, seval, b11, e12, b4, e5]
         refine cS h (fun hb h => ?_) fun hb h => ?_
         ·simp only [go_sem, seval]
          exact rS (fun x => .bool x) h
         ·refine add_s h fun v17 _ e16 h => ?_
          simp only [go_sem, seval, e16]
          exact lp_back (ih2 v17 h) ⟨rfl, rfl, rfl, trivial⟩
        ·simp only [go_sem, seval]
         exact atJ (wkn (JK9 h) ⟨rfl, rfl, trivial⟩)
       ·exact lp_back (L2 0 h) ⟨rfl, rfl, rfl, trivial⟩
    ·simp only [go_sem, seval]
     exact atJ (wkn (JK2 h) trivial)
   ·exact lp_back (L1 0 h) ⟨rfl, rfl, trivial⟩
theorem w_ref03_cut {p0_b : (List Int)} {r : (List Int)} (h : ref03_cut p0_b = some r) : ACall Tryz.prog 220 [.sl none (List.map (AV.int .u8) p0_b)] [] (.sl none (List.map (AV.int .u8) r)) [] := by
 refine aX hf220 ok220 meek_sl ?_
 dsimp only [Tryz.f220, nums, Option.getD, List.append]
 unfold ref03_cut at h
 simp only [go_sem, seval]
 refine bsome h fun y1 hy1 h => ?_
 refine blkJ 21 10000 (fun w => w [(0, .sl none (List.map (AV.int .u8) y1))] []) (runX 10000 ?_) (fun Jy1 => ?_)
 ·clear hy1
  simp only [go_sem, seval]
  exact rS (fun x => .sl none (List.map (AV.int .u8) x)) h
 ·clear h
  have h := hy1
  simp only [go_sem, seval]
  refine lpJ 21 fuel (fun q1 w => ∀ (v3 : (List Int)), ref03_cut_l1 q1 v3 = some y1 → w [(0, .sl none (List.map (AV.int .u8) v3))] []) (fun w _ h => nomatch h) (fun q1 ih1 v3 h => ?_) (fun L1 => ?_)
  ·unfold ref03_cut_l1 at h
   refine rL ?_
   simp only [go_sem, seval]
   refine bsome h fun y4 hy4 h => ?_
   refine rgJ 21 10000 (.inl rfl) (fun w => w [(0, .sl none (List.map (AV.int .u8) v3)), (14, .bool y4)] []) (runX 10000 ?_) (fun Jy4 => ?_)
   ·clear hy4
    simp only [go_sem, seval]
    refine cS h (fun hb h => ?_) fun hb h => ?_
    ·simp only [go_sem, seval]
     refine bK ?_
     refine sub_s h fun v13 _ e12 h => ?_
     refine subL_s (AV.int .u8) none ⟨5, 1, false, 1⟩ (fun _ => rfl) none (some (.int .i64 v13)) rfl rfl h fun v16 _ b14 e15 h => ?_
     simp only [go_sem, seval, e12, b14, e15]
     exact lp_back (ih1 v16 h) ⟨rfl, trivial⟩
    ·simp only [go_sem, seval]
     cases h
     exact atJ (wkn (Jy1) ⟨rfl, trivial⟩)
   ·clear h
    have h := hy4
    simp only [go_sem, seval]
    refine grd_ (fun hb6 => ?_) fun hb6 => ?_
    ·have h := ite_t hb6 h
     refine sub_s h fun v8 _ e7 h => ?_
     refine lAt_s (AV.int .u8) none .i64 ⟨5, 1, false, 1⟩ (fun _ => rfl) h fun v11 _ b9 e10 h => ?_
     simp only [go_sem, seval, e7, b9, e10]
     cases h
     exact atJ (wkn (Jy4) ⟨rfl, rfl, trivial⟩)
    ·have h := ite_f hb6 h
     simp only [go_sem, seval]
     cases h
     exact atJ (wkn (Jy4) ⟨rfl, rfl, trivial⟩)
  ·exact lp_back (L1 p0_b h) ⟨rfl, trivial⟩
theorem w_ref03_words {p0_b : (List Int)} {r : (List Int)} (h : ref03_words p0_b = some r) : ACall Tryz.prog 221 [.sl none (List.map (AV.int .u8) p0_b)] [] (.sl none (List.map (AV.int .u32) r)) [] := by
 refine aX hf221 ok221 meek_sl ?_
 dsimp only [Tryz.f221, nums, Option.getD, List.append]
 unfold ref03_words at h
 simp only [go_sem, seval]
 refine prom_blk 3 0 false rfl (by first | rfl | simp only [go_sem]) rfl ?_
 refine bsome h fun y1 hy1 h => ?_
 refine blkJ 37 10000 (fun w => w [(3, .rs 0 0 y1.length 1 false false)] [some (List.map (AV.int .u32) y1)]) (runX 10000 ?_) (fun Jy1 => ?_)
 ·clear hy1
  simp only [go_sem, seval]
  refine mvF_ 10000 (AV.int .u32) plain_int (v := y1) rfl rfl (by first | rfl | simp only [go_sem]) (by first | rfl | simp only [go_sem]) (by first | rfl | simp only [go_sem]) rfl rfl ?_
  simp only [go_sem, seval]
  exact rS (fun x => .sl none (List.map (AV.int .u32) x)) h
 ·clear h
  have h := hy1
  simp only [go_sem, seval]
  refine lpJ 37 fuel (fun q1 w => ∀ (v38 : Int) (v39 : (List Int)), ref03_words_l1 p0_b q1 v38 v39 = some y1 → w [(0, .sl none (List.map (AV.int .u8) p0_b)), (3, .rs 0 0 v39.length 1 false false), (4, .int .i64 v38)] [some (List.map (AV.int .u32) v39)]) (fun w _ _ h => nomatch h) (fun q1 ih1 v38 v39 h => ?_) (fun L1 => ?_)
  ·unfold ref03_words_l1 at h
   refine rL ?_
   simp only [go_sem, seval]
   refine cS h (fun hb h => ?_) fun hb h => ?_
   ·simp only [go_sem, seval]
    refine bK ?_
    refine rem_s .i64 h fun v42 _ b41 e40 h => ?_
    simp only [go_sem, seval, e40, ne_eq, Int.reduceEq, not_false_eq_true]
    refine bsome h fun y43 hy43 h => ?_
    refine cndJ 37 10000 (fun w => w [(0, .sl none (List.map (AV.int .u8) p0_b)), (3, .rs 0 0 y43.length 1 false false), (4, .int .i64 v38)] [some (List.map (AV.int .u32) y43)]) (runX 10000 ?_) (fun Jy43 => ?_)
    ·clear hy43
     simp only [go_sem, seval]
     refine rg_ 10000 (.inr ⟨[], by kernel_rfl, by kernel_rfl, by rfl⟩) ?_
     refine quo_s h fun v51 _ b50 e49 h => ?_
     refine bAt_s (AV.int .u32) .i64 ⟨272, 1, false, 4⟩ rfl 0 false false rfl h fun v60 _ e54 e55 e56 e57 e58 e59 h => ?_
     refine lAt_s (AV.int .u8) none .i64 ⟨5, 1, false, 1⟩ (fun _ => rfl) h fun v63 _ b61 e62 h => ?_
     refine shl_s h fun v68 _ b67 e66 h => ?_
     refine stB_s h fun v71 e69 e70 h => ?_
     refine add_s h fun v73 _ e72 h => ?_
     simp only [go_sem, seval, e49, ne_eq, Int.reduceEq, not_false_eq_true, e54, e55, e56, e57, e58, b61, e62, (cvw_e (s := 5) (k := .u8) io272 v63), e40, (cvw_e (s := 3) (k := .i64) io234 v42), e66, b67, (show intv .add .u32 v60 v68 = .int .u32 (IntKind.wrap .u32 (v60 + v68)) from rfl), e59, e69, e72]
     exact lp_back (ih1 v73 v71 h) ⟨rfl, congrArg (fun n => AV.rs 0 0 n 1 false false) e70.symm, rfl, trivial⟩
    ·clear h
     have h := hy43
     refine cS h (fun hb h => ?_) fun hb h => ?_
     ·simp only [go_sem, seval]
      refine appB_s (AV.int .u32) (some none) ⟨272, 1, false, 4⟩ (fun _ => rfl) (by decide) rfl h fun v48 e45 e46 e47 h => ?_
      refine appB_ 10000 (AV.int .u32) plain_int (v := v39) (ws := ([0] : List Int)) rfl rfl rfl el175 rfl kd175 (by first | rfl | simp only [go_sem]) (by first | rfl | simp only [go_sem]) (by first | rfl | simp only [go_sem]) e45 e46 e47 (by first | rfl | simp only [go_sem]) rfl rfl ?_
      simp only [go_sem, seval]
      cases h
      exact atJ (wkn (Jy43) ⟨rfl, rfl, rfl, trivial⟩)
     ·simp only [go_sem, seval]
      cases h
      exact atJ (wkn (Jy43) ⟨rfl, rfl, rfl, trivial⟩)
   ·simp only [go_sem, seval]
    cases h
    exact atJ (wkn (Jy1) ⟨rfl, trivial⟩)
  ·exact lp_back (L1 0 [] h) ⟨rfl, rfl, rfl, trivial⟩
theorem w_ref03_made {neg : Bool} {p1_b : (List Int)} {r : (ref03_Num × Int)} (h : ref03_made neg p1_b = some r) : ACall Tryz.prog 182 [.bool neg, .sl none (List.map (AV.int .u8) p1_b)] [] (.tup [enc_ref03_Num r.1, .int .i64 r.2]) [] := by
 refine aX hf182 ok182 meek_tup ?_
 dsimp only [Tryz.f182, nums, Option.getD, List.append]
 unfold ref03_made at h
 refine bsome h fun v1 hv1 h => ?_
 simp only [go_sem, seval]
 refine cX (w_ref03_cut hv1) ?_
 refine bsome h fun v2 hv2 h => ?_
 simp only [go_sem, seval]
 refine cX (w_ref03_words hv2) ?_
 simp only [go_sem, seval]
 refine cS h (fun hb h => ?_) fun hb h => ?_
 ·simp only [go_sem, seval]
  refine ret_s (fun x => .tup [enc_ref03_Num x.1, .int .i64 x.2]) h ?_
  first | rfl | simp only [go_sem, resAV, resAll, resOne, seval]
 ·simp only [go_sem, seval]
  refine bsome h fun y3 hy3 h => ?_
  refine rgJ 24 10000 (.inl rfl) (fun w => w [(4, .ptr 0 0), (5, .int .i64 0)] [some [.bool y3, .sl none (List.map (AV.int .u32) v2)]]) (runX 10000 ?_) (fun Jy3 => ?_)
  ·clear hy3
   simp only [go_sem, seval]
   refine ret_s (fun x => .tup [enc_ref03_Num x.1, .int .i64 x.2]) h ?_
   first | rfl | simp only [go_sem, resAV, resAll, resOne, seval]
  ·clear h
   have h := hy3
   simp only [go_sem, seval]
   refine grd_ (fun hb5 => ?_) fun hb5 => ?_
   ·have h := ite_t hb5 h
    simp only [go_sem, seval]
    cases h
    exact atJ (wkn (Jy3) ⟨rfl, rfl, trivial⟩)
   ·have h := ite_f hb5 h
    simp only [go_sem, seval]
    cases h
    exact atJ (wkn (Jy3) ⟨rfl, rfl, trivial⟩)
theorem w_ref03_Parse {s : Str} {r : (ref03_Num × Int)} (h : ref03_Parse s = some r) : ACall Tryz.prog 125 [.str s] [] (.tup [enc_ref03_Num r.1, .int .i64 r.2]) [] := by
 refine aX hf125 ok125 meek_tup ?_
 dsimp only [Tryz.f125, nums, Option.getD, List.append]
 unfold ref03_Parse at h
 simp only [go_sem, seval]
 refine bsome h fun y1 hy1 h => ?_
 refine rgJ 115 10000 (.inl rfl) (fun w => w [(0, .str s), (2, .ptr 0 0), (4, .bool y1)] [some [.bool false, .sl (some none) []]]) (runX 10000 ?_) (fun Jy1 => ?_)
 ·clear hy1
  simp only [go_sem, seval]
  refine bsome h fun y7 hy7 h => ?_
  refine cndJ 115 10000 (fun w => w [(2, .ptr 0 0), (4, .bool y1), (5, .str y7)] [some [.bool false, .sl (some none) []]]) (runX 10000 ?_) (fun Jy7 => ?_)
  ·clear hy7
   simp only [go_sem, seval]
   refine bsome h fun y12 hy12 h => ?_
   refine rgJ 115 10000 (.inl rfl) (fun w => w [(2, .ptr 0 0), (4, .bool y1), (5, .str y7), (48, .bool y12)] [some [.bool false, .sl (some none) []]]) (runX 10000 ?_) (fun Jy12 => ?_)
   ·clear hy12
    simp only [go_sem, seval]
    refine cS h (fun hb h => ?_) fun hb h => ?_
    ·simp only [go_sem, seval]
     refine ret_s (fun x => .tup [enc_ref03_Num x.1, .int .i64 x.2]) h ?_
     first | rfl | simp only [go_sem, resAV, resAll, resOne, seval]
    ·simp only [go_sem, seval]
     refine letK_s h fun K24 hK24 h => ?_
     refine blkJ 115 10000 (fun w => ∀ (v43 : (List Int)), K24 v43 = some r → w [(2, .ptr 0 0), (4, .bool y1), (6, .sl (some none) (List.map (AV.int .u8) v43))] [some [.bool false, .sl (some none) []]]) (fun v43 h => runX 10000 ?_) (fun JK24 => ?_)
     ·subst hK24
      dsimp only at h
      simp only [go_sem, seval]
      refine bsome h fun y44 hy44 h => ?_
      refine blkJ 115 10000 (fun w => w [(2, .ptr 0 0), (4, .bool y1), (8, .sl (some none) (List.map (AV.int .u8) y44))] [some [.bool false, .sl (some none) []]]) (runX 10000 ?_) (fun Jy44 => ?_)
      ·clear hy44
       refine bsome h fun v110 hv110 h => ?_
       simp only [go_sem, seval]
       refine cX (w_ref03_made hv110) ?_
       simp only [go_sem, seval]
       refine ret_s (fun x => .tup [enc_ref03_Num x.1, .int .i64 x.2]) h ?_
       first | rfl | simp only [go_sem, resAV, resAll, resOne, seval]
      ·clear h
       have h := hy44
       simp only [go_sem, seval]
       refine unown_lp 6 (by first | rfl | simp only [go_sem]) ?_
       refine lpJ 115 fuel (fun q2 w => ∀ (v78 : (List Int)) (v79 : (List Int)), ref03_Parse_l2 q2 v78 v79 = some y44 → w [(2, .ptr 0 0), (4, .bool y1), (6, .sl none (List.map (AV.int .u8) v78)), (8, .sl (some none) (List.map (AV.int .u8) v79))] [some [.bool false, .sl (some none) []]]) (fun w _ _ h => nomatch h) (fun q2 ih2 v78 v79 h => ?_) (fun L2 => ?_)
       ·unfold ref03_Parse_l2 at h
        refine rL ?_
        simp only [go_sem, seval]
        refine cS h (fun hb h => ?_) fun hb h => ?_
        ·simp only [go_sem, seval]
         refine bK ?_
         simp only [go_sem, seval]
         refine bsome h fun y80 hy80 h => ?_
         refine blkJ 115 10000 (fun w => w [(2, .ptr 0 0), (4, .bool y1), (8, .sl (some none) (List.map (AV.int .u8) v79)), (9, .int .u8 y80.1), (10, .sl (some none) (List.map (AV.int .u8) y80.2))] [some [.bool false, .sl (some none) []]]) (runX 10000 ?_) (fun Jy80 => ?_)
         ·clear hy80
          refine app_s (AV.int .u8) (some none) ⟨5, 1, false, 1⟩ (fun _ => rfl) (by decide) rfl h fun v109 _ (b107 : appc ⟨5, 1, false, 1⟩ (.sl (some none) (List.map (AV.int .u8) v79)) (.sl (some none) [.int .u8 y80.1])) (e108 : appv (.sl (some none) (List.map (AV.int .u8) v79)) (.sl (some none) [.int .u8 y80.1]) = .sl (some none) (List.map (AV.int .u8) v109)) h => ?_
          simp only [go_sem, seval, b107, e108]
          exact lp_back (ih2 y80.2 v109 h) ⟨rfl, rfl, rfl, rfl, trivial⟩
         ·clear h
          have h := hy80
          simp only [go_sem, seval]
          refine lpJ 115 fuel (fun q4 w => ∀ (v82 : Int) (v83 : (List Int)) (v84 : Int), ref03_Parse_l4 v78 q4 v82 v83 v84 = some y80 → w [(2, .ptr 0 0), (4, .bool y1), (6, .sl none (List.map (AV.int .u8) v78)), (8, .sl (some none) (List.map (AV.int .u8) v79)), (9, .int .u8 v82), (10, .sl (some none) (List.map (AV.int .u8) v83)), (11, .int .i64 v84)] [some [.bool false, .sl (some none) []]]) (fun w _ _ _ h => nomatch h) (fun q4 ih4 v82 v83 v84 h => ?_) (fun L4 => ?_)
          ·unfold ref03_Parse_l4 at h
           refine rL ?_
           simp only [go_sem, seval]
           refine cS h (fun hb h => ?_) fun hb h => ?_
           ·simp only [go_sem, seval]
            refine bK ?_
            refine lAt_s (AV.int .u8) none .i64 ⟨5, 1, false, 1⟩ (fun _ => rfl) h fun v87 _ b85 e86 h => ?_
            simp only [go_sem, seval, (show intv .mul .u8 10 v82 = .int .u8 (IntKind.wrap .u8 (10 * v82)) from rfl), b85, e86, (show intv .add .u8 (IntKind.wrap .u8 (10 * v82)) v87 = .int .u8 (IntKind.wrap .u8 ((IntKind.wrap .u8 (10 * v82)) + v87)) from rfl)]
            refine bsome h fun y88 hy88 h => ?_
            refine rgJ 115 10000 (.inl rfl) (fun w => w [(2, .ptr 0 0), (4, .bool y1), (6, .sl none (List.map (AV.int .u8) v78)), (8, .sl (some none) (List.map (AV.int .u8) v79)), (9, .int .u8 (IntKind.wrap .u8 ((IntKind.wrap .u8 (10 * v82)) + v87))), (10, .sl (some none) (List.map (AV.int .u8) v83)), (11, .int .i64 v84), (97, .bool y88)] [some [.bool false, .sl (some none) []]]) (runX 10000 ?_) (fun Jy88 => ?_)
            ·clear hy88
             simp only [go_sem, seval]
             refine bsome h fun y94 hy94 h => ?_
             refine cndJ 115 10000 (fun w => w [(2, .ptr 0 0), (4, .bool y1), (6, .sl none (List.map (AV.int .u8) v78)), (8, .sl (some none) (List.map (AV.int .u8) v79)), (9, .int .u8 (IntKind.wrap .u8 ((IntKind.wrap .u8 (10 * v82)) + v87))), (10, .sl (some none) (List.map (AV.int .u8) y94)), (11, .int .i64 v84)] [some [.bool false, .sl (some none) []]]) (runX 10000 ?_) (fun Jy94 => ?_)
             ·clear hy94
              refine rem_s .u8 h fun v104 _ b103 e102 h => ?_
              refine add_s h fun v106 _ e105 h => ?_
              simp only [go_sem, seval, e102, ne_eq, Int.reduceEq, not_false_eq_true, e105]
              exact lp_back (ih4 v104 y94 v106 h) ⟨rfl, rfl, rfl, rfl, rfl, rfl, rfl, trivial⟩
             ·clear h
              have h := hy94
              refine cS h (fun hb h => ?_) fun hb h => ?_
              ·refine quo_s h fun v98 _ b97 e96 h => ?_
               refine app_s (AV.int .u8) (some none) ⟨5, 1, false, 1⟩ (fun _ => rfl) (by decide) rfl h fun v101 _ (b99 : appc ⟨5, 1, false, 1⟩ (.sl (some none) (List.map (AV.int .u8) v83)) (.sl (some none) [.int .u8 v98])) (e100 : appv (.sl (some none) (List.map (AV.int .u8) v83)) (.sl (some none) [.int .u8 v98]) = .sl (some none) (List.map (AV.int .u8) v101)) h => ?_
               simp only [go_sem, seval, e96, ne_eq, Int.reduceEq, not_false_eq_true, b99, e100]
               cases h
               exact atJ (wkn (Jy94) ⟨rfl, rfl, rfl, rfl, rfl, rfl, rfl, trivial⟩)
              ·simp only [go_sem, seval]
               cases h
               exact atJ (wkn (Jy94) ⟨rfl, rfl, rfl, rfl, rfl, rfl, rfl, trivial⟩)
            ·clear h
             have h := hy88
             simp only [go_sem, seval]
             refine grd_ (fun hb90 => ?_) fun hb90 => ?_
             ·have h := ite_f hb90 h
              refine quo_s h fun v93 _ b92 e91 h => ?_
              simp only [go_sem, seval, e91, ne_eq, Int.reduceEq, not_false_eq_true]
              cases h
              exact atJ (wkn (Jy88) ⟨rfl, rfl, rfl, rfl, rfl, rfl, rfl, rfl, trivial⟩)
             ·have h := ite_t hb90 h
              simp only [go_sem, seval]
              cases h
              exact atJ (wkn (Jy88) ⟨rfl, rfl, rfl, rfl, rfl, rfl, rfl, rfl, trivial⟩)
           ·simp only [go_sem, seval]
            cases h
            exact atJ (wkn (Jy80) ⟨rfl, rfl, rfl, rfl, rfl, trivial⟩)
          ·exact lp_back (L4 0 [] 0 h) ⟨rfl, rfl, rfl, rfl, rfl, rfl, rfl, trivial⟩
        ·simp only [go_sem, seval]
         cases h
         exact atJ (wkn (Jy44) ⟨rfl, rfl, rfl, trivial⟩)
       ·exact lp_back (L2 v43 [] h) ⟨rfl, rfl, rfl, rfl, trivial⟩
     ·clear hK24
      simp only [go_sem, seval]
      refine lpJ 115 fuel (fun q1 w => ∀ (v25 : (List Int)) (v26 : Int), ref03_Parse_l1 y7 K24 q1 v25 v26 = some r → w [(2, .ptr 0 0), (4, .bool y1), (5, .str y7), (6, .sl (some none) (List.map (AV.int .u8) v25)), (7, .int .i64 v26)] [some [.bool false, .sl (some none) []]]) (fun w _ _ h => nomatch h) (fun q1 ih1 v25 v26 h => ?_) (fun L1 => ?_)
      ·unfold ref03_Parse_l1 at h
       refine rL ?_
       simp only [go_sem, seval]
       refine cS h (fun hb h => ?_) fun hb h => ?_
       ·simp only [go_sem, seval]
        refine bK ?_
        simp only [go_sem, seval]
        refine bsome h fun y27 hy27 h => ?_
        refine rgJ 115 10000 (.inl rfl) (fun w => w [(2, .ptr 0 0), (4, .bool y1), (5, .str y7), (6, .sl (some none) (List.map (AV.int .u8) v25)), (7, .int .i64 v26), (65, .bool y27)] [some [.bool false, .sl (some none) []]]) (runX 10000 ?_) (fun Jy27 => ?_)
        ·clear hy27
         simp only [go_sem, seval]
         refine cS h (fun hb h => ?_) fun hb h => ?_
         ·simp only [go_sem, seval]
          refine ret_s (fun x => .tup [enc_ref03_Num x.1, .int .i64 x.2]) h ?_
          first | rfl | simp only [go_sem, resAV, resAll, resOne, seval]
         ·refine sIdx_s .i64 h fun v37 _ b35 e36 h => ?_
          refine app_s (AV.int .u8) (some none) ⟨5, 1, false, 1⟩ (fun _ => rfl) (by decide) rfl h fun v40 _ (b38 : appc ⟨5, 1, false, 1⟩ (.sl (some none) (List.map (AV.int .u8) v25)) (.sl (some none) [.int .u8 (IntKind.wrap .u8 (v37 - 48))])) (e39 : appv (.sl (some none) (List.map (AV.int .u8) v25)) (.sl (some none) [.int .u8 (IntKind.wrap .u8 (v37 - 48))]) = .sl (some none) (List.map (AV.int .u8) v40)) h => ?_
          refine add_s h fun v42 _ e41 h => ?_
          simp only [go_sem, seval, b35, e36, (show intv .sub .u8 v37 48 = .int .u8 (IntKind.wrap .u8 (v37 - 48)) from rfl), b38, e39, e41]
          exact lp_back (ih1 v40 v42 h) ⟨rfl, rfl, rfl, rfl, rfl, trivial⟩
        ·clear h
         have h := hy27
         refine sIdx_s .i64 h fun v31 _ b29 e30 h => ?_
         simp only [go_sem, seval, b29, e30]
         refine grd_ (fun hb32 => ?_) fun hb32 => ?_
         ·have h := ite_f hb32 h
          simp only [go_sem, seval, b29, e30]
          cases h
          exact atJ (wkn (Jy27) ⟨rfl, rfl, rfl, rfl, rfl, rfl, trivial⟩)
         ·have h := ite_t hb32 h
          simp only [go_sem, seval]
          cases h
          exact atJ (wkn (Jy27) ⟨rfl, rfl, rfl, rfl, rfl, rfl, trivial⟩)
       ·simp only [go_sem, seval]
        exact atJ (wkn (JK24 v25 h) ⟨rfl, rfl, rfl, trivial⟩)
      ·exact lp_back (L1 [] 0 h) ⟨rfl, rfl, rfl, rfl, rfl, trivial⟩
   ·clear h
    have h := hy12
    simp only [go_sem, seval]
    refine grd_ (fun hb14 => ?_) fun hb14 => ?_
    ·have h := ite_f hb14 h
     simp only [go_sem, seval]
     refine grd_ (fun hb15 => ?_) fun hb15 => ?_
     ·have h := ite_f hb15 h
      simp only [go_sem, seval]
      refine grd_ (fun hb16 => ?_) fun hb16 => ?_
      ·have h := ite_t hb16 h
       refine sIdx_s .i64 h fun v19 _ b17 e18 h => ?_
       simp only [go_sem, seval, b17, e18]
       refine grd_ (fun hb20 => ?_) fun hb20 => ?_
       ·have h := ite_f hb20 h
        simp only [go_sem, seval]
        refine grd_ (fun hb21 => ?_) fun hb21 => ?_
        ·have h := ite_t hb21 h
         simp only [go_sem, seval]
         cases h
         exact atJ (wkn (Jy12) ⟨rfl, rfl, rfl, rfl, trivial⟩)
        ·have h := ite_f hb21 h
         simp only [go_sem, seval]
         cases h
         exact atJ (wkn (Jy12) ⟨rfl, rfl, rfl, rfl, trivial⟩)
       ·have h := ite_t hb20 h
        simp only [go_sem, seval]
        cases h
        exact atJ (wkn (Jy12) ⟨rfl, rfl, rfl, rfl, trivial⟩)
      ·have h := ite_f hb16 h
       simp only [go_sem, seval]
       refine grd_ (fun hb22 => ?_) fun hb22 => ?_
       ·have h := ite_t hb22 h
        simp only [go_sem, seval]
        cases h
        exact atJ (wkn (Jy12) ⟨rfl, rfl, rfl, rfl, trivial⟩)
       ·have h := ite_f hb22 h
        simp only [go_sem, seval]
        cases h
        exact atJ (wkn (Jy12) ⟨rfl, rfl, rfl, rfl, trivial⟩)
     ·have h := ite_t hb15 h
      simp only [go_sem, seval]
      cases h
      exact atJ (wkn (Jy12) ⟨rfl, rfl, rfl, rfl, trivial⟩)
    ·have h := ite_t hb14 h
     simp only [go_sem, seval]
     cases h
     exact atJ (wkn (Jy12) ⟨rfl, rfl, rfl, rfl, trivial⟩)
  ·clear h
   have h := hy7
   refine cS h (fun hb h => ?_) fun hb h => ?_
   ·refine subS_s (some (.int .i64 1)) none rfl rfl h fun v11 _ b9 e10 h => ?_
    simp only [go_sem, seval, b9, e10]
    cases h
    exact atJ (wkn (Jy7) ⟨rfl, rfl, rfl, trivial⟩)
   ·simp only [go_sem, seval]
    cases h
    exact atJ (wkn (Jy7) ⟨rfl, rfl, rfl, trivial⟩)
 ·clear h
  have h := hy1
  simp only [go_sem, seval]
  refine grd_ (fun hb3 => ?_) fun hb3 => ?_
  ·have h := ite_t hb3 h
   refine sIdx_s .i64 h fun v6 _ b4 e5 h => ?_
   simp only [go_sem, seval, b4, e5]
   cases h
   exact atJ (wkn (Jy1) ⟨rfl, rfl, rfl, trivial⟩)
  ·have h := ite_f hb3 h
   simp only [go_sem, seval]
   cases h
   exact atJ (wkn (Jy1) ⟨rfl, rfl, rfl, trivial⟩)
theorem w_ref14_shape {n : rNd} {r : Bool} (h : ref14_shape n = some r) : ACall Tryz.prog 69 [enc_rNd n] [] (.bool r) [] := by
 refine aX hf69 ok69 meek_bool ?_
 dsimp only [Tryz.f69, nums, Option.getD, List.append]
 unfold ref14_shape at h
 simp only [go_sem, seval]
 refine rgJ 145 10000 (.inl rfl) (fun w => w [(1, .ptr 0 0), (24, .bool (((!decide (n.K = 12)) && ((!decide (n.N = 0)) || (decide ((0 : Int) < (n.L.length : Int))))) || (decide ((13 : Int) < n.K))))] [hN n.K n.S n.N n.L n.Kids]) (runX 10000 ?_) (fun Jg1 => ?_)
 ·simp only [go_sem, seval]
  refine cS h (fun hb h => ?_) fun hb h => ?_
  ·simp only [go_sem, seval]
   exact rS (fun x => .bool x) h
  ·simp only [go_sem, seval]
   refine rgJ 145 10000 (.inl rfl) (fun w => w [(1, .ptr 0 0), (37, .bool (((decide (n.K < 5)) || (decide (n.K = 10))) || (decide ((12 : Int) ≤ n.K))))] [hN n.K n.S n.N n.L n.Kids]) (runX 10000 ?_) (fun Jg2 => ?_)
   ·simp only [go_sem, seval]
    refine letK_s h fun K4 hK4 h => ?_
    refine cndJ 145 10000 (fun w => K4 () = some r → w [(1, .ptr 0 0)] [hN n.K n.S n.N n.L n.Kids]) (fun h => runX 10000 ?_) (fun JK4 => ?_)
    ·subst hK4
     dsimp only at h
     simp only [go_sem, seval]
     refine rgJ 145 10000 (.inl rfl) (fun w => w [(1, .ptr 0 0), (3, .int .i64 (n.Kids.length : Int)), (50, .bool ((decide (n.K < 8)) && (decide ((0 : Int) < (n.Kids.length : Int)))))] [hN n.K n.S n.N n.L n.Kids]) (runX 10000 ?_) (fun Jg5 => ?_)
     ·simp only [go_sem, seval]
      refine cS h (fun hb h => ?_) fun hb h => ?_
      ·simp only [go_sem, seval]
       exact rS (fun x => .bool x) h
      ·simp only [go_sem, seval]
       refine cS h (fun hb h => ?_) fun hb h => ?_
       ·refine bsome h fun v6 hv6 h => ?_
        simp only [go_sem, seval]
        refine cX (w_ref03_Parse hv6) ?_
        simp only [go_sem, seval]
        exact rS (fun x => .bool x) h
       ·simp only [go_sem, seval]
        refine cS h (fun hb h => ?_) fun hb h => ?_
        ·simp only [go_sem, seval]
         exact rS (fun x => .bool x) h
        ·simp only [go_sem, seval]
         refine cS h (fun hb h => ?_) fun hb h => ?_
         ·simp only [go_sem, seval]
          refine bsome h fun y7 hy7 h => ?_
          refine rgJ 145 10000 (.inl rfl) (fun w => w [(2, .bool y7)] [hN n.K n.S n.N n.L n.Kids]) (runX 10000 ?_) (fun Jy7 => ?_)
          ·clear hy7
           simp only [go_sem, seval]
           exact rS (fun x => .bool x) h
          ·clear h
           have h := hy7
           refine bsome h fun v9 hv9 h => ?_
           simp only [go_sem, seval]
           refine cX (w_ref10_Var hv9) ?_
           simp only [go_sem, seval]
           refine grd_ (fun hb10 => ?_) fun hb10 => ?_
           ·have h := ite_f hb10 h
            refine bsome h fun v11 hv11 h => ?_
            simp only [go_sem, seval]
            refine cX (w_ref10_Name hv11) ?_
            simp only [go_sem, seval]
            cases h
            exact atJ (wkn (Jy7) ⟨rfl, trivial⟩)
           ·have h := ite_t hb10 h
            simp only [go_sem, seval]
            cases h
            exact atJ (wkn (Jy7) ⟨rfl, trivial⟩)
         ·simp only [go_sem, seval]
          refine cS h (fun hb h => ?_) fun hb h => ?_
          ·simp only [go_sem, seval]
           refine bsome h fun y12 hy12 h => ?_
           refine rgJ 145 10000 (.inl rfl) (fun w => w [(2, .bool y12)] [hN n.K n.S n.N n.L n.Kids]) (runX 10000 ?_) (fun Jy12 => ?_)
           ·clear hy12
            simp only [go_sem, seval]
            exact rS (fun x => .bool x) h
           ·clear h
            have h := hy12
            simp only [go_sem, seval]
            refine grd_ (fun hb14 => ?_) fun hb14 => ?_
            ·have h := ite_t hb14 h
             refine bsome h fun v15 hv15 h => ?_
             simp only [go_sem, seval]
             refine cX (w_ref10_Var hv15) ?_
             simp only [go_sem, seval]
             cases h
             exact atJ (wkn (Jy12) ⟨rfl, trivial⟩)
            ·have h := ite_f hb14 h
             simp only [go_sem, seval]
             cases h
             exact atJ (wkn (Jy12) ⟨rfl, trivial⟩)
          ·simp only [go_sem, seval]
           refine cS h (fun hb h => ?_) fun hb h => ?_
           ·refine sub_s h fun v17 _ e16 h => ?_
            refine bsome h fun v18 hv18 h => ?_
            simp only [go_sem, seval, e16]
            refine cX (w_ref14_takes hv18) ?_
            simp only [go_sem, seval]
            exact rS (fun x => .bool x) h
           ·simp only [go_sem, seval]
            refine cS h (fun hb h => ?_) fun hb h => ?_
            ·simp only [go_sem, seval]
             refine rgJ 145 10000 (.inl rfl) (fun w => w [(2, .bool ((decide ((3 : Int) ≤ (n.Kids.length : Int))) && (decide ((n.Kids.length : Int) ≤ 17))))] [hN n.K n.S n.N n.L n.Kids]) (runX 10000 ?_) (fun Jg19 => ?_)
             ·simp only [go_sem, seval]
              exact rS (fun x => .bool x) h
             ·simp only [go_sem, seval]
              refine grd_ (fun hb20 => ?_) fun hb20 => ?_
              ·simp only [go_sem, seval]
               exact atJ (wkn Jg19 ⟨congrArg AV.bool (by first | rfl | (rw [hb20]; rfl) | (simp [hb20]; done) | simp_all), trivial⟩)
              ·simp only [go_sem, seval]
               exact atJ (wkn Jg19 ⟨congrArg AV.bool (by first | rfl | (rw [hb20]; rfl) | (simp [hb20]; done) | simp_all), trivial⟩)
            ·simp only [go_sem, seval]
             refine cS h (fun hb h => ?_) fun hb h => ?_
             ·refine bsome h fun v21 hv21 h => ?_
              simp only [go_sem, seval]
              refine cX (w_ref14_takes hv21) ?_
              simp only [go_sem, seval]
              exact rS (fun x => .bool x) h
             ·simp only [go_sem, seval]
              refine cS h (fun hb h => ?_) fun hb h => ?_
              ·simp only [go_sem, seval]
               refine bsome h fun y22 hy22 h => ?_
               refine rgJ 145 10000 (.inl rfl) (fun w => w [(2, .bool y22)] [hN n.K n.S n.N n.L n.Kids]) (runX 10000 ?_) (fun Jy22 => ?_)
               ·clear hy22
                simp only [go_sem, seval]
                exact rS (fun x => .bool x) h
               ·clear h
                have h := hy22
                simp only [go_sem, seval]
                refine grd_ (fun hb24 => ?_) fun hb24 => ?_
                ·have h := ite_t hb24 h
                 simp only [go_sem, seval]
                 refine grd_ (fun hb25 => ?_) fun hb25 => ?_
                 ·have h := ite_t hb25 h
                  simp only [go_sem, seval]
                  refine grd_ (fun hb26 => ?_) fun hb26 => ?_
                  ·have h := ite_t hb26 h
                   refine bsome h fun v27 hv27 h => ?_
                   simp only [go_sem, seval]
                   refine cX (w_ref14_Vars hv27) ?_
                   simp only [go_sem, seval]
                   cases h
                   exact atJ (wkn (Jy22) ⟨rfl, trivial⟩)
                  ·have h := ite_f hb26 h
                   simp only [go_sem, seval]
                   cases h
                   exact atJ (wkn (Jy22) ⟨rfl, trivial⟩)
                 ·have h := ite_f hb25 h
                  simp only [go_sem, seval]
                  cases h
                  exact atJ (wkn (Jy22) ⟨rfl, trivial⟩)
                ·have h := ite_f hb24 h
                 simp only [go_sem, seval]
                 cases h
                 exact atJ (wkn (Jy22) ⟨rfl, trivial⟩)
              ·simp only [go_sem, seval]
               refine rgJ 145 10000 (.inl rfl) (fun w => w [(2, .bool ((decide (n.K < 8)) || (decide ((n.Kids.length : Int) = 1))))] [hN n.K n.S n.N n.L n.Kids]) (runX 10000 ?_) (fun Jg28 => ?_)
               ·simp only [go_sem, seval]
                exact rS (fun x => .bool x) h
               ·simp only [go_sem, seval]
                refine grd_ (fun hb29 => ?_) fun hb29 => ?_
                ·simp only [go_sem, seval]
                 exact atJ (wkn Jg28 ⟨congrArg AV.bool (by first | rfl | (rw [hb29]; rfl) | (simp [hb29]; done) | simp_all), trivial⟩)
                ·simp only [go_sem, seval]
                 exact atJ (wkn Jg28 ⟨congrArg AV.bool (by first | rfl | (rw [hb29]; rfl) | (simp [hb29]; done) | simp_all), trivial⟩)
     ·simp only [go_sem, seval]
      refine grd_ (fun hb30 => ?_) fun hb30 => ?_
      ·simp only [go_sem, seval]
       exact atJ (wkn Jg5 ⟨rfl, rfl, congrArg AV.bool (by first | rfl | (rw [hb30]; rfl) | (simp [hb30]; done) | simp_all), trivial⟩)
      ·simp only [go_sem, seval]
       exact atJ (wkn Jg5 ⟨rfl, rfl, congrArg AV.bool (by first | rfl | (rw [hb30]; rfl) | (simp [hb30]; done) | simp_all), trivial⟩)
    ·clear hK4
     refine cS h (fun hb h => ?_) fun hb h => ?_
     ·simp only [go_sem, seval]
      refine cS h (fun hb h => ?_) fun hb h => ?_
      ·simp only [go_sem, seval]
       exact rS (fun x => .bool x) h
      ·simp only [go_sem, seval]
       exact atJ (wkn (JK4 h) ⟨rfl, trivial⟩)
     ·simp only [go_sem, seval]
      exact atJ (wkn (JK4 h) ⟨rfl, trivial⟩)
   ·simp only [go_sem, seval]
    refine grd_ (fun hb31 => ?_) fun hb31 => ?_
    ·simp only [go_sem, seval]
     refine grd_ (fun hb32 => ?_) fun hb32 => ?_
     ·simp only [go_sem, seval]
      exact atJ (wkn Jg2 ⟨rfl, congrArg AV.bool (by first | rfl | (rw [hb31, hb32]; rfl) | (simp [hb31, hb32]; done) | simp_all), trivial⟩)
     ·simp only [go_sem, seval]
      exact atJ (wkn Jg2 ⟨rfl, congrArg AV.bool (by first | rfl | (rw [hb31, hb32]; rfl) | (simp [hb31, hb32]; done) | simp_all), trivial⟩)
    ·simp only [go_sem, seval]
     exact atJ (wkn Jg2 ⟨rfl, congrArg AV.bool (by first | rfl | (rw [hb31]; rfl) | (simp [hb31]; done) | simp_all), trivial⟩)
 ·simp only [go_sem, seval]
  refine grd_ (fun hb33 => ?_) fun hb33 => ?_
  ·simp only [go_sem, seval]
   refine grd_ (fun hb34 => ?_) fun hb34 => ?_
   ·simp only [go_sem, seval]
    refine grd_ (fun hb35 => ?_) fun hb35 => ?_
    ·simp only [go_sem, seval]
     exact atJ (wkn Jg1 ⟨rfl, congrArg AV.bool (by first | rfl | (rw [hb33, hb34, hb35]; rfl) | (simp [hb33, hb34, hb35]; done) | simp_all), trivial⟩)
    ·simp only [go_sem, seval]
     exact atJ (wkn Jg1 ⟨rfl, congrArg AV.bool (by first | rfl | (rw [hb33, hb34, hb35]; rfl) | (simp [hb33, hb34, hb35]; done) | simp_all), trivial⟩)
   ·simp only [go_sem, seval]
    exact atJ (wkn Jg1 ⟨rfl, congrArg AV.bool (by first | rfl | (rw [hb33, hb34]; rfl) | (simp [hb33, hb34]; done) | simp_all), trivial⟩)
  ·simp only [go_sem, seval]
   exact atJ (wkn Jg1 ⟨rfl, congrArg AV.bool (by first | rfl | (rw [hb33]; rfl) | (simp [hb33]; done) | simp_all), trivial⟩)
theorem w_ref14_stands {k : Int} {above : Int} {at_ : Int} {of : Int} {r : Bool} (h : ref14_stands k above at_ of = some r) : ACall Tryz.prog 70 [.int .u8 k, .int .u8 above, .int .i64 at_, .int .i64 of] [] (.bool r) [] := by
 refine aX hf70 ok70 meek_bool ?_
 dsimp only [Tryz.f70, nums, Option.getD, List.append]
 unfold ref14_stands at h
 simp only [go_sem, seval]
 refine cS h (fun hb h => ?_) fun hb h => ?_
 ·simp only [go_sem, seval]
  refine rgJ 44 10000 (.inl rfl) (fun w => w [(8, .bool (((decide (above = 9)) || (decide (above = 10))) && (decide (at_ = 0))))] []) (runX 10000 ?_) (fun Jg1 => ?_)
  ·simp only [go_sem, seval]
   exact rS (fun x => .bool x) h
  ·simp only [go_sem, seval]
   refine grd_ (fun hb2 => ?_) fun hb2 => ?_
   ·simp only [go_sem, seval]
    refine grd_ (fun hb3 => ?_) fun hb3 => ?_
    ·simp only [go_sem, seval]
     exact atJ (wkn Jg1 ⟨congrArg AV.bool (by first | rfl | (rw [hb2, hb3]; rfl) | (simp [hb2, hb3]; done) | simp_all), trivial⟩)
    ·simp only [go_sem, seval]
     exact atJ (wkn Jg1 ⟨congrArg AV.bool (by first | rfl | (rw [hb2, hb3]; rfl) | (simp [hb2, hb3]; done) | simp_all), trivial⟩)
   ·simp only [go_sem, seval]
    exact atJ (wkn Jg1 ⟨congrArg AV.bool (by first | rfl | (rw [hb2]; rfl) | (simp [hb2]; done) | simp_all), trivial⟩)
 ·simp only [go_sem, seval]
  refine cS h (fun hb h => ?_) fun hb h => ?_
  ·simp only [go_sem, seval]
   refine bsome h fun y4 hy4 h => ?_
   refine rgJ 44 10000 (.inl rfl) (fun w => w [(8, .bool y4)] []) (runX 10000 ?_) (fun Jy4 => ?_)
   ·clear hy4
    simp only [go_sem, seval]
    exact rS (fun x => .bool x) h
   ·clear h
    have h := hy4
    simp only [go_sem, seval]
    refine grd_ (fun hb6 => ?_) fun hb6 => ?_
    ·have h := ite_t hb6 h
     simp only [go_sem, seval]
     refine grd_ (fun hb7 => ?_) fun hb7 => ?_
     ·have h := ite_t hb7 h
      refine sub_s h fun v9 _ e8 h => ?_
      simp only [go_sem, seval, e8]
      cases h
      exact atJ (wkn (Jy4) ⟨rfl, trivial⟩)
     ·have h := ite_f hb7 h
      simp only [go_sem, seval]
      cases h
      exact atJ (wkn (Jy4) ⟨rfl, trivial⟩)
    ·have h := ite_f hb6 h
     simp only [go_sem, seval]
     cases h
     exact atJ (wkn (Jy4) ⟨rfl, trivial⟩)
  ·simp only [go_sem, seval]
   refine rgJ 44 10000 (.inl rfl) (fun w => w [(8, .bool ((decide (k = 11)) == ((decide (above = 10)) && (decide ((0 : Int) < at_)))))] []) (runX 10000 ?_) (fun Jg10 => ?_)
   ·simp only [go_sem, seval]
    exact rS (fun x => .bool x) h
   ·simp only [go_sem, seval]
    refine grd_ (fun hb11 => ?_) fun hb11 => ?_
    ·simp only [go_sem, seval]
     exact atJ (wkn Jg10 ⟨congrArg AV.bool (by first | rfl | (rw [hb11]; rfl) | (simp [hb11]; done) | simp_all), trivial⟩)
    ·simp only [go_sem, seval]
     exact atJ (wkn Jg10 ⟨congrArg AV.bool (by first | rfl | (rw [hb11]; rfl) | (simp [hb11]; done) | simp_all), trivial⟩)
theorem w_ref14_May {m : rMt} {r : Bool} (h : ref14_May m = some r) : ACall Tryz.prog 27 [enc_rMt m] [] (.bool r) [] := by
 refine aX hf27 ok27 meek_bool ?_
 dsimp only [Tryz.f27, nums, Option.getD, List.append]
 unfold ref14_May at h
 simp only [go_sem, seval]
 refine rg_ 10000 (.inr ⟨[], by kernel_rfl, by kernel_rfl, by rfl⟩) ?_
 refine app_s AV.str none ⟨9, 1, false, 16⟩ (fun _ => rfl) (by decide) rfl h fun v3 _ (b1 : appc ⟨9, 1, false, 16⟩ (.sl (some none) []) (.sl none (List.map AV.str m.Args))) (e2 : appv (.sl (some none) []) (.sl none (List.map AV.str m.Args)) = .sl (some none) (List.map AV.str v3)) h => ?_
 refine app_s AV.str none ⟨9, 1, false, 16⟩ (fun _ => rfl) (by decide) rfl h fun v6 _ b4 e5 h => ?_
 simp only [go_sem, seval, b1, e2, b4, e5]
 refine bsome h fun y7 hy7 h => ?_
 refine rgJ 171 10000 (.inl rfl) (fun w => w [(1, .ptr 0 0), (42, .bool y7)] [hR m]) (runX 10000 ?_) (fun Jy7 => ?_)
 ·clear hy7
  simp only [go_sem, seval]
  refine cS h (fun hb h => ?_) fun hb h => ?_
  ·simp only [go_sem, seval]
   exact rS (fun x => .bool x) h
  ·simp only [go_sem, seval]
   refine letK_s h fun K15 hK15 h => ?_
   refine blkJ 171 10000 (fun w => ∀ (v71 : (List Int)), K15 v71 = some r → w [(1, .ptr 0 0), (4, .sl (some none) (List.map (AV.int .i64) v71))] [hR m]) (fun v71 h => runX 10000 ?_) (fun JK15 => ?_)
   ·subst hK15
    dsimp only at h
    simp only [go_sem, seval]
    refine cS h (fun hb h => ?_) fun hb h => ?_
    ·simp only [go_sem, seval]
     exact rS (fun x => .bool x) h
    ·simp only [go_sem, seval]
     refine letK_s h fun K73 hK73 h => ?_
     refine blkJ 171 10000 (fun w => K73 () = some r → w [] [hR m]) (fun h => runX 10000 ?_) (fun JK73 => ?_)
     ·subst hK73
      dsimp only at h
      simp only [go_sem, seval]
      exact rS (fun x => .bool x) h
     ·clear hK73
      simp only [go_sem, seval]
      refine lpJ 171 fuel (fun q3 w => ∀ (v74 : Int), ref14_May_l3 m v71 K73 q3 v74 = some r → w [(1, .ptr 0 0), (4, .sl (some none) (List.map (AV.int .i64) v71)), (11, .int .i64 v74)] [hR m]) (fun w _ h => nomatch h) (fun q3 ih3 v74 h => ?_) (fun L3 => ?_)
      ·unfold ref14_May_l3 at h
       refine rL ?_
       simp only [go_sem, seval]
       refine cS h (fun hb h => ?_) fun hb h => ?_
       ·simp only [go_sem, seval]
        refine bK ?_
        simp only [go_sem, seval]
        refine bsome h fun y75 hy75 h => ?_
        refine rgJ 171 10000 (.inr ⟨[], by kernel_rfl, by kernel_rfl, by rfl⟩) (fun w => w [(1, .ptr 0 0), (4, .sl (some none) (List.map (AV.int .i64) v71)), (11, .int .i64 v74), (170, .bool y75)] [hR m]) (runX 10000 ?_) (fun Jy75 => ?_)
        ·clear hy75
         simp only [go_sem, seval]
         refine cS h (fun hb h => ?_) fun hb h => ?_
         ·simp only [go_sem, seval]
          exact rS (fun x => .bool x) h
         ·refine add_s h fun v91 _ e90 h => ?_
          simp only [go_sem, seval, e90]
          exact lp_back (ih3 v91 h) ⟨rfl, rfl, rfl, trivial⟩
        ·clear h
         have h := hy75
         refine lAt_s (AV.int .i64) none .i64 ⟨3, 1, false, 8⟩ (fun _ => rfl) h fun v79 _ b77 e78 h => ?_
         refine lAt_s (AV.int .i64) none .i64 ⟨3, 1, false, 8⟩ (fun _ => rfl) h fun v82 _ b80 e81 h => ?_
         simp only [go_sem, seval, b77, e78, b80, e81]
         refine grd_ (fun hb83 => ?_) fun hb83 => ?_
         ·have h := ite_f hb83 h
          refine lAt_s enc_rNd none .i64 ⟨78, 5, true, 80⟩ (fun _ => rfl) h fun v88 _ b86 e87 h => ?_
          refine bsome h fun v89 hv89 h => ?_
          simp only [go_sem, seval, b80, e81, b86, e87]
          refine cX (w_ref14_stands hv89) ?_
          simp only [go_sem, seval]
          cases h
          exact atJ (wkn (Jy75) ⟨rfl, rfl, rfl, rfl, trivial⟩)
         ·have h := ite_t hb83 h
          simp only [go_sem, seval]
          cases h
          exact atJ (wkn (Jy75) ⟨rfl, rfl, rfl, rfl, trivial⟩)
       ·simp only [go_sem, seval]
        exact atJ (wkn (JK73 h) trivial)
      ·exact lp_back (L3 0 h) ⟨rfl, rfl, rfl, trivial⟩
   ·clear hK15
    simp only [go_sem, seval]
    refine lpJ 171 fuel (fun q1 w => ∀ (v16 : (List Int)) (v17 : (List Int)) (v18 : Int), ref14_May_l1 m K15 q1 v16 v17 v18 = some r → w [(1, .ptr 0 0), (4, .sl (some none) (List.map (AV.int .i64) v16)), (5, .sl (some none) (List.map (AV.int .i64) v17)), (6, .int .i64 v18)] [hR m]) (fun w _ _ _ h => nomatch h) (fun q1 ih1 v16 v17 v18 h => ?_) (fun L1 => ?_)
    ·unfold ref14_May_l1 at h
     refine rL ?_
     simp only [go_sem, seval]
     refine cS h (fun hb h => ?_) fun hb h => ?_
     ·simp only [go_sem, seval]
      refine bK ?_
      refine lAt_s enc_rNd none .i64 ⟨78, 5, true, 80⟩ (fun _ => rfl) h fun v21 _ b19 e20 h => ?_
      simp only [go_sem, seval, b19, e20]
      refine bsome h fun y22 hy22 h => ?_
      refine rgJ 171 10000 (.inl rfl) (fun w => w [(1, .ptr 0 0), (4, .sl (some none) (List.map (AV.int .i64) v16)), (5, .sl (some none) (List.map (AV.int .i64) v17)), (6, .int .i64 v18), (7, .ptr 1 0), (65, .bool y22)] [hR m, hN v21.K v21.S v21.N v21.L v21.Kids]) (runX 10000 ?_) (fun Jy22 => ?_)
      ·clear hy22
       simp only [go_sem, seval]
       refine cS h (fun hb h => ?_) fun hb h => ?_
       ·simp only [go_sem, seval]
        exact rS (fun x => .bool x) h
       ·simp only [go_sem, seval]
        refine letK_s h fun K27 hK27 h => ?_
        refine blkJ 171 10000 (fun w => ∀ (v52 : Int), K27 v52 = some r → w [(1, .ptr 0 0), (4, .sl (some none) (List.map (AV.int .i64) v16)), (5, .sl (some none) (List.map (AV.int .i64) v17)), (6, .int .i64 v18), (7, .ptr 1 0), (8, .int .i64 v52)] [hR m, hN v21.K v21.S v21.N v21.L v21.Kids]) (fun v52 h => runX 10000 ?_) (fun JK27 => ?_)
        ·subst hK27
         dsimp only at h
         simp only [go_sem, seval]
         refine cS h (fun hb h => ?_) fun hb h => ?_
         ·simp only [go_sem, seval]
          exact rS (fun x => .bool x) h
         ·refine add_s h fun v54 _ e53 h => ?_
          refine app_s (AV.int .i64) (some none) ⟨3, 1, false, 8⟩ (fun _ => rfl) (by decide) rfl h fun v57 _ (b55 : appc ⟨3, 1, false, 8⟩ (.sl (some none) (List.map (AV.int .i64) v17)) (.sl (some none) [.int .i64 v54])) (e56 : appv (.sl (some none) (List.map (AV.int .i64) v17)) (.sl (some none) [.int .i64 v54]) = .sl (some none) (List.map (AV.int .i64) v57)) h => ?_
          refine sub_s h fun v59 _ e58 h => ?_
          refine subL_s (AV.int .i64) none ⟨3, 1, false, 8⟩ (fun _ => rfl) none (some (.int .i64 v59)) rfl rfl h fun v62 _ b60 e61 h => ?_
          refine app_s (AV.int .i64) none ⟨3, 1, false, 8⟩ (fun _ => rfl) (by decide) rfl h fun v65 _ (b63 : appc ⟨3, 1, false, 8⟩ (.sl (some none) []) (.sl none (List.map (AV.int .i64) v62))) (e64 : appv (.sl (some none) []) (.sl none (List.map (AV.int .i64) v62)) = .sl (some none) (List.map (AV.int .i64) v65)) h => ?_
          refine app_s (AV.int .i64) (some none) ⟨3, 1, false, 8⟩ (fun _ => rfl) (by decide) rfl h fun v68 _ (b66 : appc ⟨3, 1, false, 8⟩ (.sl (some none) (List.map (AV.int .i64) v65)) (.sl (some none) [.int .i64 v18])) (e67 : appv (.sl (some none) (List.map (AV.int .i64) v65)) (.sl (some none) [.int .i64 v18]) = .sl (some none) (List.map (AV.int .i64) v68)) h => ?_
          refine add_s h fun v70 _ e69 h => ?_
          simp only [go_sem, seval, e53, b55, e56, e58, b60, e61, b63, e64, b66, e67, e69]
          exact lp_backH 1 (ih1 v68 v57 v70 h) ⟨rfl, rfl, rfl, rfl, trivial⟩ rfl rfl rfl (by first | rfl | simp only [go_sem, ltF]) (by first | rfl | simp only [go_sem, allLt])
        ·clear hK27
         simp only [go_sem, seval]
         refine lpJ 171 fuel (fun q2 w => ∀ (v28 : Int) (v29 : Int), ref14_May_l2 m v16 v17 v21 K27 q2 v28 v29 = some r → w [(1, .ptr 0 0), (4, .sl (some none) (List.map (AV.int .i64) v16)), (5, .sl (some none) (List.map (AV.int .i64) v17)), (6, .int .i64 v18), (7, .ptr 1 0), (8, .int .i64 v28), (9, .int .i64 v29)] [hR m, hN v21.K v21.S v21.N v21.L v21.Kids]) (fun w _ _ h => nomatch h) (fun q2 ih2 v28 v29 h => ?_) (fun L2 => ?_)
         ·unfold ref14_May_l2 at h
          refine rL ?_
          simp only [go_sem, seval]
          refine cS h (fun hb h => ?_) fun hb h => ?_
          ·simp only [go_sem, seval]
           refine bK ?_
           refine sub_s h fun v31 _ e30 h => ?_
           refine add_s h fun v33 _ e32 h => ?_
           refine lAt_s (AV.int .i64) none .i64 ⟨3, 1, false, 8⟩ (fun _ => rfl) h fun v36 _ b34 e35 h => ?_
           simp only [go_sem, seval, e30, e32, b34, e35]
           refine bsome h fun y37 hy37 h => ?_
           refine rgJ 171 10000 (.inr ⟨[], by kernel_rfl, by kernel_rfl, by rfl⟩) (fun w => w [(1, .ptr 0 0), (4, .sl (some none) (List.map (AV.int .i64) v16)), (5, .sl (some none) (List.map (AV.int .i64) v17)), (6, .int .i64 v18), (7, .ptr 1 0), (8, .int .i64 v28), (9, .int .i64 v29), (10, .int .i64 v36), (106, .bool y37)] [hR m, hN v21.K v21.S v21.N v21.L v21.Kids]) (runX 10000 ?_) (fun Jy37 => ?_)
           ·clear hy37
            simp only [go_sem, seval]
            refine cS h (fun hb h => ?_) fun hb h => ?_
            ·simp only [go_sem, seval]
             exact rS (fun x => .bool x) h
            ·refine lAt_s (AV.int .i64) none .i64 ⟨3, 1, false, 8⟩ (fun _ => rfl) h fun v49 _ b47 e48 h => ?_
             refine add_s h fun v51 _ e50 h => ?_
             simp only [go_sem, seval, b47, e48, (mxv_e .i64 v28 v49), e50]
             exact lp_back (ih2 (max v28 v49) v51 h) ⟨rfl, rfl, rfl, rfl, rfl, rfl, rfl, trivial⟩
           ·clear h
            have h := hy37
            refine lAt_s (AV.int .i64) none .i64 ⟨3, 1, false, 8⟩ (fun _ => rfl) h fun v41 _ b39 e40 h => ?_
            simp only [go_sem, seval, b39, e40]
            refine grd_ (fun hb42 => ?_) fun hb42 => ?_
            ·have h := ite_f hb42 h
             refine lAt_s enc_rNd none .i64 ⟨78, 5, true, 80⟩ (fun _ => rfl) h fun v45 _ b43 e44 h => ?_
             refine bsome h fun v46 hv46 h => ?_
             simp only [go_sem, seval, b43, e44]
             refine cX (w_ref14_stands hv46) ?_
             simp only [go_sem, seval]
             cases h
             exact atJ (wkn (Jy37) ⟨rfl, rfl, rfl, rfl, rfl, rfl, rfl, rfl, rfl, trivial⟩)
            ·have h := ite_t hb42 h
             simp only [go_sem, seval]
             cases h
             exact atJ (wkn (Jy37) ⟨rfl, rfl, rfl, rfl, rfl, rfl, rfl, rfl, rfl, trivial⟩)
          ·simp only [go_sem, seval]
           exact atJ (wkn (JK27 v28 h) ⟨rfl, rfl, rfl, rfl, rfl, rfl, trivial⟩)
         ·exact lp_back (L2 0 0 h) ⟨rfl, rfl, rfl, rfl, rfl, rfl, rfl, trivial⟩
      ·clear h
       have h := hy22
       refine bsome h fun v24 hv24 h => ?_
       simp only [go_sem, seval]
       refine cX (w_ref14_shape hv24) ?_
       simp only [go_sem, seval]
       refine grd_ (fun hb25 => ?_) fun hb25 => ?_
       ·have h := ite_f hb25 h
        simp only [go_sem, seval]
        cases h
        exact atJ (wkn (Jy22) ⟨rfl, rfl, rfl, rfl, rfl, rfl, trivial⟩)
       ·have h := ite_t hb25 h
        simp only [go_sem, seval]
        cases h
        exact atJ (wkn (Jy22) ⟨rfl, rfl, rfl, rfl, rfl, rfl, trivial⟩)
     ·simp only [go_sem, seval]
      exact atJ (wkn (JK15 v16 h) ⟨rfl, rfl, trivial⟩)
    ·exact lp_back (L1 [] [] 0 h) ⟨rfl, rfl, rfl, rfl, trivial⟩
 ·clear h
  have h := hy7
  refine bsome h fun v9 hv9 h => ?_
  simp only [go_sem, seval]
  refine cX (w_ref14_takes hv9) ?_
  simp only [go_sem, seval]
  refine grd_ (fun hb10 => ?_) fun hb10 => ?_
  ·have h := ite_f hb10 h
   refine bsome h fun v11 hv11 h => ?_
   simp only [go_sem, seval]
   refine cX (w_ref14_Vars hv11) ?_
   simp only [go_sem, seval]
   refine grd_ (fun hb12 => ?_) fun hb12 => ?_
   ·have h := ite_f hb12 h
    simp only [go_sem, seval]
    refine grd_ (fun hb13 => ?_) fun hb13 => ?_
    ·have h := ite_f hb13 h
     simp only [go_sem, seval]
     cases h
     exact atJ (wkn (Jy7) ⟨rfl, rfl, trivial⟩)
    ·have h := ite_t hb13 h
     simp only [go_sem, seval]
     cases h
     exact atJ (wkn (Jy7) ⟨rfl, rfl, trivial⟩)
   ·have h := ite_t hb12 h
    simp only [go_sem, seval]
    cases h
    exact atJ (wkn (Jy7) ⟨rfl, rfl, trivial⟩)
  ·have h := ite_t hb10 h
   simp only [go_sem, seval]
   cases h
   exact atJ (wkn (Jy7) ⟨rfl, rfl, trivial⟩)
theorem w_ref13_class {c : Int} {r : Int} (h : ref13_class c = some r) : ACall Tryz.prog 139 [.int .u8 c] [] (.int .u8 r) [] := by
 refine aX hf139 ok139 meek_int ?_
 dsimp only [Tryz.f139, nums, Option.getD, List.append]
 unfold ref13_class at h
 simp only [go_sem, seval]
 refine rgJ 62 10000 (.inl rfl) (fun w => w [(0, .int .u8 c), (16, .bool (((decide ((97 : Int) ≤ c)) && (decide (c ≤ 122))) || ((decide ((65 : Int) ≤ c)) && (decide (c ≤ 90)))))] []) (runX 10000 ?_) (fun Jg1 => ?_)
 ·simp only [go_sem, seval]
  refine cS h (fun hb h => ?_) fun hb h => ?_
  ·simp only [go_sem, seval]
   exact rS (fun x => .int .u8 x) h
  ·simp only [go_sem, seval]
   refine rgJ 62 10000 (.inl rfl) (fun w => w [(0, .int .u8 c), (22, .bool ((decide ((48 : Int) ≤ c)) && (decide (c ≤ 57))))] []) (runX 10000 ?_) (fun Jg2 => ?_)
   ·simp only [go_sem, seval]
    refine cS h (fun hb h => ?_) fun hb h => ?_
    ·simp only [go_sem, seval]
     exact rS (fun x => .int .u8 x) h
    ·simp only [go_sem, seval]
     refine rgJ 62 10000 (.inl rfl) (fun w => w [(0, .int .u8 c), (60, .bool ((((((((((decide (c = 43)) || (decide (c = 45))) || (decide (c = 42))) || (decide (c = 47))) || (decide (c = 92))) || (decide (c = 60))) || (decide (c = 62))) || (decide (c = 61))) || (decide (c = 126))) || (decide (c = 44))))] []) (runX 10000 ?_) (fun Jg3 => ?_)
     ·simp only [go_sem, seval]
      refine cS h (fun hb h => ?_) fun hb h => ?_
      ·simp only [go_sem, seval]
       exact rS (fun x => .int .u8 x) h
      ·simp only [go_sem, seval]
       exact rS (fun x => .int .u8 x) h
     ·simp only [go_sem, seval]
      refine grd_ (fun hb4 => ?_) fun hb4 => ?_
      ·simp only [go_sem, seval]
       refine grd_ (fun hb5 => ?_) fun hb5 => ?_
       ·simp only [go_sem, seval]
        refine grd_ (fun hb6 => ?_) fun hb6 => ?_
        ·simp only [go_sem, seval]
         refine grd_ (fun hb7 => ?_) fun hb7 => ?_
         ·simp only [go_sem, seval]
          refine grd_ (fun hb8 => ?_) fun hb8 => ?_
          ·simp only [go_sem, seval]
           refine grd_ (fun hb9 => ?_) fun hb9 => ?_
           ·simp only [go_sem, seval]
            refine grd_ (fun hb10 => ?_) fun hb10 => ?_
            ·simp only [go_sem, seval]
             refine grd_ (fun hb11 => ?_) fun hb11 => ?_
             ·simp only [go_sem, seval]
              refine grd_ (fun hb12 => ?_) fun hb12 => ?_
              ·simp only [go_sem, seval]
               exact atJ (wkn Jg3 ⟨rfl, congrArg AV.bool (by first | rfl | (rw [hb4, hb5, hb6, hb7, hb8, hb9, hb10, hb11, hb12]; rfl) | (simp [hb4, hb5, hb6, hb7, hb8, hb9, hb10, hb11, hb12]; done) | simp_all), trivial⟩)
              ·simp only [go_sem, seval]
               exact atJ (wkn Jg3 ⟨rfl, congrArg AV.bool (by first | rfl | (rw [hb4, hb5, hb6, hb7, hb8, hb9, hb10, hb11, hb12]; rfl) | (simp [hb4, hb5, hb6, hb7, hb8, hb9, hb10, hb11, hb12]; done) | simp_all), trivial⟩)
             ·simp only [go_sem, seval]
              exact atJ (wkn Jg3 ⟨rfl, congrArg AV.bool (by first | rfl | (rw [hb4, hb5, hb6, hb7, hb8, hb9, hb10, hb11]; rfl) | (simp [hb4, hb5, hb6, hb7, hb8, hb9, hb10, hb11]; done) | simp_all), trivial⟩)
            ·simp only [go_sem, seval]
             exact atJ (wkn Jg3 ⟨rfl, congrArg AV.bool (by first | rfl | (rw [hb4, hb5, hb6, hb7, hb8, hb9, hb10]; rfl) | (simp [hb4, hb5, hb6, hb7, hb8, hb9, hb10]; done) | simp_all), trivial⟩)
           ·simp only [go_sem, seval]
            exact atJ (wkn Jg3 ⟨rfl, congrArg AV.bool (by first | rfl | (rw [hb4, hb5, hb6, hb7, hb8, hb9]; rfl) | (simp [hb4, hb5, hb6, hb7, hb8, hb9]; done) | simp_all), trivial⟩)
          ·simp only [go_sem, seval]
           exact atJ (wkn Jg3 ⟨rfl, congrArg AV.bool (by first | rfl | (rw [hb4, hb5, hb6, hb7, hb8]; rfl) | (simp [hb4, hb5, hb6, hb7, hb8]; done) | simp_all), trivial⟩)
         ·simp only [go_sem, seval]
          exact atJ (wkn Jg3 ⟨rfl, congrArg AV.bool (by first | rfl | (rw [hb4, hb5, hb6, hb7]; rfl) | (simp [hb4, hb5, hb6, hb7]; done) | simp_all), trivial⟩)
        ·simp only [go_sem, seval]
         exact atJ (wkn Jg3 ⟨rfl, congrArg AV.bool (by first | rfl | (rw [hb4, hb5, hb6]; rfl) | (simp [hb4, hb5, hb6]; done) | simp_all), trivial⟩)
       ·simp only [go_sem, seval]
        exact atJ (wkn Jg3 ⟨rfl, congrArg AV.bool (by first | rfl | (rw [hb4, hb5]; rfl) | (simp [hb4, hb5]; done) | simp_all), trivial⟩)
      ·simp only [go_sem, seval]
       exact atJ (wkn Jg3 ⟨rfl, congrArg AV.bool (by first | rfl | (rw [hb4]; rfl) | (simp [hb4]; done) | simp_all), trivial⟩)
   ·simp only [go_sem, seval]
    refine grd_ (fun hb13 => ?_) fun hb13 => ?_
    ·simp only [go_sem, seval]
     exact atJ (wkn Jg2 ⟨rfl, congrArg AV.bool (by first | rfl | (rw [hb13]; rfl) | (simp [hb13]; done) | simp_all), trivial⟩)
    ·simp only [go_sem, seval]
     exact atJ (wkn Jg2 ⟨rfl, congrArg AV.bool (by first | rfl | (rw [hb13]; rfl) | (simp [hb13]; done) | simp_all), trivial⟩)
 ·simp only [go_sem, seval]
  refine grd_ (fun hb14 => ?_) fun hb14 => ?_
  ·simp only [go_sem, seval]
   refine grd_ (fun hb15 => ?_) fun hb15 => ?_
   ·simp only [go_sem, seval]
    refine grd_ (fun hb16 => ?_) fun hb16 => ?_
    ·simp only [go_sem, seval]
     exact atJ (wkn Jg1 ⟨rfl, congrArg AV.bool (by first | rfl | (rw [hb14, hb15, hb16]; rfl) | (simp [hb14, hb15, hb16]; done) | simp_all), trivial⟩)
    ·simp only [go_sem, seval]
     exact atJ (wkn Jg1 ⟨rfl, congrArg AV.bool (by first | rfl | (rw [hb14, hb15, hb16]; rfl) | (simp [hb14, hb15, hb16]; done) | simp_all), trivial⟩)
   ·simp only [go_sem, seval]
    exact atJ (wkn Jg1 ⟨rfl, congrArg AV.bool (by first | rfl | (rw [hb14, hb15]; rfl) | (simp [hb14, hb15]; done) | simp_all), trivial⟩)
  ·simp only [go_sem, seval]
   refine grd_ (fun hb17 => ?_) fun hb17 => ?_
   ·simp only [go_sem, seval]
    exact atJ (wkn Jg1 ⟨rfl, congrArg AV.bool (by first | rfl | (rw [hb14, hb17]; rfl) | (simp [hb14, hb17]; done) | simp_all), trivial⟩)
   ·simp only [go_sem, seval]
    exact atJ (wkn Jg1 ⟨rfl, congrArg AV.bool (by first | rfl | (rw [hb14, hb17]; rfl) | (simp [hb14, hb17]; done) | simp_all), trivial⟩)
theorem w_ref13_all {s : Str} {a : Int} {p2_b : Int} {r : Bool} (h : ref13_all s a p2_b = some r) : ACall Tryz.prog 165 [.str s, .int .u8 a, .int .u8 p2_b] [] (.bool r) [] := by
 refine aX hf165 ok165 meek_bool ?_
 dsimp only [Tryz.f165, nums, Option.getD, List.append]
 unfold ref13_all at h
 simp only [go_sem, seval]
 refine letK_s h fun K2 hK2 h => ?_
 refine blkJ 28 10000 (fun w => K2 () = some r → w [] []) (fun h => runX 10000 ?_) (fun JK2 => ?_)
 ·subst hK2
  dsimp only at h
  simp only [go_sem, seval]
  exact rS (fun x => .bool x) h
 ·clear hK2
  simp only [go_sem, seval]
  refine lpJ 28 fuel (fun q1 w => ∀ (v3 : Int), ref13_all_l1 s a p2_b K2 q1 v3 = some r → w [(0, .str s), (1, .int .u8 a), (2, .int .u8 p2_b), (7, .int .i64 v3)] []) (fun w _ h => nomatch h) (fun q1 ih1 v3 h => ?_) (fun L1 => ?_)
  ·unfold ref13_all_l1 at h
   refine rL ?_
   simp only [go_sem, seval]
   refine cS h (fun hb h => ?_) fun hb h => ?_
   ·simp only [go_sem, seval]
    refine bK ?_
    simp only [go_sem, seval]
    refine bsome h fun y4 hy4 h => ?_
    refine rgJ 28 10000 (.inl rfl) (fun w => w [(0, .str s), (1, .int .u8 a), (2, .int .u8 p2_b), (7, .int .i64 v3), (27, .bool y4)] []) (runX 10000 ?_) (fun Jy4 => ?_)
    ·clear hy4
     simp only [go_sem, seval]
     refine cS h (fun hb h => ?_) fun hb h => ?_
     ·simp only [go_sem, seval]
      exact rS (fun x => .bool x) h
     ·refine add_s h fun v14 _ e13 h => ?_
      simp only [go_sem, seval, e13]
      exact lp_back (ih1 v14 h) ⟨rfl, rfl, rfl, rfl, trivial⟩
    ·clear h
     have h := hy4
     refine sIdx_s .i64 h fun v8 _ b6 e7 h => ?_
     refine bsome h fun v9 hv9 h => ?_
     simp only [go_sem, seval, b6, e7]
     refine cX (w_ref13_class hv9) ?_
     simp only [go_sem, seval]
     refine grd_ (fun hb10 => ?_) fun hb10 => ?_
     ·have h := ite_t hb10 h
      simp only [go_sem, seval, b6, e7]
      refine cX (w_ref13_class hv9) ?_
      simp only [go_sem, seval]
      cases h
      exact atJ (wkn (Jy4) ⟨rfl, rfl, rfl, rfl, rfl, trivial⟩)
     ·have h := ite_f hb10 h
      simp only [go_sem, seval]
      cases h
      exact atJ (wkn (Jy4) ⟨rfl, rfl, rfl, rfl, rfl, trivial⟩)
   ·simp only [go_sem, seval]
    exact atJ (wkn (JK2 h) trivial)
  ·exact lp_back (L1 0 h) ⟨rfl, rfl, rfl, rfl, trivial⟩
theorem w_ref13_May {p0_w : rWd} {r : Bool} (h : ref13_May p0_w = some r) : ACall Tryz.prog 107 [eR3 p0_w] [] (.bool r) [] := by
 refine aX hf107 ok107 meek_bool ?_
 dsimp only [Tryz.f107, nums, Option.getD, List.append]
 unfold ref13_May at h
 simp only [go_sem, seval]
 refine rgJ 104 10000 (.inl rfl) (fun w => w [(1, .ptr 0 0), (10, .bool ((decide (p0_w.At < 0)) || (decide ((16 : Int) < p0_w.K))))] [some [.int .u8 p0_w.K, .str p0_w.S, .int .i64 p0_w.At]]) (runX 10000 ?_) (fun Jg1 => ?_)
 ·simp only [go_sem, seval]
  refine cS h (fun hb h => ?_) fun hb h => ?_
  ·simp only [go_sem, seval]
   exact rS (fun x => .bool x) h
  ·simp only [go_sem, seval]
   refine rgJ 104 10000 (.inl rfl) (fun w => w [(1, .ptr 0 0), (23, .bool (((decide (p0_w.K = 0)) || (decide (p0_w.K = 1))) || (decide (p0_w.K = 5))))] [some [.int .u8 p0_w.K, .str p0_w.S, .int .i64 p0_w.At]]) (runX 10000 ?_) (fun Jg2 => ?_)
   ·simp only [go_sem, seval]
    refine cS h (fun hb h => ?_) fun hb h => ?_
    ·simp only [go_sem, seval]
     refine bsome h fun y3 hy3 h => ?_
     refine rgJ 104 10000 (.inl rfl) (fun w => w [(2, .bool y3)] [some [.int .u8 p0_w.K, .str p0_w.S, .int .i64 p0_w.At]]) (runX 10000 ?_) (fun Jy3 => ?_)
     ·clear hy3
      simp only [go_sem, seval]
      exact rS (fun x => .bool x) h
     ·clear h
      have h := hy3
      simp only [go_sem, seval]
      refine grd_ (fun hb5 => ?_) fun hb5 => ?_
      ·have h := ite_t hb5 h
       simp only [go_sem, seval]
       refine grd_ (fun hb6 => ?_) fun hb6 => ?_
       ·have h := ite_t hb6 h
        refine bsome h fun v7 hv7 h => ?_
        simp only [go_sem, seval]
        refine cX (w_ref13_all hv7) ?_
        simp only [go_sem, seval]
        refine grd_ (fun hb8 => ?_) fun hb8 => ?_
        ·have h := ite_t hb8 h
         refine sIdx_s .i64 h fun v11 _ b9 e10 h => ?_
         refine bsome h fun v12 hv12 h => ?_
         simp only [go_sem, seval, b9, e10]
         refine cX (w_ref13_class hv12) ?_
         simp only [go_sem, seval]
         cases h
         exact atJ (wkn (Jy3) ⟨rfl, trivial⟩)
        ·have h := ite_f hb8 h
         simp only [go_sem, seval]
         cases h
         exact atJ (wkn (Jy3) ⟨rfl, trivial⟩)
       ·have h := ite_f hb6 h
        simp only [go_sem, seval]
        cases h
        exact atJ (wkn (Jy3) ⟨rfl, trivial⟩)
      ·have h := ite_f hb5 h
       simp only [go_sem, seval]
       cases h
       exact atJ (wkn (Jy3) ⟨rfl, trivial⟩)
    ·simp only [go_sem, seval]
     refine cS h (fun hb h => ?_) fun hb h => ?_
     ·simp only [go_sem, seval]
      refine bsome h fun y13 hy13 h => ?_
      refine rgJ 104 10000 (.inl rfl) (fun w => w [(2, .bool y13)] [some [.int .u8 p0_w.K, .str p0_w.S, .int .i64 p0_w.At]]) (runX 10000 ?_) (fun Jy13 => ?_)
      ·clear hy13
       simp only [go_sem, seval]
       exact rS (fun x => .bool x) h
      ·clear h
       have h := hy13
       simp only [go_sem, seval]
       refine grd_ (fun hb15 => ?_) fun hb15 => ?_
       ·have h := ite_t hb15 h
        simp only [go_sem, seval]
        refine grd_ (fun hb16 => ?_) fun hb16 => ?_
        ·have h := ite_t hb16 h
         refine bsome h fun v17 hv17 h => ?_
         simp only [go_sem, seval]
         refine cX (w_ref13_all hv17) ?_
         simp only [go_sem, seval]
         cases h
         exact atJ (wkn (Jy13) ⟨rfl, trivial⟩)
        ·have h := ite_f hb16 h
         simp only [go_sem, seval]
         cases h
         exact atJ (wkn (Jy13) ⟨rfl, trivial⟩)
       ·have h := ite_f hb15 h
        simp only [go_sem, seval]
        cases h
        exact atJ (wkn (Jy13) ⟨rfl, trivial⟩)
     ·simp only [go_sem, seval]
      refine cS h (fun hb h => ?_) fun hb h => ?_
      ·simp only [go_sem, seval]
       refine bsome h fun y18 hy18 h => ?_
       refine rgJ 104 10000 (.inl rfl) (fun w => w [(2, .bool y18)] [some [.int .u8 p0_w.K, .str p0_w.S, .int .i64 p0_w.At]]) (runX 10000 ?_) (fun Jy18 => ?_)
       ·clear hy18
        simp only [go_sem, seval]
        exact rS (fun x => .bool x) h
       ·clear h
        have h := hy18
        simp only [go_sem, seval]
        refine grd_ (fun hb20 => ?_) fun hb20 => ?_
        ·have h := ite_t hb20 h
         simp only [go_sem, seval]
         refine grd_ (fun hb21 => ?_) fun hb21 => ?_
         ·have h := ite_t hb21 h
          refine bsome h fun v22 hv22 h => ?_
          simp only [go_sem, seval]
          refine cX (w_ref13_all hv22) ?_
          simp only [go_sem, seval]
          refine grd_ (fun hb23 => ?_) fun hb23 => ?_
          ·have h := ite_t hb23 h
           simp only [go_sem, seval]
           refine grd_ (fun hb24 => ?_) fun hb24 => ?_
           ·have h := ite_f hb24 h
            refine sIdx_s .i64 h fun v27 _ b25 e26 h => ?_
            simp only [go_sem, seval, b25, e26]
            cases h
            exact atJ (wkn (Jy18) ⟨rfl, trivial⟩)
           ·have h := ite_t hb24 h
            simp only [go_sem, seval]
            cases h
            exact atJ (wkn (Jy18) ⟨rfl, trivial⟩)
          ·have h := ite_f hb23 h
           simp only [go_sem, seval]
           cases h
           exact atJ (wkn (Jy18) ⟨rfl, trivial⟩)
         ·have h := ite_f hb21 h
          simp only [go_sem, seval]
          cases h
          exact atJ (wkn (Jy18) ⟨rfl, trivial⟩)
        ·have h := ite_f hb20 h
         simp only [go_sem, seval]
         cases h
         exact atJ (wkn (Jy18) ⟨rfl, trivial⟩)
      ·simp only [go_sem, seval]
       refine cS h (fun hb h => ?_) fun hb h => ?_
       ·simp only [go_sem, seval]
        exact rS (fun x => .bool x) h
       ·simp only [go_sem, seval]
        exact rS (fun x => .bool x) h
   ·simp only [go_sem, seval]
    refine grd_ (fun hb28 => ?_) fun hb28 => ?_
    ·simp only [go_sem, seval]
     refine grd_ (fun hb29 => ?_) fun hb29 => ?_
     ·simp only [go_sem, seval]
      exact atJ (wkn Jg2 ⟨rfl, congrArg AV.bool (by first | rfl | (rw [hb28, hb29]; rfl) | (simp [hb28, hb29]; done) | simp_all), trivial⟩)
     ·simp only [go_sem, seval]
      exact atJ (wkn Jg2 ⟨rfl, congrArg AV.bool (by first | rfl | (rw [hb28, hb29]; rfl) | (simp [hb28, hb29]; done) | simp_all), trivial⟩)
    ·simp only [go_sem, seval]
     exact atJ (wkn Jg2 ⟨rfl, congrArg AV.bool (by first | rfl | (rw [hb28]; rfl) | (simp [hb28]; done) | simp_all), trivial⟩)
 ·simp only [go_sem, seval]
  refine grd_ (fun hb30 => ?_) fun hb30 => ?_
  ·simp only [go_sem, seval]
   exact atJ (wkn Jg1 ⟨rfl, congrArg AV.bool (by first | rfl | (rw [hb30]; rfl) | (simp [hb30]; done) | simp_all), trivial⟩)
  ·simp only [go_sem, seval]
   exact atJ (wkn Jg1 ⟨rfl, congrArg AV.bool (by first | rfl | (rw [hb30]; rfl) | (simp [hb30]; done) | simp_all), trivial⟩)
theorem w_ref13_Mark {k : Int} {r : Int} (h : ref13_Mark k = some r) : ACall Tryz.prog 141 [.int .i64 k] [] (.int .u8 r) [] := by
 refine aX hf141 ok141 meek_int ?_
 dsimp only [Tryz.f141, nums, Option.getD, List.append]
 unfold ref13_Mark at h
 refine sub_s h fun v2 _ e1 h => ?_
 refine lAt_s (AV.int .u8) none .i64 ⟨5, 1, false, 1⟩ (fun _ => rfl) h fun v5 _ (b3 : iadC ⟨5, 1, false, 1⟩ (.sl none [.int .u8 94, .int .u8 59, .int .u8 46, .int .u8 40, .int .u8 41, .int .u8 91, .int .u8 93, .int .u8 124, .int .u8 123, .int .u8 125]) (.int .i64 v2)) (e4 : iadV (.sl none [.int .u8 94, .int .u8 59, .int .u8 46, .int .u8 40, .int .u8 41, .int .u8 91, .int .u8 93, .int .u8 124, .int .u8 123, .int .u8 125]) (.int .i64 v2) = .ip ((AV.int .u8) v5).cells) h => ?_
 simp only [go_sem, seval, e1, b3, e4]
 exact rS (fun x => .int .u8 x) h
theorem w_ref13_One {p0_w : rWd} {r : (List Int)} (h : ref13_One p0_w = some r) : ACall Tryz.prog 108 [eR3 p0_w] [] (.sl none (List.map (AV.int .u8) r)) [] := by
 refine aX hf108 ok108 meek_sl ?_
 dsimp only [Tryz.f108, nums, Option.getD, List.append]
 unfold ref13_One at h
 simp only [go_sem, seval]
 refine cS h (fun hb h => ?_) fun hb h => ?_
 ·refine bytesO_s h fun v3 b1 e2 h => ?_
  refine app_s (AV.int .u8) (some none) ⟨5, 1, false, 1⟩ (fun _ => rfl) (by decide) rfl h fun v6 _ (b4 : appc ⟨5, 1, false, 1⟩ (.sl (some none) (List.map (AV.int .u8) v3)) (.sl (some none) [.int .u8 58])) (e5 : appv (.sl (some none) (List.map (AV.int .u8) v3)) (.sl (some none) [.int .u8 58]) = .sl (some none) (List.map (AV.int .u8) v6)) h => ?_
  simp only [go_sem, seval, (bytes_e (P := Tryz.prog) (s := 9) (d := 148) (by rw [kd148]; rfl) (by rw [kd148]; rfl) p0_w.S), b1, e2, ne_eq, not_false_eq_true, b4, e5]
  exact rS (fun x => .sl none (List.map (AV.int .u8) x)) h
 ·simp only [go_sem, seval]
  refine cS h (fun hb h => ?_) fun hb h => ?_
  ·refine app_s (AV.int .u8) none ⟨5, 1, false, 1⟩ (fun _ => rfl) (by decide) rfl h fun v9 _ (b7 : appc ⟨5, 1, false, 1⟩ (.sl (some none) [.int .u8 58]) (.sl none (List.map (AV.int .u8) (toInts p0_w.S)))) (e8 : appv (.sl (some none) [.int .u8 58]) (.sl none (List.map (AV.int .u8) (toInts p0_w.S))) = .sl (some none) (List.map (AV.int .u8) v9)) h => ?_
   simp only [go_sem, seval, (bytes_e (P := Tryz.prog) (s := 9) (d := 148) (by rw [kd148]; rfl) (by rw [kd148]; rfl) p0_w.S), b7, e8]
   exact rS (fun x => .sl none (List.map (AV.int .u8) x)) h
  ·simp only [go_sem, seval]
   refine cS h (fun hb h => ?_) fun hb h => ?_
   ·simp only [go_sem, seval]
    exact rS (fun x => .sl none (List.map (AV.int .u8) x)) h
   ·simp only [go_sem, seval]
    refine cS h (fun hb h => ?_) fun hb h => ?_
    ·refine cvt_s (s := 5) (k := .u8) io3 h fun v11 _ e10 h => ?_
     refine bsome h fun v12 hv12 h => ?_
     simp only [go_sem, seval, e10]
     refine cX (w_ref13_Mark hv12) ?_
     simp only [go_sem, seval]
     exact rS (fun x => .sl none (List.map (AV.int .u8) x)) h
    ·simp only [go_sem, seval]
     refine cS h (fun hb h => ?_) fun hb h => ?_
     ·simp only [go_sem, seval]
      refine bsome h fun y13 hy13 h => ?_
      refine blkJ 65 10000 (fun w => w [(3, .sl (some none) (List.map (AV.int .u8) y13))] [some [.int .u8 p0_w.K, .str p0_w.S, .int .i64 p0_w.At]]) (runX 10000 ?_) (fun Jy13 => ?_)
      ·clear hy13
       refine app_s (AV.int .u8) (some none) ⟨5, 1, false, 1⟩ (fun _ => rfl) (by decide) rfl h fun v34 _ (b32 : appc ⟨5, 1, false, 1⟩ (.sl (some none) (List.map (AV.int .u8) y13)) (.sl (some none) [.int .u8 39])) (e33 : appv (.sl (some none) (List.map (AV.int .u8) y13)) (.sl (some none) [.int .u8 39]) = .sl (some none) (List.map (AV.int .u8) v34)) h => ?_
       simp only [go_sem, seval, b32, e33]
       exact rS (fun x => .sl none (List.map (AV.int .u8) x)) h
      ·clear h
       have h := hy13
       simp only [go_sem, seval]
       refine lpJ 65 fuel (fun q1 w => ∀ (v15 : (List Int)) (v16 : Int), ref13_One_l1 p0_w q1 v15 v16 = some y13 → w [(1, .ptr 0 0), (3, .sl (some none) (List.map (AV.int .u8) v15)), (4, .int .i64 v16)] [some [.int .u8 p0_w.K, .str p0_w.S, .int .i64 p0_w.At]]) (fun w _ _ h => nomatch h) (fun q1 ih1 v15 v16 h => ?_) (fun L1 => ?_)
       ·unfold ref13_One_l1 at h
        refine rL ?_
        simp only [go_sem, seval]
        refine cS h (fun hb h => ?_) fun hb h => ?_
        ·simp only [go_sem, seval]
         refine bK ?_
         refine sIdx_s .i64 h fun v19 _ b17 e18 h => ?_
         refine app_s (AV.int .u8) (some none) ⟨5, 1, false, 1⟩ (fun _ => rfl) (by decide) rfl h fun v22 _ (b20 : appc ⟨5, 1, false, 1⟩ (.sl (some none) (List.map (AV.int .u8) v15)) (.sl (some none) [.int .u8 v19])) (e21 : appv (.sl (some none) (List.map (AV.int .u8) v15)) (.sl (some none) [.int .u8 v19]) = .sl (some none) (List.map (AV.int .u8) v22)) h => ?_
         simp only [go_sem, seval, b17, e18, b20, e21]
         refine bsome h fun y25 hy25 h => ?_
         refine cndJ 65 10000 (fun w => w [(1, .ptr 0 0), (3, .sl (some none) (List.map (AV.int .u8) y25)), (4, .int .i64 v16)] [some [.int .u8 p0_w.K, .str p0_w.S, .int .i64 p0_w.At]]) (runX 10000 ?_) (fun Jy25 => ?_)
         ·clear hy25
          refine add_s h fun v31 _ e30 h => ?_
          simp only [go_sem, seval, e30]
          exact lp_back (ih1 y25 v31 h) ⟨rfl, rfl, rfl, trivial⟩
         ·clear h
          have h := hy25
          refine cS h (fun hb h => ?_) fun hb h => ?_
          ·refine app_s (AV.int .u8) (some none) ⟨5, 1, false, 1⟩ (fun _ => rfl) (by decide) rfl h fun v29 _ (b27 : appc ⟨5, 1, false, 1⟩ (.sl (some none) (List.map (AV.int .u8) v22)) (.sl (some none) [.int .u8 39])) (e28 : appv (.sl (some none) (List.map (AV.int .u8) v22)) (.sl (some none) [.int .u8 39]) = .sl (some none) (List.map (AV.int .u8) v29)) h => ?_
           simp only [go_sem, seval, b27, e28]
           cases h
           exact atJ (wkn (Jy25) ⟨rfl, rfl, rfl, trivial⟩)
          ·simp only [go_sem, seval]
           cases h
           exact atJ (wkn (Jy25) ⟨rfl, rfl, rfl, trivial⟩)
        ·simp only [go_sem, seval]
         cases h
         exact atJ (wkn (Jy13) ⟨rfl, trivial⟩)
       ·exact lp_back (L1 ([39] : List Int) 0 h) ⟨rfl, rfl, rfl, trivial⟩
     ·simp only [go_sem, seval, (bytes_e (P := Tryz.prog) (s := 9) (d := 148) (by rw [kd148]; rfl) (by rw [kd148]; rfl) p0_w.S)]
      exact rS (fun x => .sl none (List.map (AV.int .u8) x)) h
theorem w_ref13_Text {l : (List rWd)} {r : (Str × Int)} (h : ref13_Text l = some r) : ACall Tryz.prog 54 [.sl none (List.map eR3 l)] [] (.tup [.str r.1, .int .i64 r.2]) [] := by
 refine aX hf54 ok54 meek_tup ?_
 dsimp only [Tryz.f54, nums, Option.getD, List.append]
 unfold ref13_Text at h
 simp only [go_sem, seval]
 refine letK_s h fun K2 hK2 h => ?_
 refine blkJ 47 10000 (fun w => K2 () = some r → w [(0, .sl none (List.map eR3 l))] []) (fun h => runX 10000 ?_) (fun JK2 => ?_)
 ·subst hK2
  dsimp only at h
  simp only [go_sem, seval]
  refine bsome h fun y10 hy10 h => ?_
  refine blkJ 47 10000 (fun w => w [(5, .sl (some none) (List.map (AV.int .u8) y10))] []) (runX 10000 ?_) (fun Jy10 => ?_)
  ·clear hy10
   simp only [go_sem, seval]
   refine cS h (fun hb h => ?_) fun hb h => ?_
   ·simp only [go_sem, seval]
    refine ret_s (fun x => .tup [.str x.1, .int .i64 x.2]) h ?_
    first | rfl | simp only [go_sem, resAV, resAll, resOne, seval]
   ·simp only [go_sem, seval, (text_e (P := Tryz.prog) (s := 148) (d := 9) (by rw [kd9]; rfl) none y10), (isBytes_e y10)]
    refine ret_s (fun x => .tup [.str x.1, .int .i64 x.2]) h ?_
    first | rfl | simp only [go_sem, resAV, resAll, resOne, seval]
  ·clear h
   have h := hy10
   simp only [go_sem, seval]
   refine lpJ 47 fuel (fun q2 w => ∀ (v12 : (List Int)) (v13 : Int), ref13_Text_l2 l q2 v12 v13 = some y10 → w [(0, .sl none (List.map eR3 l)), (5, .sl (some none) (List.map (AV.int .u8) v12)), (6, .int .i64 v13)] []) (fun w _ _ h => nomatch h) (fun q2 ih2 v12 v13 h => ?_) (fun L2 => ?_)
   ·unfold ref13_Text_l2 at h
    refine rL ?_
    simp only [go_sem, seval]
    refine rgJ 47 10000 (.inl rfl) (fun w => w [(0, .sl none (List.map eR3 l)), (5, .sl (some none) (List.map (AV.int .u8) v12)), (6, .int .i64 v13), (27, .bool ((decide (v13 < (l.length : Int))) && (decide ((v12.length : Int) ≤ 65536))))] []) (runX 10000 ?_) (fun Jg14 => ?_)
    ·simp only [go_sem, seval]
     refine cS h (fun hb h => ?_) fun hb h => ?_
     ·simp only [go_sem, seval]
      refine bK ?_
      simp only [go_sem, seval]
      refine bsome h fun y15 hy15 h => ?_
      refine cndJ 47 10000 (fun w => w [(0, .sl none (List.map eR3 l)), (5, .sl (some none) (List.map (AV.int .u8) y15)), (6, .int .i64 v13)] []) (runX 10000 ?_) (fun Jy15 => ?_)
      ·clear hy15
       refine lAt_s eR3 none .i64 ⟨96, 3, true, 32⟩ (fun _ => rfl) h fun v22 _ b20 e21 h => ?_
       refine bsome h fun v23 hv23 h => ?_
       simp only [go_sem, seval, b20, e21]
       refine cX (w_ref13_One hv23) ?_
       refine app_s (AV.int .u8) none ⟨5, 1, false, 1⟩ (fun _ => rfl) (by decide) rfl h fun v26 _ b24 e25 h => ?_
       refine add_s h fun v28 _ e27 h => ?_
       simp only [go_sem, seval, b24, e25, e27]
       exact lp_back (ih2 v26 v28 h) ⟨rfl, rfl, rfl, trivial⟩
      ·clear h
       have h := hy15
       refine cS h (fun hb h => ?_) fun hb h => ?_
       ·refine app_s (AV.int .u8) (some none) ⟨5, 1, false, 1⟩ (fun _ => rfl) (by decide) rfl h fun v19 _ (b17 : appc ⟨5, 1, false, 1⟩ (.sl (some none) (List.map (AV.int .u8) v12)) (.sl (some none) [.int .u8 32])) (e18 : appv (.sl (some none) (List.map (AV.int .u8) v12)) (.sl (some none) [.int .u8 32]) = .sl (some none) (List.map (AV.int .u8) v19)) h => ?_
        simp only [go_sem, seval, b17, e18]
        cases h
        exact atJ (wkn (Jy15) ⟨rfl, rfl, rfl, trivial⟩)
       ·simp only [go_sem, seval]
        cases h
        exact atJ (wkn (Jy15) ⟨rfl, rfl, rfl, trivial⟩)
     ·simp only [go_sem, seval]
      cases h
      exact atJ (wkn (Jy10) ⟨rfl, trivial⟩)
    ·simp only [go_sem, seval]
     refine grd_ (fun hb29 => ?_) fun hb29 => ?_
     ·simp only [go_sem, seval]
      exact atJ (wkn Jg14 ⟨rfl, rfl, rfl, congrArg AV.bool (by first | rfl | (rw [hb29]; rfl) | (simp [hb29]; done) | simp_all), trivial⟩)
     ·simp only [go_sem, seval]
      exact atJ (wkn Jg14 ⟨rfl, rfl, rfl, congrArg AV.bool (by first | rfl | (rw [hb29]; rfl) | (simp [hb29]; done) | simp_all), trivial⟩)
   ·exact lp_back (L2 [] 0 h) ⟨rfl, rfl, rfl, trivial⟩
 ·clear hK2
  simp only [go_sem, seval]
  refine lpJ 47 fuel (fun q1 w => ∀ (v3 : Int), ref13_Text_l1 l K2 q1 v3 = some r → w [(0, .sl none (List.map eR3 l)), (4, .int .i64 v3)] []) (fun w _ h => nomatch h) (fun q1 ih1 v3 h => ?_) (fun L1 => ?_)
  ·unfold ref13_Text_l1 at h
   refine rL ?_
   simp only [go_sem, seval]
   refine cS h (fun hb h => ?_) fun hb h => ?_
   ·simp only [go_sem, seval]
    refine bK ?_
    refine lAt_s eR3 none .i64 ⟨96, 3, true, 32⟩ (fun _ => rfl) h fun v6 _ b4 e5 h => ?_
    refine bsome h fun v7 hv7 h => ?_
    simp only [go_sem, seval, b4, e5]
    refine cX (w_ref13_May hv7) ?_
    simp only [go_sem, seval]
    refine cS h (fun hb h => ?_) fun hb h => ?_
    ·simp only [go_sem, seval]
     refine ret_s (fun x => .tup [.str x.1, .int .i64 x.2]) h ?_
     first | rfl | simp only [go_sem, resAV, resAll, resOne, seval]
    ·refine add_s h fun v9 _ e8 h => ?_
     simp only [go_sem, seval, e8]
     exact lp_back (ih1 v9 h) ⟨rfl, rfl, trivial⟩
   ·simp only [go_sem, seval]
    exact atJ (wkn (JK2 h) ⟨rfl, trivial⟩)
  ·exact lp_back (L1 0 h) ⟨rfl, rfl, trivial⟩
theorem w_ref16_w {k : Int} {s : Str} {r : rWd} (h : ref16_w k s = some r) : ACall Tryz.prog 61 [.int .u8 k, .str s] [] (eR3 r) [] := by
 refine aX hf61 ok61 meek_agg ?_
 dsimp only [Tryz.f61, nums, Option.getD, List.append]
 unfold ref16_w at h
 simp only [go_sem, seval]
 exact rS (fun x => eR3 x) h
theorem w_ref16_vars {l : (List Str)} {r : (List rWd)} (h : ref16_vars l = some r) : ACall Tryz.prog 62 [.sl none (List.map AV.str l)] [] (.sl none (List.map eR3 r)) [] := by
 refine aX hf62 ok62 meek_sl ?_
 dsimp only [Tryz.f62, nums, Option.getD, List.append]
 unfold ref16_vars at h
 simp only [go_sem, seval]
 refine bsome h fun y1 hy1 h => ?_
 refine blkJ 30 10000 (fun w => w [(0, .sl none (List.map AV.str l)), (3, .sl (some none) (List.map eR3 y1))] []) (runX 10000 ?_) (fun Jy1 => ?_)
 ·clear hy1
  simp only [go_sem, seval]
  refine bsome h fun y14 hy14 h => ?_
  refine cndJ 30 10000 (fun w => w [(3, .sl (some none) (List.map eR3 y14))] []) (runX 10000 ?_) (fun Jy14 => ?_)
  ·clear hy14
   simp only [go_sem, seval]
   exact rS (fun x => .sl none (List.map eR3 x)) h
  ·clear h
   have h := hy14
   refine cS h (fun hb h => ?_) fun hb h => ?_
   ·refine bsome h fun v16 hv16 h => ?_
    simp only [go_sem, seval]
    refine cX (w_ref16_w hv16) ?_
    refine app_s eR3 none ⟨96, 3, true, 32⟩ (fun _ => rfl) (by decide) rfl h fun v19 _ (b17 : appc ⟨96, 3, true, 32⟩ (.sl (some none) [.agg [.int .u8 v16.K, .str v16.S, .int .i64 v16.At]]) (.sl none (List.map eR3 y1))) (e18 : appv (.sl (some none) [.agg [.int .u8 v16.K, .str v16.S, .int .i64 v16.At]]) (.sl none (List.map eR3 y1)) = .sl (some none) (List.map eR3 v19)) h => ?_
    simp only [go_sem, seval, b17, e18]
    refine cX (w_ref16_w hv16) ?_
    refine app_s eR3 (some none) ⟨96, 3, true, 32⟩ (fun _ => rfl) (by decide) rfl h fun v22 _ (b20 : appc ⟨96, 3, true, 32⟩ (.sl (some none) (List.map eR3 v19)) (.sl (some none) [.agg [.int .u8 v16.K, .str v16.S, .int .i64 v16.At]])) (e21 : appv (.sl (some none) (List.map eR3 v19)) (.sl (some none) [.agg [.int .u8 v16.K, .str v16.S, .int .i64 v16.At]]) = .sl (some none) (List.map eR3 v22)) h => ?_
    simp only [go_sem, seval, b20, e21]
    cases h
    exact atJ (wkn (Jy14) ⟨rfl, trivial⟩)
   ·simp only [go_sem, seval]
    cases h
    exact atJ (wkn (Jy14) ⟨rfl, trivial⟩)
 ·clear h
  have h := hy1
  simp only [go_sem, seval]
  refine lpJ 30 fuel (fun q1 w => ∀ (v3 : (List rWd)) (v4 : Int), ref16_vars_l1 l q1 v3 v4 = some y1 → w [(0, .sl none (List.map AV.str l)), (3, .sl (some none) (List.map eR3 v3)), (4, .int .i64 v4)] []) (fun w _ _ h => nomatch h) (fun q1 ih1 v3 v4 h => ?_) (fun L1 => ?_)
  ·unfold ref16_vars_l1 at h
   refine rL ?_
   simp only [go_sem, seval]
   refine cS h (fun hb h => ?_) fun hb h => ?_
   ·simp only [go_sem, seval]
    refine bK ?_
    refine lAt_s AV.str none .i64 ⟨9, 1, false, 16⟩ (fun _ => rfl) h fun v7 _ b5 e6 h => ?_
    refine bsome h fun v8 hv8 h => ?_
    simp only [go_sem, seval, b5, e6]
    refine cX (w_ref16_w hv8) ?_
    refine app_s eR3 (some none) ⟨96, 3, true, 32⟩ (fun _ => rfl) (by decide) rfl h fun v11 _ (b9 : appc ⟨96, 3, true, 32⟩ (.sl (some none) (List.map eR3 v3)) (.sl (some none) [.agg [.int .u8 v8.K, .str v8.S, .int .i64 v8.At]])) (e10 : appv (.sl (some none) (List.map eR3 v3)) (.sl (some none) [.agg [.int .u8 v8.K, .str v8.S, .int .i64 v8.At]]) = .sl (some none) (List.map eR3 v11)) h => ?_
    refine add_s h fun v13 _ e12 h => ?_
    simp only [go_sem, seval, b9, e10, e12]
    exact lp_back (ih1 v11 v13 h) ⟨rfl, rfl, rfl, trivial⟩
   ·simp only [go_sem, seval]
    cases h
    exact atJ (wkn (Jy1) ⟨rfl, rfl, trivial⟩)
  ·exact lp_back (L1 [] 0 h) ⟨rfl, rfl, rfl, trivial⟩
theorem w_ref16_stmts {of : (List (List rWd))} {l : (List Int)} {r : (List rWd)} (h : ref16_stmts of l = some r) : ACall Tryz.prog 111 [.sl none (List.map eLR of), .sl none (List.map (AV.int .i64) l)] [] (.sl none (List.map eR3 r)) [] := by
 refine aX hf111 ok111 meek_sl ?_
 dsimp only [Tryz.f111, nums, Option.getD, List.append]
 unfold ref16_stmts at h
 simp only [go_sem, seval]
 refine bsome h fun y1 hy1 h => ?_
 refine blkJ 29 10000 (fun w => w [(5, .sl (some none) (List.map eR3 y1))] []) (runX 10000 ?_) (fun Jy1 => ?_)
 ·clear hy1
  simp only [go_sem, seval]
  exact rS (fun x => .sl none (List.map eR3 x)) h
 ·clear h
  have h := hy1
  simp only [go_sem, seval]
  refine lpJ 29 fuel (fun q1 w => ∀ (v3 : (List rWd)) (v4 : Int), ref16_stmts_l1 of l q1 v3 v4 = some y1 → w [(0, .sl none (List.map eLR of)), (1, .sl none (List.map (AV.int .i64) l)), (5, .sl (some none) (List.map eR3 v3)), (6, .int .i64 v4)] []) (fun w _ _ h => nomatch h) (fun q1 ih1 v3 v4 h => ?_) (fun L1 => ?_)
  ·unfold ref16_stmts_l1 at h
   refine rL ?_
   simp only [go_sem, seval]
   refine cS h (fun hb h => ?_) fun hb h => ?_
   ·simp only [go_sem, seval]
    refine bK ?_
    simp only [go_sem, seval]
    refine bsome h fun y5 hy5 h => ?_
    refine cndJ 29 10000 (fun w => w [(0, .sl none (List.map eLR of)), (1, .sl none (List.map (AV.int .i64) l)), (5, .sl (some none) (List.map eR3 y5)), (6, .int .i64 v4)] []) (runX 10000 ?_) (fun Jy5 => ?_)
    ·clear hy5
     refine lAt_s (AV.int .i64) none .i64 ⟨3, 1, false, 8⟩ (fun _ => rfl) h fun v13 _ b11 e12 h => ?_
     refine lAt_s eLR none .i64 ⟨84, 1, false, 24⟩ (fun _ => rfl) h fun v16 _ b14 e15 h => ?_
     refine app_s eR3 none ⟨96, 3, true, 32⟩ (fun _ => rfl) (by decide) rfl h fun v19 _ b17 e18 h => ?_
     refine add_s h fun v21 _ e20 h => ?_
     simp only [go_sem, seval, b11, e12, b14, e15, b17, e18, e20]
     exact lp_back (ih1 v19 v21 h) ⟨rfl, rfl, rfl, rfl, trivial⟩
    ·clear h
     have h := hy5
     refine cS h (fun hb h => ?_) fun hb h => ?_
     ·refine bsome h fun v7 hv7 h => ?_
      simp only [go_sem, seval]
      refine cX (w_ref16_w hv7) ?_
      refine app_s eR3 (some none) ⟨96, 3, true, 32⟩ (fun _ => rfl) (by decide) rfl h fun v10 _ (b8 : appc ⟨96, 3, true, 32⟩ (.sl (some none) (List.map eR3 v3)) (.sl (some none) [.agg [.int .u8 v7.K, .str v7.S, .int .i64 v7.At]])) (e9 : appv (.sl (some none) (List.map eR3 v3)) (.sl (some none) [.agg [.int .u8 v7.K, .str v7.S, .int .i64 v7.At]]) = .sl (some none) (List.map eR3 v10)) h => ?_
      simp only [go_sem, seval, b8, e9]
      cases h
      exact atJ (wkn (Jy5) ⟨rfl, rfl, rfl, rfl, trivial⟩)
     ·simp only [go_sem, seval]
      cases h
      exact atJ (wkn (Jy5) ⟨rfl, rfl, rfl, rfl, trivial⟩)
   ·simp only [go_sem, seval]
    cases h
    exact atJ (wkn (Jy1) ⟨rfl, trivial⟩)
  ·exact lp_back (L1 [] 0 h) ⟨rfl, rfl, rfl, rfl, trivial⟩
theorem w_ref16_Rank {sel : Str} {r : Int} (h : ref16_Rank sel = some r) : ACall Tryz.prog 168 [.str sel] [] (.int .i64 r) [] := by
 refine aX hf168 ok168 meek_int ?_
 dsimp only [Tryz.f168, nums, Option.getD, List.append]
 unfold ref16_Rank at h
 refine bsome h fun v1 hv1 h => ?_
 simp only [go_sem, seval]
 refine cX (w_ref09_Arity hv1) ?_
 simp only [go_sem, seval]
 refine cS h (fun hb h => ?_) fun hb h => ?_
 ·simp only [go_sem, seval]
  exact rS (fun x => .int .i64 x) h
 ·refine sub_s h fun v3 _ e2 h => ?_
  refine sIdx_s .i64 h fun v6 _ b4 e5 h => ?_
  simp only [go_sem, seval, e2, b4, e5]
  refine cS h (fun hb h => ?_) fun hb h => ?_
  ·simp only [go_sem, seval]
   exact rS (fun x => .int .i64 x) h
  ·simp only [go_sem, seval]
   exact rS (fun x => .int .i64 x) h
theorem w_ref16_keys {sel : Str} {r : (List Str)} (h : ref16_keys sel = some r) : ACall Tryz.prog 169 [.str sel] [] (.sl none (List.map AV.str r)) [] := by
 refine aX hf169 ok169 meek_sl ?_
 dsimp only [Tryz.f169, nums, Option.getD, List.append]
 unfold ref16_keys at h
 simp only [go_sem, seval]
 refine bsome h fun y1 hy1 h => ?_
 refine blkJ 26 10000 (fun w => w [(3, .sl (some none) (List.map AV.str y1))] []) (runX 10000 ?_) (fun Jy1 => ?_)
 ·clear hy1
  simp only [go_sem, seval]
  exact rS (fun x => .sl none (List.map AV.str x)) h
 ·clear h
  have h := hy1
  simp only [go_sem, seval]
  refine lpJ 26 fuel (fun q1 w => ∀ (v3 : (List Str)) (v4 : Int) (v5 : Int), ref16_keys_l1 sel q1 v3 v4 v5 = some y1 → w [(0, .str sel), (3, .sl (some none) (List.map AV.str v3)), (4, .int .i64 v4), (5, .int .i64 v5)] []) (fun w _ _ _ h => nomatch h) (fun q1 ih1 v3 v4 v5 h => ?_) (fun L1 => ?_)
  ·unfold ref16_keys_l1 at h
   refine rL ?_
   simp only [go_sem, seval]
   refine cS h (fun hb h => ?_) fun hb h => ?_
   ·simp only [go_sem, seval]
    refine bK ?_
    refine sIdx_s .i64 h fun v8 _ b6 e7 h => ?_
    simp only [go_sem, seval, b6, e7]
    refine bsome h fun y9 hy9 h => ?_
    refine cndJ 26 10000 (fun w => w [(0, .str sel), (3, .sl (some none) (List.map AV.str y9.1)), (4, .int .i64 y9.2), (5, .int .i64 v5)] []) (runX 10000 ?_) (fun Jy9 => ?_)
    ·clear hy9
     refine add_s h fun v20 _ e19 h => ?_
     simp only [go_sem, seval, e19]
     exact lp_back (ih1 y9.1 y9.2 v20 h) ⟨rfl, rfl, rfl, rfl, trivial⟩
    ·clear h
     have h := hy9
     refine cS h (fun hb h => ?_) fun hb h => ?_
     ·refine subS_s (some (.int .i64 v4)) (some (.int .i64 v5)) rfl rfl h fun v13 _ b11 e12 h => ?_
      refine app_s AV.str (some none) ⟨9, 1, false, 16⟩ (fun _ => rfl) (by decide) rfl h fun v16 _ (b14 : appc ⟨9, 1, false, 16⟩ (.sl (some none) (List.map AV.str v3)) (.sl (some none) [.str v13])) (e15 : appv (.sl (some none) (List.map AV.str v3)) (.sl (some none) [.str v13]) = .sl (some none) (List.map AV.str v16)) h => ?_
      refine add_s h fun v18 _ e17 h => ?_
      simp only [go_sem, seval, b11, e12, b14, e15, e17]
      cases h
      exact atJ (wkn (Jy9) ⟨rfl, rfl, rfl, rfl, trivial⟩)
     ·simp only [go_sem, seval]
      cases h
      exact atJ (wkn (Jy9) ⟨rfl, rfl, rfl, rfl, trivial⟩)
   ·simp only [go_sem, seval]
    cases h
    exact atJ (wkn (Jy1) ⟨rfl, trivial⟩)
  ·exact lp_back (L1 [] 0 0 h) ⟨rfl, rfl, rfl, rfl, trivial⟩
theorem w_ref16_pair {sel : Str} {of : (List (List rWd))} {r : (List rWd)} (h : ref16_pair sel of = some r) : ACall Tryz.prog 110 [.str sel, .sl none (List.map eLR of)] [] (.sl none (List.map eR3 r)) [] := by
 refine aX hf110 ok110 meek_sl ?_
 dsimp only [Tryz.f110, nums, Option.getD, List.append]
 unfold ref16_pair at h
 refine bsome h fun v1 hv1 h => ?_
 simp only [go_sem, seval]
 refine cX (w_ref16_Rank hv1) ?_
 simp only [go_sem, seval]
 refine cS h (fun hb h => ?_) fun hb h => ?_
 ·refine bsome h fun v2 hv2 h => ?_
  simp only [go_sem, seval]
  refine cX (w_ref16_w hv2) ?_
  simp only [go_sem, seval]
  exact rS (fun x => .sl none (List.map eR3 x)) h
 ·simp only [go_sem, seval]
  refine cX (w_ref16_Rank hv1) ?_
  simp only [go_sem, seval]
  refine cS h (fun hb h => ?_) fun hb h => ?_
  ·simp only [go_sem, seval]
   refine rg_ 10000 (.inr ⟨[], by kernel_rfl, by kernel_rfl, by rfl⟩) ?_
   refine bsome h fun v3 hv3 h => ?_
   simp only [go_sem, seval]
   refine cX (w_ref16_w hv3) ?_
   refine lAt_s eLR none .i64 ⟨84, 1, false, 24⟩ (fun _ => rfl) h fun v6 _ b4 e5 h => ?_
   refine app_s eR3 none ⟨96, 3, true, 32⟩ (fun _ => rfl) (by decide) rfl h fun v9 _ (b7 : appc ⟨96, 3, true, 32⟩ (.sl (some none) [.agg [.int .u8 v3.K, .str v3.S, .int .i64 v3.At]]) (.sl none (List.map eR3 v6))) (e8 : appv (.sl (some none) [.agg [.int .u8 v3.K, .str v3.S, .int .i64 v3.At]]) (.sl none (List.map eR3 v6)) = .sl (some none) (List.map eR3 v9)) h => ?_
   simp only [go_sem, seval, b4, e5, b7, e8]
   exact rS (fun x => .sl none (List.map eR3 x)) h
  ·refine bsome h fun v10 hv10 h => ?_
   simp only [go_sem, seval]
   refine cX (w_ref16_keys hv10) ?_
   simp only [go_sem, seval]
   refine bsome h fun y11 hy11 h => ?_
   refine blkJ 46 10000 (fun w => w [(5, .sl (some none) (List.map eR3 y11))] []) (runX 10000 ?_) (fun Jy11 => ?_)
   ·clear hy11
    simp only [go_sem, seval]
    exact rS (fun x => .sl none (List.map eR3 x)) h
   ·clear h
    have h := hy11
    simp only [go_sem, seval]
    refine lpJ 46 fuel (fun q1 w => ∀ (v13 : (List rWd)) (v14 : Int), ref16_pair_l1 of v10 q1 v13 v14 = some y11 → w [(1, .sl none (List.map eLR of)), (5, .sl (some none) (List.map eR3 v13)), (6, .sl none (List.map AV.str v10)), (7, .int .i64 v14)] []) (fun w _ _ h => nomatch h) (fun q1 ih1 v13 v14 h => ?_) (fun L1 => ?_)
    ·unfold ref16_pair_l1 at h
     refine rL ?_
     simp only [go_sem, seval]
     refine cS h (fun hb h => ?_) fun hb h => ?_
     ·simp only [go_sem, seval]
      refine bK ?_
      simp only [go_sem, seval]
      refine rg_ 10000 (.inr ⟨[], by kernel_rfl, by kernel_rfl, by rfl⟩) ?_
      refine lAt_s AV.str none .i64 ⟨9, 1, false, 16⟩ (fun _ => rfl) h fun v17 _ b15 e16 h => ?_
      refine bsome h fun v18 hv18 h => ?_
      simp only [go_sem, seval, b15, e16]
      refine cX (w_ref16_w hv18) ?_
      refine app_s eR3 (some none) ⟨96, 3, true, 32⟩ (fun _ => rfl) (by decide) rfl h fun v21 _ (b19 : appc ⟨96, 3, true, 32⟩ (.sl (some none) (List.map eR3 v13)) (.sl (some none) [.agg [.int .u8 v18.K, .str v18.S, .int .i64 v18.At]])) (e20 : appv (.sl (some none) (List.map eR3 v13)) (.sl (some none) [.agg [.int .u8 v18.K, .str v18.S, .int .i64 v18.At]]) = .sl (some none) (List.map eR3 v21)) h => ?_
      refine lAt_s eLR none .i64 ⟨84, 1, false, 24⟩ (fun _ => rfl) h fun v24 _ b22 e23 h => ?_
      refine app_s eR3 none ⟨96, 3, true, 32⟩ (fun _ => rfl) (by decide) rfl h fun v27 _ b25 e26 h => ?_
      refine add_s h fun v29 _ e28 h => ?_
      simp only [go_sem, seval, b19, e20, b22, e23, b25, e26, e28]
      exact lp_back (ih1 v27 v29 h) ⟨rfl, rfl, rfl, rfl, trivial⟩
     ·simp only [go_sem, seval]
      cases h
      exact atJ (wkn (Jy11) ⟨rfl, trivial⟩)
    ·exact lp_back (L1 [] 0 h) ⟨rfl, rfl, rfl, rfl, trivial⟩
theorem w_ref16_about {n : rNd} {words : (List rWd)} {sel : Str} {p3_to : Bool} {r : (List rWd)} (h : ref16_about n words sel p3_to = some r) : ACall Tryz.prog 167 [enc_rNd n, .sl none (List.map eR3 words), .str sel, .bool p3_to] [] (.sl none (List.map eR3 r)) [] := by
 refine aX hf167 ok167 meek_sl ?_
 dsimp only [Tryz.f167, nums, Option.getD, List.append]
 unfold ref16_about at h
 simp only [go_sem, seval]
 refine rgJ 56 10000 (.inl rfl) (fun w => w [(1, .sl none (List.map eR3 words)), (2, .str sel), (3, .bool p3_to), (4, .ptr 0 0), (9, .bool ((decide (n.K = 8)) || (decide (n.K = 10))))] [hN n.K n.S n.N n.L n.Kids]) (runX 10000 ?_) (fun Jg1 => ?_)
 ·simp only [go_sem, seval]
  refine bsome h fun y2 hy2 h => ?_
  refine cndJ 56 10000 (fun w => w [(1, .sl none (List.map eR3 words)), (9, .bool y2)] [hN n.K n.S n.N n.L n.Kids]) (runX 10000 ?_) (fun Jy2 => ?_)
  ·clear hy2
   simp only [go_sem, seval]
   refine cS h (fun hb h => ?_) fun hb h => ?_
   ·simp only [go_sem, seval]
    exact rS (fun x => .sl none (List.map eR3 x)) h
   ·refine bsome h fun v13 hv13 h => ?_
    simp only [go_sem, seval]
    refine cX (w_ref16_w hv13) ?_
    refine app_s eR3 none ⟨96, 3, true, 32⟩ (fun _ => rfl) (by decide) rfl h fun v16 _ (b14 : appc ⟨96, 3, true, 32⟩ (.sl (some none) [.agg [.int .u8 v13.K, .str v13.S, .int .i64 v13.At]]) (.sl none (List.map eR3 words))) (e15 : appv (.sl (some none) [.agg [.int .u8 v13.K, .str v13.S, .int .i64 v13.At]]) (.sl none (List.map eR3 words)) = .sl (some none) (List.map eR3 v16)) h => ?_
    refine bsome h fun v17 hv17 h => ?_
    simp only [go_sem, seval, b14, e15]
    refine cX (w_ref16_w hv17) ?_
    refine app_s eR3 (some none) ⟨96, 3, true, 32⟩ (fun _ => rfl) (by decide) rfl h fun v20 _ (b18 : appc ⟨96, 3, true, 32⟩ (.sl (some none) (List.map eR3 v16)) (.sl (some none) [.agg [.int .u8 v17.K, .str v17.S, .int .i64 v17.At]])) (e19 : appv (.sl (some none) (List.map eR3 v16)) (.sl (some none) [.agg [.int .u8 v17.K, .str v17.S, .int .i64 v17.At]]) = .sl (some none) (List.map eR3 v20)) h => ?_
    simp only [go_sem, seval, b18, e19]
    exact rS (fun x => .sl none (List.map eR3 x)) h
  ·clear h
   have h := hy2
   refine cS h (fun hb h => ?_) fun hb h => ?_
   ·refine bsome h fun v4 hv4 h => ?_
    simp only [go_sem, seval]
    refine cX (w_ref16_Rank hv4) ?_
    refine bsome h fun v5 hv5 h => ?_
    simp only [go_sem, seval]
    refine cX (w_ref16_Rank hv5) ?_
    simp only [go_sem, seval]
    refine bsome h fun y6 hy6 h => ?_
    refine cndJ 56 10000 (fun w => w [(1, .sl none (List.map eR3 words)), (9, .bool y6)] [hN n.K n.S n.N n.L n.Kids]) (runX 10000 ?_) (fun Jy6 => ?_)
    ·clear hy6
     simp only [go_sem, seval]
     cases h
     exact atJ (wkn (Jy2) ⟨rfl, rfl, trivial⟩)
    ·clear h
     have h := hy6
     refine cS h (fun hb h => ?_) fun hb h => ?_
     ·simp only [go_sem, seval]
      refine rgJ 56 10000 (.inl rfl) (fun w => w [(1, .sl none (List.map eR3 words)), (9, .bool ((decide (v4 < v5)) || ((decide (v5 = 1)) && (decide (v4 = 1)))))] [hN n.K n.S n.N n.L n.Kids]) (runX 10000 ?_) (fun Jg8 => ?_)
      ·simp only [go_sem, seval]
       cases h
       exact atJ (wkn (Jy6) ⟨rfl, rfl, trivial⟩)
      ·simp only [go_sem, seval]
       refine grd_ (fun hb9 => ?_) fun hb9 => ?_
       ·simp only [go_sem, seval]
        refine grd_ (fun hb10 => ?_) fun hb10 => ?_
        ·simp only [go_sem, seval]
         exact atJ (wkn Jg8 ⟨rfl, congrArg AV.bool (by first | rfl | (rw [hb9, hb10]; rfl) | (simp [hb9, hb10]; done) | simp_all), trivial⟩)
        ·simp only [go_sem, seval]
         exact atJ (wkn Jg8 ⟨rfl, congrArg AV.bool (by first | rfl | (rw [hb9, hb10]; rfl) | (simp [hb9, hb10]; done) | simp_all), trivial⟩)
       ·simp only [go_sem, seval]
        exact atJ (wkn Jg8 ⟨rfl, congrArg AV.bool (by first | rfl | (rw [hb9]; rfl) | (simp [hb9]; done) | simp_all), trivial⟩)
     ·simp only [go_sem, seval]
      refine bsome h fun y11 hy11 h => ?_
      refine cndJ 56 10000 (fun w => w [(1, .sl none (List.map eR3 words)), (9, .bool y11)] [hN n.K n.S n.N n.L n.Kids]) (runX 10000 ?_) (fun Jy11 => ?_)
      ·clear hy11
       simp only [go_sem, seval]
       cases h
       exact atJ (wkn (Jy6) ⟨rfl, rfl, trivial⟩)
      ·clear h
       have h := hy11
       refine cS h (fun hb h => ?_) fun hb h => ?_
       ·simp only [go_sem, seval]
        cases h
        exact atJ (wkn (Jy11) ⟨rfl, rfl, trivial⟩)
       ·simp only [go_sem, seval]
        cases h
        exact atJ (wkn (Jy11) ⟨rfl, rfl, trivial⟩)
   ·simp only [go_sem, seval]
    cases h
    exact atJ (wkn (Jy2) ⟨rfl, rfl, trivial⟩)
 ·simp only [go_sem, seval]
  refine grd_ (fun hb21 => ?_) fun hb21 => ?_
  ·simp only [go_sem, seval]
   exact atJ (wkn Jg1 ⟨rfl, rfl, rfl, rfl, congrArg AV.bool (by first | rfl | (rw [hb21]; rfl) | (simp [hb21]; done) | simp_all), trivial⟩)
  ·simp only [go_sem, seval]
   exact atJ (wkn Jg1 ⟨rfl, rfl, rfl, rfl, congrArg AV.bool (by first | rfl | (rw [hb21]; rfl) | (simp [hb21]; done) | simp_all), trivial⟩)
theorem w_ref16_message {m : rMt} {of : (List (List rWd))} {n : rNd} {kids : (List Int)} {r : (List rWd)} (h : ref16_message m of n kids = some r) : ACall Tryz.prog 166 [enc_rMt m, .sl none (List.map eLR of), enc_rNd n, .sl none (List.map (AV.int .i64) kids)] [] (.sl none (List.map eR3 r)) [] := by
 refine aX hf166 ok166 meek_sl ?_
 dsimp only [Tryz.f166, nums, Option.getD, List.append]
 unfold ref16_message at h
 simp only [go_sem, seval]
 refine bsome h fun y1 hy1 h => ?_
 refine blkJ 42 10000 (fun w => w [(6, .ptr 1 0), (9, .sl (some none) (List.map eLR y1))] [hR m, hN n.K n.S n.N n.L n.Kids]) (runX 10000 ?_) (fun Jy1 => ?_)
 ·clear hy1
  refine bsome h fun v22 hv22 h => ?_
  simp only [go_sem, seval]
  refine cX (w_ref16_pair hv22) ?_
  simp only [go_sem, seval]
  exact rS (fun x => .sl none (List.map eR3 x)) h
 ·clear h
  have h := hy1
  simp only [go_sem, seval]
  refine lpJ 42 fuel (fun q1 w => ∀ (v3 : (List (List rWd))) (v4 : Int), ref16_message_l1 m of n kids q1 v3 v4 = some y1 → w [(1, .sl none (List.map eLR of)), (3, .sl none (List.map (AV.int .i64) kids)), (4, .ptr 0 0), (6, .ptr 1 0), (9, .sl (some none) (List.map eLR v3)), (10, .int .i64 v4)] [hR m, hN n.K n.S n.N n.L n.Kids]) (fun w _ _ h => nomatch h) (fun q1 ih1 v3 v4 h => ?_) (fun L1 => ?_)
  ·unfold ref16_message_l1 at h
   refine rL ?_
   simp only [go_sem, seval]
   refine cS h (fun hb h => ?_) fun hb h => ?_
   ·simp only [go_sem, seval]
    refine bK ?_
    simp only [go_sem, seval]
    refine rg_ 10000 (.inr ⟨[], by kernel_rfl, by kernel_rfl, by rfl⟩) ?_
    refine lAt_s (AV.int .i64) none .i64 ⟨3, 1, false, 8⟩ (fun _ => rfl) h fun v7 _ b5 e6 h => ?_
    refine lAt_s enc_rNd none .i64 ⟨78, 5, true, 80⟩ (fun _ => rfl) h fun v10 _ b8 e9 h => ?_
    refine lAt_s eLR none .i64 ⟨84, 1, false, 24⟩ (fun _ => rfl) h fun v15 _ b13 e14 h => ?_
    refine bsome h fun v16 hv16 h => ?_
    simp only [go_sem, seval, b5, e6, b8, e9, b13, e14]
    refine cX (w_ref16_about hv16) ?_
    refine app_s eLR (some none) ⟨84, 1, false, 24⟩ (fun _ => rfl) (by decide) rfl h fun v19 _ (b17 : appc ⟨84, 1, false, 24⟩ (.sl (some none) (List.map eLR v3)) (.sl (some none) [.sl none (List.map eR3 v16)])) (e18 : appv (.sl (some none) (List.map eLR v3)) (.sl (some none) [.sl none (List.map eR3 v16)]) = .sl (some none) (List.map eLR v19)) h => ?_
    refine add_s h fun v21 _ e20 h => ?_
    simp only [go_sem, seval, b17, e18, e20]
    exact lp_back (ih1 v19 v21 h) ⟨rfl, rfl, rfl, rfl, rfl, rfl, trivial⟩
   ·simp only [go_sem, seval]
    cases h
    exact atJ (wkn (Jy1) ⟨rfl, rfl, trivial⟩)
  ·exact lp_back (L1 [] 0 h) ⟨rfl, rfl, rfl, rfl, rfl, rfl, trivial⟩
theorem w_ref16_node {m : rMt} {of : (List (List rWd))} {n : rNd} {r : (List rWd)} (h : ref16_node m of n = some r) : ACall Tryz.prog 109 [enc_rMt m, .sl none (List.map eLR of), enc_rNd n] [] (.sl none (List.map eR3 r)) [] := by
 refine aX hf109 ok109 meek_sl ?_
 dsimp only [Tryz.f109, nums, Option.getD, List.append]
 unfold ref16_node at h
 simp only [go_sem, seval]
 refine cS h (fun hb h => ?_) fun hb h => ?_
 ·refine lAt_s AV.str none .u8 ⟨9, 1, false, 16⟩ (fun _ => rfl) h fun v3 _ (b1 : iadC ⟨9, 1, false, 16⟩ (.sl none [.str [115, 101, 108, 102], .str [115, 117, 112, 101, 114], .str [110, 105, 108], .str [116, 114, 117, 101], .str [102, 97, 108, 115, 101]]) (.int .u8 n.K)) (e2 : iadV (.sl none [.str [115, 101, 108, 102], .str [115, 117, 112, 101, 114], .str [110, 105, 108], .str [116, 114, 117, 101], .str [102, 97, 108, 115, 101]]) (.int .u8 n.K) = .ip (AV.str v3).cells) h => ?_
  refine bsome h fun v4 hv4 h => ?_
  simp only [go_sem, seval, b1, e2]
  refine cX (w_ref16_w hv4) ?_
  simp only [go_sem, seval]
  exact rS (fun x => .sl none (List.map eR3 x)) h
 ·simp only [go_sem, seval]
  refine bsome h fun y5 hy5 h => ?_
  refine rgJ 225 10000 (.inl rfl) (fun w => w [(1, .sl none (List.map eLR of)), (3, .ptr 0 0), (5, .ptr 1 0), (32, .bool y5)] [hR m, hN n.K n.S n.N n.L n.Kids]) (runX 10000 ?_) (fun Jy5 => ?_)
  ·clear hy5
   simp only [go_sem, seval]
   refine cS h (fun hb h => ?_) fun hb h => ?_
   ·simp only [go_sem, seval]
    refine rg_ 10000 (.inr ⟨[], by kernel_rfl, by kernel_rfl, by rfl⟩) ?_
    refine bsome h fun v11 hv11 h => ?_
    simp only [go_sem, seval]
    refine cX (w_ref16_w hv11) ?_
    refine subS_s (some (.int .i64 1)) none rfl rfl h fun v14 _ b12 e13 h => ?_
    refine bsome h fun v15 hv15 h => ?_
    simp only [go_sem, seval, b12, e13]
    refine cX (w_ref16_w hv15) ?_
    simp only [go_sem, seval]
    exact rS (fun x => .sl none (List.map eR3 x)) h
   ·simp only [go_sem, seval]
    refine cS h (fun hb h => ?_) fun hb h => ?_
    ·refine bsome h fun v16 hv16 h => ?_
     simp only [go_sem, seval]
     refine cX (w_ref16_w hv16) ?_
     simp only [go_sem, seval]
     exact rS (fun x => .sl none (List.map eR3 x)) h
    ·simp only [go_sem, seval]
     refine cS h (fun hb h => ?_) fun hb h => ?_
     ·refine bsome h fun v17 hv17 h => ?_
      simp only [go_sem, seval]
      refine cX (w_ref16_w hv17) ?_
      simp only [go_sem, seval]
      exact rS (fun x => .sl none (List.map eR3 x)) h
     ·simp only [go_sem, seval]
      refine cS h (fun hb h => ?_) fun hb h => ?_
      ·refine bsome h fun v18 hv18 h => ?_
       simp only [go_sem, seval]
       refine cX (w_ref16_w hv18) ?_
       simp only [go_sem, seval]
       exact rS (fun x => .sl none (List.map eR3 x)) h
      ·simp only [go_sem, seval]
       refine cS h (fun hb h => ?_) fun hb h => ?_
       ·simp only [go_sem, seval]
        refine rg_ 10000 (.inr ⟨[], by kernel_rfl, by kernel_rfl, by rfl⟩) ?_
        refine bsome h fun v19 hv19 h => ?_
        simp only [go_sem, seval]
        refine cX (w_ref16_w hv19) ?_
        refine bsome h fun v20 hv20 h => ?_
        simp only [go_sem, seval]
        refine cX (w_ref16_w hv20) ?_
        refine lAt_s (AV.int .i64) none .i64 ⟨3, 1, false, 8⟩ (fun _ => rfl) h fun v23 _ b21 e22 h => ?_
        refine lAt_s eLR none .i64 ⟨84, 1, false, 24⟩ (fun _ => rfl) h fun v26 _ b24 e25 h => ?_
        refine app_s eR3 none ⟨96, 3, true, 32⟩ (fun _ => rfl) (by decide) rfl h fun v29 _ (b27 : appc ⟨96, 3, true, 32⟩ (.sl (some none) [.agg [.int .u8 v19.K, .str v19.S, .int .i64 v19.At], .agg [.int .u8 v20.K, .str v20.S, .int .i64 v20.At]]) (.sl none (List.map eR3 v26))) (e28 : appv (.sl (some none) [.agg [.int .u8 v19.K, .str v19.S, .int .i64 v19.At], .agg [.int .u8 v20.K, .str v20.S, .int .i64 v20.At]]) (.sl none (List.map eR3 v26)) = .sl (some none) (List.map eR3 v29)) h => ?_
        simp only [go_sem, seval, b21, e22, b24, e25, b27, e28]
        exact rS (fun x => .sl none (List.map eR3 x)) h
       ·simp only [go_sem, seval]
        refine cS h (fun hb h => ?_) fun hb h => ?_
        ·simp only [go_sem, seval]
         refine rg_ 10000 (.inr ⟨[], by kernel_rfl, by kernel_rfl, by rfl⟩) ?_
         refine bsome h fun v30 hv30 h => ?_
         simp only [go_sem, seval]
         refine cX (w_ref16_w hv30) ?_
         refine lAt_s (AV.int .i64) none .i64 ⟨3, 1, false, 8⟩ (fun _ => rfl) h fun v33 _ b31 e32 h => ?_
         refine lAt_s eLR none .i64 ⟨84, 1, false, 24⟩ (fun _ => rfl) h fun v36 _ b34 e35 h => ?_
         refine app_s eR3 none ⟨96, 3, true, 32⟩ (fun _ => rfl) (by decide) rfl h fun v39 _ (b37 : appc ⟨96, 3, true, 32⟩ (.sl (some none) [.agg [.int .u8 v30.K, .str v30.S, .int .i64 v30.At]]) (.sl none (List.map eR3 v36))) (e38 : appv (.sl (some none) [.agg [.int .u8 v30.K, .str v30.S, .int .i64 v30.At]]) (.sl none (List.map eR3 v36)) = .sl (some none) (List.map eR3 v39)) h => ?_
         simp only [go_sem, seval, b31, e32, b34, e35, b37, e38]
         exact rS (fun x => .sl none (List.map eR3 x)) h
        ·simp only [go_sem, seval]
         refine cS h (fun hb h => ?_) fun hb h => ?_
         ·refine bsome h fun v40 hv40 h => ?_
          simp only [go_sem, seval]
          refine cX (w_ref16_message hv40) ?_
          simp only [go_sem, seval]
          exact rS (fun x => .sl none (List.map eR3 x)) h
         ·simp only [go_sem, seval]
          refine cS h (fun hb h => ?_) fun hb h => ?_
          ·simp only [go_sem, seval]
           refine rg_ 10000 (.inr ⟨[], by kernel_rfl, by kernel_rfl, by rfl⟩) ?_
           refine lAt_s (AV.int .i64) none .i64 ⟨3, 1, false, 8⟩ (fun _ => rfl) h fun v43 _ b41 e42 h => ?_
           refine lAt_s enc_rNd none .i64 ⟨78, 5, true, 80⟩ (fun _ => rfl) h fun v46 _ b44 e45 h => ?_
           refine lAt_s eLR none .i64 ⟨84, 1, false, 24⟩ (fun _ => rfl) h fun v51 _ b49 e50 h => ?_
           refine bsome h fun v52 hv52 h => ?_
           simp only [go_sem, seval, b41, e42, b44, e45, b49, e50]
           refine cX (w_ref16_about hv52) ?_
           simp only [go_sem, seval]
           refine rg_ 10000 (.inr ⟨[], by kernel_rfl, by kernel_rfl, by rfl⟩) ?_
           refine app_s eR3 none ⟨96, 3, true, 32⟩ (fun _ => rfl) (by decide) rfl h fun v55 _ (b53 : appc ⟨96, 3, true, 32⟩ (.sl (some none) []) (.sl none (List.map eR3 v52))) (e54 : appv (.sl (some none) []) (.sl none (List.map eR3 v52)) = .sl (some none) (List.map eR3 v55)) h => ?_
           refine subL_s (AV.int .i64) none ⟨3, 1, false, 8⟩ (fun _ => rfl) (some (.int .i64 1)) none rfl rfl h fun v58 _ b56 e57 h => ?_
           refine bsome h fun v59 hv59 h => ?_
           simp only [go_sem, seval, b53, e54, b56, e57]
           refine cX (w_ref16_message hv59) ?_
           refine app_s eR3 none ⟨96, 3, true, 32⟩ (fun _ => rfl) (by decide) rfl h fun v62 _ b60 e61 h => ?_
           simp only [go_sem, seval, b60, e61]
           exact rS (fun x => .sl none (List.map eR3 x)) h
          ·simp only [go_sem, seval]
           refine cS h (fun hb h => ?_) fun hb h => ?_
           ·simp only [go_sem, seval]
            refine rg_ 10000 (.inr ⟨[], by kernel_rfl, by kernel_rfl, by rfl⟩) ?_
            refine lAt_s (AV.int .i64) none .i64 ⟨3, 1, false, 8⟩ (fun _ => rfl) h fun v65 _ b63 e64 h => ?_
            refine lAt_s enc_rNd none .i64 ⟨78, 5, true, 80⟩ (fun _ => rfl) h fun v68 _ b66 e67 h => ?_
            refine lAt_s eLR none .i64 ⟨84, 1, false, 24⟩ (fun _ => rfl) h fun v73 _ b71 e72 h => ?_
            refine lAt_s (AV.int .i64) none .i64 ⟨3, 1, false, 8⟩ (fun _ => rfl) h fun v76 _ b74 e75 h => ?_
            refine lAt_s enc_rNd none .i64 ⟨78, 5, true, 80⟩ (fun _ => rfl) h fun v79 _ b77 e78 h => ?_
            refine bsome h fun v80 hv80 h => ?_
            simp only [go_sem, seval, b63, e64, b66, e67, b71, e72, b74, e75, b77, e78]
            refine cX (w_ref16_about hv80) ?_
            refine app_s eR3 none ⟨96, 3, true, 32⟩ (fun _ => rfl) (by decide) rfl h fun v83 _ (b81 : appc ⟨96, 3, true, 32⟩ (.sl (some none) []) (.sl none (List.map eR3 v80))) (e82 : appv (.sl (some none) []) (.sl none (List.map eR3 v80)) = .sl (some none) (List.map eR3 v83)) h => ?_
            simp only [go_sem, seval, b81, e82]
            refine bsome h fun y84 hy84 h => ?_
            refine blkJ 225 10000 (fun w => w [(9, .sl (some none) (List.map eR3 y84))] [hR m, hN n.K n.S n.N n.L n.Kids]) (runX 10000 ?_) (fun Jy84 => ?_)
            ·clear hy84
             simp only [go_sem, seval]
             exact rS (fun x => .sl none (List.map eR3 x)) h
            ·clear h
             have h := hy84
             simp only [go_sem, seval]
             refine lpJ 225 fuel (fun q1 w => ∀ (v86 : (List rWd)) (v87 : Int), ref16_node_l1 of n q1 v86 v87 = some y84 → w [(1, .sl none (List.map eLR of)), (5, .ptr 1 0), (9, .sl (some none) (List.map eR3 v86)), (10, .int .i64 v87)] [hR m, hN n.K n.S n.N n.L n.Kids]) (fun w _ _ h => nomatch h) (fun q1 ih1 v86 v87 h => ?_) (fun L1 => ?_)
             ·unfold ref16_node_l1 at h
              refine rL ?_
              simp only [go_sem, seval]
              refine cS h (fun hb h => ?_) fun hb h => ?_
              ·simp only [go_sem, seval]
               refine bK ?_
               simp only [go_sem, seval]
               refine bsome h fun y88 hy88 h => ?_
               refine cndJ 225 10000 (fun w => w [(1, .sl none (List.map eLR of)), (5, .ptr 1 0), (9, .sl (some none) (List.map eR3 y88)), (10, .int .i64 v87)] [hR m, hN n.K n.S n.N n.L n.Kids]) (runX 10000 ?_) (fun Jy88 => ?_)
               ·clear hy88
                refine lAt_s (AV.int .i64) none .i64 ⟨3, 1, false, 8⟩ (fun _ => rfl) h fun v96 _ b94 e95 h => ?_
                refine lAt_s eLR none .i64 ⟨84, 1, false, 24⟩ (fun _ => rfl) h fun v99 _ b97 e98 h => ?_
                refine app_s eR3 none ⟨96, 3, true, 32⟩ (fun _ => rfl) (by decide) rfl h fun v102 _ b100 e101 h => ?_
                refine add_s h fun v104 _ e103 h => ?_
                simp only [go_sem, seval, b94, e95, b97, e98, b100, e101, e103]
                exact lp_back (ih1 v102 v104 h) ⟨rfl, rfl, rfl, rfl, trivial⟩
               ·clear h
                have h := hy88
                refine cS h (fun hb h => ?_) fun hb h => ?_
                ·refine bsome h fun v90 hv90 h => ?_
                 simp only [go_sem, seval]
                 refine cX (w_ref16_w hv90) ?_
                 refine app_s eR3 (some none) ⟨96, 3, true, 32⟩ (fun _ => rfl) (by decide) rfl h fun v93 _ (b91 : appc ⟨96, 3, true, 32⟩ (.sl (some none) (List.map eR3 v86)) (.sl (some none) [.agg [.int .u8 v90.K, .str v90.S, .int .i64 v90.At]])) (e92 : appv (.sl (some none) (List.map eR3 v86)) (.sl (some none) [.agg [.int .u8 v90.K, .str v90.S, .int .i64 v90.At]]) = .sl (some none) (List.map eR3 v93)) h => ?_
                 simp only [go_sem, seval, b91, e92]
                 cases h
                 exact atJ (wkn (Jy88) ⟨rfl, rfl, rfl, rfl, trivial⟩)
                ·simp only [go_sem, seval]
                 cases h
                 exact atJ (wkn (Jy88) ⟨rfl, rfl, rfl, rfl, trivial⟩)
              ·simp only [go_sem, seval]
               cases h
               exact atJ (wkn (Jy84) ⟨rfl, trivial⟩)
             ·exact lp_back (L1 v83 1 h) ⟨rfl, rfl, rfl, rfl, trivial⟩
           ·refine bsome h fun v105 hv105 h => ?_
            simp only [go_sem, seval]
            refine cX (w_ref16_w hv105) ?_
            simp only [go_sem, seval]
            refine bsome h fun y106 hy106 h => ?_
            refine blkJ 225 10000 (fun w => w [(1, .sl none (List.map eLR of)), (5, .ptr 1 0), (11, .sl (some none) (List.map eR3 y106))] [hR m, hN n.K n.S n.N n.L n.Kids]) (runX 10000 ?_) (fun Jy106 => ?_)
            ·clear hy106
             simp only [go_sem, seval]
             refine bsome h fun y119 hy119 h => ?_
             refine cndJ 225 10000 (fun w => w [(1, .sl none (List.map eLR of)), (5, .ptr 1 0), (11, .sl (some none) (List.map eR3 y119))] [hR m, hN n.K n.S n.N n.L n.Kids]) (runX 10000 ?_) (fun Jy119 => ?_)
             ·clear hy119
              simp only [go_sem, seval]
              refine rg_ 10000 (.inr ⟨[], by kernel_rfl, by kernel_rfl, by rfl⟩) ?_
              refine subL_s AV.str none ⟨9, 1, false, 16⟩ (fun _ => rfl) (some (.int .i64 n.N)) none rfl rfl h fun v127 _ b125 e126 h => ?_
              refine bsome h fun v128 hv128 h => ?_
              simp only [go_sem, seval, b125, e126]
              refine cX (w_ref16_vars hv128) ?_
              refine app_s eR3 none ⟨96, 3, true, 32⟩ (fun _ => rfl) (by decide) rfl h fun v131 _ b129 e130 h => ?_
              refine bsome h fun v132 hv132 h => ?_
              simp only [go_sem, seval, b129, e130]
              refine cX (w_ref16_stmts hv132) ?_
              refine app_s eR3 none ⟨96, 3, true, 32⟩ (fun _ => rfl) (by decide) rfl h fun v135 _ b133 e134 h => ?_
              refine bsome h fun v136 hv136 h => ?_
              simp only [go_sem, seval, b133, e134]
              refine cX (w_ref16_w hv136) ?_
              refine app_s eR3 (some none) ⟨96, 3, true, 32⟩ (fun _ => rfl) (by decide) rfl h fun v139 _ (b137 : appc ⟨96, 3, true, 32⟩ (.sl (some none) (List.map eR3 v135)) (.sl (some none) [.agg [.int .u8 v136.K, .str v136.S, .int .i64 v136.At]])) (e138 : appv (.sl (some none) (List.map eR3 v135)) (.sl (some none) [.agg [.int .u8 v136.K, .str v136.S, .int .i64 v136.At]]) = .sl (some none) (List.map eR3 v139)) h => ?_
              simp only [go_sem, seval, b137, e138]
              exact rS (fun x => .sl none (List.map eR3 x)) h
             ·clear h
              have h := hy119
              refine cS h (fun hb h => ?_) fun hb h => ?_
              ·refine bsome h fun v121 hv121 h => ?_
               simp only [go_sem, seval]
               refine cX (w_ref16_w hv121) ?_
               refine app_s eR3 (some none) ⟨96, 3, true, 32⟩ (fun _ => rfl) (by decide) rfl h fun v124 _ (b122 : appc ⟨96, 3, true, 32⟩ (.sl (some none) (List.map eR3 y106)) (.sl (some none) [.agg [.int .u8 v121.K, .str v121.S, .int .i64 v121.At]])) (e123 : appv (.sl (some none) (List.map eR3 y106)) (.sl (some none) [.agg [.int .u8 v121.K, .str v121.S, .int .i64 v121.At]]) = .sl (some none) (List.map eR3 v124)) h => ?_
               simp only [go_sem, seval, b122, e123]
               cases h
               exact atJ (wkn (Jy119) ⟨rfl, rfl, rfl, trivial⟩)
              ·simp only [go_sem, seval]
               cases h
               exact atJ (wkn (Jy119) ⟨rfl, rfl, rfl, trivial⟩)
            ·clear h
             have h := hy106
             simp only [go_sem, seval]
             refine lpJ 225 fuel (fun q2 w => ∀ (v108 : (List rWd)) (v109 : Int), ref16_node_l2 n q2 v108 v109 = some y106 → w [(1, .sl none (List.map eLR of)), (5, .ptr 1 0), (11, .sl (some none) (List.map eR3 v108)), (12, .int .i64 v109)] [hR m, hN n.K n.S n.N n.L n.Kids]) (fun w _ _ h => nomatch h) (fun q2 ih2 v108 v109 h => ?_) (fun L2 => ?_)
             ·unfold ref16_node_l2 at h
              refine rL ?_
              simp only [go_sem, seval]
              refine cS h (fun hb h => ?_) fun hb h => ?_
              ·simp only [go_sem, seval]
               refine bK ?_
               refine lAt_s AV.str none .i64 ⟨9, 1, false, 16⟩ (fun _ => rfl) h fun v112 _ b110 e111 h => ?_
               refine bsome h fun v113 hv113 h => ?_
               simp only [go_sem, seval, b110, e111]
               refine cX (w_ref16_w hv113) ?_
               refine app_s eR3 (some none) ⟨96, 3, true, 32⟩ (fun _ => rfl) (by decide) rfl h fun v116 _ (b114 : appc ⟨96, 3, true, 32⟩ (.sl (some none) (List.map eR3 v108)) (.sl (some none) [.agg [.int .u8 v113.K, .str v113.S, .int .i64 v113.At]])) (e115 : appv (.sl (some none) (List.map eR3 v108)) (.sl (some none) [.agg [.int .u8 v113.K, .str v113.S, .int .i64 v113.At]]) = .sl (some none) (List.map eR3 v116)) h => ?_
               refine add_s h fun v118 _ e117 h => ?_
               simp only [go_sem, seval, b114, e115, e117]
               exact lp_back (ih2 v116 v118 h) ⟨rfl, rfl, rfl, rfl, trivial⟩
              ·simp only [go_sem, seval]
               cases h
               exact atJ (wkn (Jy106) ⟨rfl, rfl, rfl, trivial⟩)
             ·exact lp_back (L2 ([v105] : List rWd) 0 h) ⟨rfl, rfl, rfl, rfl, trivial⟩
  ·clear h
   have h := hy5
   simp only [go_sem, seval]
   refine grd_ (fun hb7 => ?_) fun hb7 => ?_
   ·have h := ite_t hb7 h
    refine sIdx_s .i64 h fun v10 _ b8 e9 h => ?_
    simp only [go_sem, seval, b8, e9]
    cases h
    exact atJ (wkn (Jy5) ⟨rfl, rfl, rfl, rfl, trivial⟩)
   ·have h := ite_f hb7 h
    simp only [go_sem, seval]
    cases h
    exact atJ (wkn (Jy5) ⟨rfl, rfl, rfl, rfl, trivial⟩)
theorem w_ref16_words {m : rMt} {r : (List rWd)} (h : ref16_words m = some r) : ACall Tryz.prog 55 [enc_rMt m] [] (.sl none (List.map eR3 r)) [] := by
 refine aX hf55 ok55 meek_sl ?_
 dsimp only [Tryz.f55, nums, Option.getD, List.append]
 unfold ref16_words at h
 simp only [go_sem, seval]
 refine bsome h fun y1 hy1 h => ?_
 refine blkJ 66 10000 (fun w => w [(1, .ptr 0 0), (3, .sl (some none) (List.map eLR y1))] [hR m]) (runX 10000 ?_) (fun Jy1 => ?_)
 ·clear hy1
  simp only [go_sem, seval]
  refine bsome h fun y14 hy14 h => ?_
  refine blkJ 66 10000 (fun w => w [(1, .ptr 0 0), (3, .sl (some none) (List.map eLR y1)), (5, .sl (some none) (List.map eLR y14))] [hR m]) (runX 10000 ?_) (fun Jy14 => ?_)
  ·clear hy14
   refine bsome h fun v27 hv27 h => ?_
   simp only [go_sem, seval]
   refine cX (w_ref16_pair hv27) ?_
   refine app_s eR3 none ⟨96, 3, true, 32⟩ (fun _ => rfl) (by decide) rfl h fun v30 _ (b28 : appc ⟨96, 3, true, 32⟩ (.sl (some none) []) (.sl none (List.map eR3 v27))) (e29 : appv (.sl (some none) []) (.sl none (List.map eR3 v27)) = .sl (some none) (List.map eR3 v30)) h => ?_
   refine bsome h fun v31 hv31 h => ?_
   simp only [go_sem, seval, b28, e29]
   refine cX (w_ref16_w hv31) ?_
   refine app_s eR3 (some none) ⟨96, 3, true, 32⟩ (fun _ => rfl) (by decide) rfl h fun v34 _ (b32 : appc ⟨96, 3, true, 32⟩ (.sl (some none) (List.map eR3 v30)) (.sl (some none) [.agg [.int .u8 v31.K, .str v31.S, .int .i64 v31.At]])) (e33 : appv (.sl (some none) (List.map eR3 v30)) (.sl (some none) [.agg [.int .u8 v31.K, .str v31.S, .int .i64 v31.At]]) = .sl (some none) (List.map eR3 v34)) h => ?_
   simp only [go_sem, seval, b32, e33]
   refine rg_ 10000 (.inr ⟨[], by kernel_rfl, by kernel_rfl, by rfl⟩) ?_
   refine bsome h fun v35 hv35 h => ?_
   simp only [go_sem, seval]
   refine cX (w_ref16_vars hv35) ?_
   refine app_s eR3 none ⟨96, 3, true, 32⟩ (fun _ => rfl) (by decide) rfl h fun v38 _ b36 e37 h => ?_
   refine bsome h fun v39 hv39 h => ?_
   simp only [go_sem, seval, b36, e37]
   refine cX (w_ref16_stmts hv39) ?_
   refine app_s eR3 none ⟨96, 3, true, 32⟩ (fun _ => rfl) (by decide) rfl h fun v42 _ b40 e41 h => ?_
   refine bsome h fun v43 hv43 h => ?_
   simp only [go_sem, seval, b40, e41]
   refine cX (w_ref16_w hv43) ?_
   refine app_s eR3 (some none) ⟨96, 3, true, 32⟩ (fun _ => rfl) (by decide) rfl h fun v46 _ (b44 : appc ⟨96, 3, true, 32⟩ (.sl (some none) (List.map eR3 v42)) (.sl (some none) [.agg [.int .u8 v43.K, .str v43.S, .int .i64 v43.At]])) (e45 : appv (.sl (some none) (List.map eR3 v42)) (.sl (some none) [.agg [.int .u8 v43.K, .str v43.S, .int .i64 v43.At]]) = .sl (some none) (List.map eR3 v46)) h => ?_
   simp only [go_sem, seval, b44, e45]
   exact rS (fun x => .sl none (List.map eR3 x)) h
  ·clear h
   have h := hy14
   simp only [go_sem, seval]
   refine lpJ 66 fuel (fun q2 w => ∀ (v16 : (List (List rWd))) (v17 : Int), ref16_words_l2 m q2 v16 v17 = some y14 → w [(1, .ptr 0 0), (3, .sl (some none) (List.map eLR y1)), (5, .sl (some none) (List.map eLR v16)), (6, .int .i64 v17)] [hR m]) (fun w _ _ h => nomatch h) (fun q2 ih2 v16 v17 h => ?_) (fun L2 => ?_)
   ·unfold ref16_words_l2 at h
    refine rL ?_
    simp only [go_sem, seval]
    refine cS h (fun hb h => ?_) fun hb h => ?_
    ·simp only [go_sem, seval]
     refine bK ?_
     refine lAt_s AV.str none .i64 ⟨9, 1, false, 16⟩ (fun _ => rfl) h fun v20 _ b18 e19 h => ?_
     refine bsome h fun v21 hv21 h => ?_
     simp only [go_sem, seval, b18, e19]
     refine cX (w_ref16_w hv21) ?_
     refine app_s eLR (some none) ⟨84, 1, false, 24⟩ (fun _ => rfl) (by decide) rfl h fun v24 _ (b22 : appc ⟨84, 1, false, 24⟩ (.sl (some none) (List.map eLR v16)) (.sl (some none) [.sl none [.agg [.int .u8 v21.K, .str v21.S, .int .i64 v21.At]]])) (e23 : appv (.sl (some none) (List.map eLR v16)) (.sl (some none) [.sl none [.agg [.int .u8 v21.K, .str v21.S, .int .i64 v21.At]]]) = .sl (some none) (List.map eLR v24)) h => ?_
     refine add_s h fun v26 _ e25 h => ?_
     simp only [go_sem, seval, b22, e23, e25]
     exact lp_back (ih2 v24 v26 h) ⟨rfl, rfl, rfl, rfl, trivial⟩
    ·simp only [go_sem, seval]
     cases h
     exact atJ (wkn (Jy14) ⟨rfl, rfl, rfl, trivial⟩)
   ·exact lp_back (L2 [] 0 h) ⟨rfl, rfl, rfl, rfl, trivial⟩
 ·clear h
  have h := hy1
  simp only [go_sem, seval]
  refine lpJ 66 fuel (fun q1 w => ∀ (v3 : (List (List rWd))) (v4 : Int), ref16_words_l1 m q1 v3 v4 = some y1 → w [(1, .ptr 0 0), (3, .sl (some none) (List.map eLR v3)), (4, .int .i64 v4)] [hR m]) (fun w _ _ h => nomatch h) (fun q1 ih1 v3 v4 h => ?_) (fun L1 => ?_)
  ·unfold ref16_words_l1 at h
   refine rL ?_
   simp only [go_sem, seval]
   refine cS h (fun hb h => ?_) fun hb h => ?_
   ·simp only [go_sem, seval]
    refine bK ?_
    simp only [go_sem, seval]
    refine rg_ 10000 (.inr ⟨[], by kernel_rfl, by kernel_rfl, by rfl⟩) ?_
    refine lAt_s enc_rNd none .i64 ⟨78, 5, true, 80⟩ (fun _ => rfl) h fun v7 _ b5 e6 h => ?_
    refine bsome h fun v8 hv8 h => ?_
    simp only [go_sem, seval, b5, e6]
    refine cX (w_ref16_node hv8) ?_
    refine app_s eLR (some none) ⟨84, 1, false, 24⟩ (fun _ => rfl) (by decide) rfl h fun v11 _ (b9 : appc ⟨84, 1, false, 24⟩ (.sl (some none) (List.map eLR v3)) (.sl (some none) [.sl none (List.map eR3 v8)])) (e10 : appv (.sl (some none) (List.map eLR v3)) (.sl (some none) [.sl none (List.map eR3 v8)]) = .sl (some none) (List.map eLR v11)) h => ?_
    refine add_s h fun v13 _ e12 h => ?_
    simp only [go_sem, seval, b9, e10, e12]
    exact lp_back (ih1 v11 v13 h) ⟨rfl, rfl, rfl, trivial⟩
   ·simp only [go_sem, seval]
    cases h
    exact atJ (wkn (Jy1) ⟨rfl, rfl, trivial⟩)
  ·exact lp_back (L1 [] 0 h) ⟨rfl, rfl, rfl, trivial⟩
theorem w_ref16_Method {m : rMt} {r : (Str × Int)} (h : ref16_Method m = some r) : ACall Tryz.prog 17 [enc_rMt m] [] (.tup [.str r.1, .int .i64 r.2]) [] := by
 refine aX hf17 ok17 meek_tup ?_
 dsimp only [Tryz.f17, nums, Option.getD, List.append]
 unfold ref16_Method at h
 refine bsome h fun v1 hv1 h => ?_
 simp only [go_sem, seval]
 refine cX (w_ref14_May hv1) ?_
 simp only [go_sem, seval]
 refine cS h (fun hb h => ?_) fun hb h => ?_
 ·simp only [go_sem, seval]
  refine ret_s (fun x => .tup [.str x.1, .int .i64 x.2]) h ?_
  first | rfl | simp only [go_sem, resAV, resAll, resOne, seval]
 ·refine bsome h fun v2 hv2 h => ?_
  simp only [go_sem, seval]
  refine cX (w_ref16_words hv2) ?_
  refine bsome h fun v3 hv3 h => ?_
  simp only [go_sem, seval]
  refine cX (w_ref13_Text hv3) ?_
  simp only [go_sem, seval]
  refine ret_s (fun x => .tup [.str x.1, .int .i64 x.2]) h ?_
  first | rfl | simp only [go_sem, resAV, resAll, resOne, seval]
theorem w_law16_PrintWrites {m : rMt} {r : Bool} (h : law16_PrintWrites m = some r) : ACall Tryz.prog 3 [enc_rMt m] [] (.bool r) [] := by
 refine aX hf3 ok3 meek_bool ?_
 dsimp only [Tryz.f3, nums, Option.getD, List.append]
 unfold law16_PrintWrites at h
 refine bsome h fun v1 hv1 h => ?_
 simp only [go_sem, seval]
 refine cX (w_law16_bigTree hv1) ?_
 simp only [go_sem, seval]
 refine cS h (fun hb h => ?_) fun hb h => ?_
 ·refine bsome h fun v2 hv2 h => ?_
  simp only [go_sem, seval]
  refine cX (w_law16_sure hv2) ?_
  simp only [go_sem, seval]
  exact rS (fun x => .bool x) h
 ·refine bsome h fun v3 hv3 h => ?_
  simp only [go_sem, seval]
  refine cX (w_law16_giveMethod hv3) ?_
  refine bsome h fun v4 hv4 h => ?_
  simp only [go_sem, seval]
  refine cX (w_print_Method hv4) ?_
  refine bsome h fun v5 hv5 h => ?_
  simp only [go_sem, seval]
  refine cX (w_ref16_Method hv5) ?_
  simp only [go_sem, seval]
  refine bsome h fun y6 hy6 h => ?_
  refine rgJ 33 10000 (.inl rfl) (fun w => w [(2, .bool y6)] [hR m]) (runX 10000 ?_) (fun Jy6 => ?_)
  ·clear hy6
   simp only [go_sem, seval]
   exact rS (fun x => .bool x) h
  ·clear h
   have h := hy6
   refine bsome h fun v8 hv8 h => ?_
   simp only [go_sem, seval]
   refine cX (w_law_num hv8) ?_
   simp only [go_sem, seval]
   refine grd_ (fun hb9 => ?_) fun hb9 => ?_
   ·have h := ite_t hb9 h
    simp only [go_sem, seval]
    refine grd_ (fun hb10 => ?_) fun hb10 => ?_
    ·have h := ite_t hb10 h
     refine bsome h fun v11 hv11 h => ?_
     simp only [go_sem, seval]
     refine cX (w_law16_sure hv11) ?_
     simp only [go_sem, seval]
     cases h
     exact atJ (wkn (Jy6) ⟨rfl, trivial⟩)
    ·have h := ite_f hb10 h
     simp only [go_sem, seval]
     cases h
     exact atJ (wkn (Jy6) ⟨rfl, trivial⟩)
   ·have h := ite_f hb9 h
    simp only [go_sem, seval]
    cases h
    exact atJ (wkn (Jy6) ⟨rfl, trivial⟩)
end Go.Cq

