import Derived.Test.YtiboeelbmgnbgaaGreatDoorSh2
import Derived.Test.YtiboeelbmgnbgaaGreatDoorW1
set_option linter.unusedSectionVars false
set_option linter.unusedVariables false
set_option linter.unusedSimpArgs false
set_option linter.unnecessarySimpa false
set_option maxRecDepth 100000
set_option maxHeartbeats 4000000
namespace Go.Cq
open Go Go.Av Go.Proofs
variable [Lay] [SeatLay]
attribute [local irreducible] hold ex W Wr nd cndV rgO zM9 grdO grdV grdG zQc alcX stX nckX
theorem zHe {s : Str} {r : (Int × Bool)} (h : zDD s = some r) : zAe Tryz.prog 124 [.str s] [] (.tup [.int .i64 r.1, .bool r.2]) [] := by
 refine aX hf124 ok124 zAC ?_
 dsimp only [Tryz.f124, nums, Option.getD, List.append]
 unfold zDD at h
 simp only [go_sem, seval]
 refine rgJ 77 10000 (.inl rfl) (fun w => w [(0, .str s), (15, .bool ((decide ((s.length : Int) < 1)) || (decide ((64 : Int) < (s.length : Int)))))] []) (runX 10000 ?_) (fun Jg1 => ?_)
 ·simp only [go_sem, seval]
  apply cS h <;> intro hb h
  ·simp only [go_sem, seval]
   refine zBz (fun x => .tup [.int .i64 x.1, .bool x.2]) h ?_
   first | rfl | simp only [go_sem, zAo, zAh, zAi, seval]
  refine zCN .i64 h fun v4 _ b2 e3 h => ?_
  refine zAb h fun v5 hv5 h => ?_
  simp only [go_sem, seval, b2, e3]
  refine cX (zHT hv5) ?_
  simp only [go_sem, seval]
  apply cS h <;> intro hb h
  ·simp only [go_sem, seval]
   refine zAb h fun y6 hy6 h => ?_
   refine rgJ 77 10000 (.inl rfl) (fun w => w [(31, .bool y6)] []) (runX 10000 ?_) (fun Jy6 => ?_)
   ·clear hy6
    simp only [go_sem, seval]
    apply cS h <;> intro hb h
    ·simp only [go_sem, seval]
     refine zBz (fun x => .tup [.int .i64 x.1, .bool x.2]) h ?_
     first | rfl | simp only [go_sem, zAo, zAh, zAi, seval]
    simp only [go_sem, seval]
    refine zBz (fun x => .tup [.int .i64 x.1, .bool x.2]) h ?_
    first | rfl | simp only [go_sem, zAo, zAh, zAi, seval]
   clear h
   have h := hy6
   simp only [go_sem, seval]
   apply grd_ <;> intro hb8
   ·have h := zAj hb8 h
    simp only [go_sem, seval]
    apply grd_ <;> intro hb9
    ·have h := zAk hb9 h
     refine zCN .i64 h fun v12 _ b10 e11 h => ?_
     refine zAb h fun v13 hv13 h => ?_
     simp only [go_sem, seval, b10, e11]
     refine cX (zHT hv13) ?_
     simp only [go_sem, seval]
     cases h
     exact atJ (wkn Jy6 ⟨rfl, trivial⟩)
    have h := zAj hb9 h
    simp only [go_sem, seval]
    cases h
    exact atJ (wkn Jy6 ⟨rfl, trivial⟩)
   have h := zAk hb8 h
   simp only [go_sem, seval]
   cases h
   exact atJ (wkn Jy6 ⟨rfl, trivial⟩)
  simp only [go_sem, seval]
  refine zBq h fun K15 hK15 h => ?_
  refine blkJ 77 10000 (fun w => ∀ (v39 : Int) (v40 : Bool), K15 v39 v40 = some r → w [(4, .int .i64 v39), (5, .bool v40)] []) (fun v39 v40 h => runX 10000 ?_) (fun JK15 => ?_)
  ·subst hK15
   dsimp only at h
   simp only [go_sem, seval]
   apply cS h <;> intro hb h
   ·simp only [go_sem, seval]
    refine zBz (fun x => .tup [.int .i64 x.1, .bool x.2]) h ?_
    first | rfl | simp only [go_sem, zAo, zAh, zAi, seval]
   simp only [go_sem, seval]
   refine rgJ 77 10000 (.inl rfl) (fun w => w [(4, .int .i64 v39), (75, .bool ((!v40) || (decide ((8 : Int) < v39))))] []) (runX 10000 ?_) (fun Jg41 => ?_)
   ·simp only [go_sem, seval]
    apply cS h <;> intro hb h
    ·simp only [go_sem, seval]
     refine zBz (fun x => .tup [.int .i64 x.1, .bool x.2]) h ?_
     first | rfl | simp only [go_sem, zAo, zAh, zAi, seval]
    simp only [go_sem, seval]
    refine zBz (fun x => .tup [.int .i64 x.1, .bool x.2]) h ?_
    first | rfl | simp only [go_sem, zAo, zAh, zAi, seval]
   simp only [go_sem, seval]
   apply grd_ <;> intro hb42
   ·simp only [go_sem, seval]
    exact atJ (wkn Jg41 ⟨rfl, congrArg AV.bool (by first | rfl | (rw [hb42]; rfl) | (simp [hb42]; done) | simp_all), trivial⟩)
   simp only [go_sem, seval]
   exact atJ (wkn Jg41 ⟨rfl, congrArg AV.bool (by first | rfl | (rw [hb42]; rfl) | (simp [hb42]; done) | simp_all), trivial⟩)
  clear hK15
  simp only [go_sem, seval]
  refine lpJ 77 fuel (fun q1 w => ∀ (v16 : Int) (v17 : Bool) (v18 : Int), zBr s K15 q1 v16 v17 v18 = some r → w [(0, .str s), (4, .int .i64 v16), (5, .bool v17), (6, .int .i64 v18)] []) (fun w _ _ _ h => nomatch h) (fun q1 ih1 v16 v17 v18 h => ?_) (fun L1 => ?_)
  ·unfold zBr at h
   apply rL
   simp only [go_sem, seval]
   apply cS h <;> intro hb h
   ·simp only [go_sem, seval]
    refine zBq h fun K20 hK20 h => ?_
    refine blkJ 77 10000 (fun w => ∀ (v35 : Int) (v36 : Bool), K20 v35 v36 = some r → w [(0, .str s), (4, .int .i64 v35), (5, .bool v36), (6, .int .i64 v18)] []) (fun v35 v36 h => runX 10000 ?_) (fun JK20 => ?_)
    ·subst hK20
     dsimp only at h
     refine zAF h fun v38 _ e37 h => ?_
     simp only [go_sem, seval, e37]
     exact zAc (ih1 v35 v36 v38 h) ⟨rfl, rfl, rfl, rfl, trivial⟩
    clear hK20
    refine zCN .i64 h fun v23 _ b21 e22 h => ?_
    simp only [go_sem, seval, b21, e22]
    apply cS h <;> intro hb h
    ·refine zAb h fun v24 hv24 h => ?_
     simp only [go_sem, seval]
     refine cX (zHk hv24) ?_
     simp only [go_sem, seval]
     apply cS h <;> intro hb h
     ·simp only [go_sem, seval]
      refine zBz (fun x => .tup [.int .i64 x.1, .bool x.2]) h ?_
      first | rfl | simp only [go_sem, zAo, zAh, zAi, seval]
     simp only [go_sem, seval]
     exact atJ (wkn (JK20 v16 false h) ⟨rfl, rfl, rfl, rfl, trivial⟩)
    simp only [go_sem, seval]
    apply cS h <;> intro hb h
    ·refine zAF h fun v26 _ e25 h => ?_
     simp only [go_sem, seval, e25]
     exact atJ (wkn (JK20 v26 true h) ⟨rfl, rfl, rfl, rfl, trivial⟩)
    simp only [go_sem, seval]
    refine zAb h fun y27 hy27 h => ?_
    refine rgJ 77 10000 (.inl rfl) (fun w => w [(0, .str s), (4, .int .i64 v16), (5, .bool v17), (6, .int .i64 v18), (67, .bool y27)] []) (runX 10000 ?_) (fun Jy27 => ?_)
    ·clear hy27
     simp only [go_sem, seval]
     apply cS h <;> intro hb h
     ·simp only [go_sem, seval]
      refine zBz (fun x => .tup [.int .i64 x.1, .bool x.2]) h ?_
      first | rfl | simp only [go_sem, zAo, zAh, zAi, seval]
     simp only [go_sem, seval]
     exact atJ (wkn (JK20 v16 v17 h) ⟨rfl, rfl, rfl, rfl, trivial⟩)
    clear h
    have h := hy27
    refine zAb h fun v29 hv29 h => ?_
    simp only [go_sem, seval]
    refine cX (zHk hv29) ?_
    simp only [go_sem, seval]
    apply grd_ <;> intro hb30
    ·have h := zAk hb30 h
     simp only [go_sem, seval]
     apply grd_ <;> intro hb31
     ·have h := zAj hb31 h
      simp only [go_sem, seval]
      apply grd_ <;> intro hb32
      ·have h := zAk hb32 h
       simp only [go_sem, seval]
       apply grd_ <;> intro hb33
       ·have h := zAj hb33 h
        simp only [go_sem, seval]
        cases h
        exact atJ (wkn Jy27 ⟨rfl, rfl, rfl, rfl, rfl, trivial⟩)
       have h := zAk hb33 h
       simp only [go_sem, seval]
       cases h
       exact atJ (wkn Jy27 ⟨rfl, rfl, rfl, rfl, rfl, trivial⟩)
      have h := zAj hb32 h
      simp only [go_sem, seval]
      cases h
      exact atJ (wkn Jy27 ⟨rfl, rfl, rfl, rfl, rfl, trivial⟩)
     have h := zAk hb31 h
     simp only [go_sem, seval]
     apply grd_ <;> intro hb34
     ·have h := zAj hb34 h
      simp only [go_sem, seval]
      cases h
      exact atJ (wkn Jy27 ⟨rfl, rfl, rfl, rfl, rfl, trivial⟩)
     have h := zAk hb34 h
     simp only [go_sem, seval]
     cases h
     exact atJ (wkn Jy27 ⟨rfl, rfl, rfl, rfl, rfl, trivial⟩)
    have h := zAj hb30 h
    simp only [go_sem, seval]
    cases h
    exact atJ (wkn Jy27 ⟨rfl, rfl, rfl, rfl, rfl, trivial⟩)
   simp only [go_sem, seval]
   exact atJ (wkn (JK15 v16 v17 h) ⟨rfl, rfl, trivial⟩)
  exact zAc (L1 0 true 0 h) ⟨rfl, rfl, rfl, rfl, trivial⟩
 simp only [go_sem, seval]
 apply grd_ <;> intro hb43
 ·simp only [go_sem, seval]
  exact atJ (wkn Jg1 ⟨rfl, congrArg AV.bool (by first | rfl | (rw [hb43]; rfl) | (simp [hb43]; done) | simp_all), trivial⟩)
 simp only [go_sem, seval]
 exact atJ (wkn Jg1 ⟨rfl, congrArg AV.bool (by first | rfl | (rw [hb43]; rfl) | (simp [hb43]; done) | simp_all), trivial⟩)
theorem zFH {sel : Str} {n : Int} {r : Bool} (h : zDa sel n = some r) : zAe Tryz.prog 67 [.str sel, .int .i64 n] [] (.bool r) [] := by
 refine aX hf67 ok67 zAg ?_
 dsimp only [Tryz.f67, nums, Option.getD, List.append]
 unfold zDa at h
 refine zAb h fun v1 hv1 h => ?_
 simp only [go_sem, seval]
 refine cX (zHe hv1) ?_
 simp only [go_sem, seval]
 refine rgJ 18 10000 (.inl rfl) (fun w => w [(4, .bool (v1.2 && (decide (v1.1 = n))))] []) (runX 10000 ?_) (fun Jg2 => ?_)
 ·simp only [go_sem, seval]
  exact rS .bool h
 simp only [go_sem, seval]
 apply grd_ <;> intro hb3
 ·simp only [go_sem, seval]
  exact atJ (wkn Jg2 ⟨congrArg AV.bool (by first | rfl | (rw [hb3]; rfl) | (simp [hb3]; done) | simp_all), trivial⟩)
 simp only [go_sem, seval]
 exact atJ (wkn Jg2 ⟨congrArg AV.bool (by first | rfl | (rw [hb3]; rfl) | (simp [hb3]; done) | simp_all), trivial⟩)
theorem zEM {s : Str} {lo : Int} {hi : Int} {r : Bool} (h : zB4 s lo hi = some r) : zAe Tryz.prog 85 [.str s, .int .u8 lo, .int .u8 hi] [] (.bool r) [] := by
 refine aX hf85 ok85 zAg ?_
 dsimp only [Tryz.f85, nums, Option.getD, List.append]
 unfold zB4 at h
 simp only [go_sem, seval]
 refine zAb h fun y1 hy1 h => ?_
 refine rgJ 68 10000 (.inl rfl) (fun w => w [(0, .str s), (27, .bool y1)] []) (runX 10000 ?_) (fun Jy1 => ?_)
 ·clear hy1
  simp only [go_sem, seval]
  apply cS h <;> intro hb h
  ·simp only [go_sem, seval]
   exact rS .bool h
  simp only [go_sem, seval]
  refine zBq h fun K12 hK12 h => ?_
  refine blkJ 68 10000 (fun w => K12 () = some r → w [] []) (fun h => runX 10000 ?_) (fun JK12 => ?_)
  ·subst hK12
   dsimp only at h
   simp only [go_sem, seval]
   exact rS .bool h
  clear hK12
  simp only [go_sem, seval]
  refine lpJ 68 fuel (fun q1 w => ∀ (v13 : Int), zBH s K12 q1 v13 = some r → w [(0, .str s), (7, .int .i64 v13)] []) (fun w _ h => nomatch h) (fun q1 ih1 v13 h => ?_) (fun L1 => ?_)
  ·unfold zBH at h
   apply rL
   simp only [go_sem, seval]
   apply cS h <;> intro hb h
   ·simp only [go_sem, seval]
    apply bK
    simp only [go_sem, seval]
    refine zAb h fun y14 hy14 h => ?_
    refine rgJ 68 10000 (.inl rfl) (fun w => w [(0, .str s), (7, .int .i64 v13), (67, .bool y14)] []) (runX 10000 ?_) (fun Jy14 => ?_)
    ·clear hy14
     simp only [go_sem, seval]
     apply cS h <;> intro hb h
     ·simp only [go_sem, seval]
      exact rS .bool h
     refine zAF h fun v56 _ e55 h => ?_
     simp only [go_sem, seval, e55]
     exact zAc (ih1 v56 h) ⟨rfl, rfl, trivial⟩
    clear h
    have h := hy14
    refine zCN .i64 h fun v18 _ b16 e17 h => ?_
    simp only [go_sem, seval, b16, e17]
    apply grd_ <;> intro hb19
    ·have h := zAj hb19 h
     simp only [go_sem, seval, b16, e17]
     apply grd_ <;> intro hb22
     ·have h := zAk hb22 h
      simp only [go_sem, seval, b16, e17]
      apply grd_ <;> intro hb25
      ·have h := zAj hb25 h
       simp only [go_sem, seval, b16, e17]
       apply grd_ <;> intro hb28
       ·have h := zAk hb28 h
        simp only [go_sem, seval, b16, e17]
        apply grd_ <;> intro hb31
        ·have h := zAj hb31 h
         simp only [go_sem, seval, b16, e17]
         cases h
         exact atJ (wkn Jy14 ⟨rfl, rfl, rfl, trivial⟩)
        have h := zAk hb31 h
        simp only [go_sem, seval]
        cases h
        exact atJ (wkn Jy14 ⟨rfl, rfl, rfl, trivial⟩)
       have h := zAj hb28 h
       simp only [go_sem, seval]
       cases h
       exact atJ (wkn Jy14 ⟨rfl, rfl, rfl, trivial⟩)
      have h := zAk hb25 h
      simp only [go_sem, seval, b16, e17]
      apply grd_ <;> intro hb36
      ·have h := zAj hb36 h
       simp only [go_sem, seval, b16, e17]
       cases h
       exact atJ (wkn Jy14 ⟨rfl, rfl, rfl, trivial⟩)
      have h := zAk hb36 h
      simp only [go_sem, seval]
      cases h
      exact atJ (wkn Jy14 ⟨rfl, rfl, rfl, trivial⟩)
     have h := zAj hb22 h
     simp only [go_sem, seval]
     cases h
     exact atJ (wkn Jy14 ⟨rfl, rfl, rfl, trivial⟩)
    have h := zAk hb19 h
    simp only [go_sem, seval, b16, e17]
    apply grd_ <;> intro hb41
    ·have h := zAj hb41 h
     simp only [go_sem, seval, b16, e17]
     apply grd_ <;> intro hb44
     ·have h := zAk hb44 h
      simp only [go_sem, seval, b16, e17]
      apply grd_ <;> intro hb47
      ·have h := zAj hb47 h
       simp only [go_sem, seval, b16, e17]
       cases h
       exact atJ (wkn Jy14 ⟨rfl, rfl, rfl, trivial⟩)
      have h := zAk hb47 h
      simp only [go_sem, seval]
      cases h
      exact atJ (wkn Jy14 ⟨rfl, rfl, rfl, trivial⟩)
     have h := zAj hb44 h
     simp only [go_sem, seval]
     cases h
     exact atJ (wkn Jy14 ⟨rfl, rfl, rfl, trivial⟩)
    have h := zAk hb41 h
    simp only [go_sem, seval, b16, e17]
    apply grd_ <;> intro hb52
    ·have h := zAj hb52 h
     simp only [go_sem, seval, b16, e17]
     cases h
     exact atJ (wkn Jy14 ⟨rfl, rfl, rfl, trivial⟩)
    have h := zAk hb52 h
    simp only [go_sem, seval]
    cases h
    exact atJ (wkn Jy14 ⟨rfl, rfl, rfl, trivial⟩)
   simp only [go_sem, seval]
   exact atJ (wkn (JK12 h) trivial)
  exact zAc (L1 0 h) ⟨rfl, rfl, trivial⟩
 clear h
 have h := hy1
 simp only [go_sem, seval]
 apply grd_ <;> intro hb3
 ·have h := zAj hb3 h
  simp only [go_sem, seval]
  apply grd_ <;> intro hb4
  ·have h := zAj hb4 h
   refine zCN .i64 h fun v7 _ b5 e6 h => ?_
   simp only [go_sem, seval, b5, e6]
   apply grd_ <;> intro hb8
   ·have h := zAj hb8 h
    simp only [go_sem, seval, b5, e6]
    cases h
    exact atJ (wkn Jy1 ⟨rfl, rfl, trivial⟩)
   have h := zAk hb8 h
   simp only [go_sem, seval]
   cases h
   exact atJ (wkn Jy1 ⟨rfl, rfl, trivial⟩)
  have h := zAk hb4 h
  simp only [go_sem, seval]
  cases h
  exact atJ (wkn Jy1 ⟨rfl, rfl, trivial⟩)
 have h := zAk hb3 h
 simp only [go_sem, seval]
 cases h
 exact atJ (wkn Jy1 ⟨rfl, rfl, trivial⟩)
theorem zFo {s : Str} {r : Bool} (h : zDR s = some r) : zAe Tryz.prog 86 [.str s] [] (.bool r) [] := by
 refine aX hf86 ok86 zAg ?_
 dsimp only [Tryz.f86, nums, Option.getD, List.append]
 unfold zDR at h
 simp only [go_sem, seval]
 refine zAb h fun y1 hy1 h => ?_
 refine rgJ 25 10000 (.inl rfl) (fun w => w [(2, .bool y1)] []) (runX 10000 ?_) (fun Jy1 => ?_)
 ·clear hy1
  simp only [go_sem, seval]
  exact rS .bool h
 clear h
 have h := hy1
 refine zAb h fun v3 hv3 h => ?_
 simp only [go_sem, seval]
 refine cX (zEM hv3) ?_
 simp only [go_sem, seval]
 apply grd_ <;> intro hb4
 ·have h := zAk hb4 h
  simp only [go_sem, seval]
  apply grd_ <;> intro hb5
  ·have h := zAk hb5 h
   simp only [go_sem, seval]
   apply grd_ <;> intro hb6
   ·have h := zAk hb6 h
    simp only [go_sem, seval]
    apply grd_ <;> intro hb7
    ·have h := zAk hb7 h
     simp only [go_sem, seval]
     apply grd_ <;> intro hb8
     ·have h := zAk hb8 h
      simp only [go_sem, seval]
      cases h
      exact atJ (wkn Jy1 ⟨rfl, trivial⟩)
     have h := zAj hb8 h
     simp only [go_sem, seval]
     cases h
     exact atJ (wkn Jy1 ⟨rfl, trivial⟩)
    have h := zAj hb7 h
    simp only [go_sem, seval]
    cases h
    exact atJ (wkn Jy1 ⟨rfl, trivial⟩)
   have h := zAj hb6 h
   simp only [go_sem, seval]
   cases h
   exact atJ (wkn Jy1 ⟨rfl, trivial⟩)
  have h := zAj hb5 h
  simp only [go_sem, seval]
  cases h
  exact atJ (wkn Jy1 ⟨rfl, trivial⟩)
 have h := zAj hb4 h
 simp only [go_sem, seval]
 cases h
 exact atJ (wkn Jy1 ⟨rfl, trivial⟩)
theorem zH5 {l : (List Str)} {most : Int} {r : Bool} (h : zDg l most = some r) : zAe Tryz.prog 68 [.sl none (List.map AV.str l), .int .i64 most] [] (.bool r) [] := by
 refine aX hf68 ok68 zAg ?_
 dsimp only [Tryz.f68, nums, Option.getD, List.append]
 unfold zDg at h
 simp only [go_sem, seval]
 apply cS h <;> intro hb h
 ·simp only [go_sem, seval]
  exact rS .bool h
 simp only [go_sem, seval]
 refine zBq h fun K2 hK2 h => ?_
 refine blkJ 37 10000 (fun w => K2 () = some r → w [] []) (fun h => runX 10000 ?_) (fun JK2 => ?_)
 ·subst hK2
  dsimp only at h
  simp only [go_sem, seval]
  exact rS .bool h
 clear hK2
 simp only [go_sem, seval]
 refine lpJ 37 fuel (fun q1 w => ∀ (v3 : Int), zCi l K2 q1 v3 = some r → w [(0, .sl none (List.map AV.str l)), (5, .int .i64 v3)] []) (fun w _ h => nomatch h) (fun q1 ih1 v3 h => ?_) (fun L1 => ?_)
 ·unfold zCi at h
  apply rL
  simp only [go_sem, seval]
  apply cS h <;> intro hb h
  ·simp only [go_sem, seval]
   apply bK
   refine zAp AV.str none .i64 ⟨9, 1, false, 16⟩ (fun _ => rfl) h fun v6 _ b4 e5 h => ?_
   refine zAb h fun v7 hv7 h => ?_
   simp only [go_sem, seval, b4, e5]
   refine cX (zFo hv7) ?_
   simp only [go_sem, seval]
   apply cS h <;> intro hb h
   ·simp only [go_sem, seval]
    exact rS .bool h
   simp only [go_sem, seval]
   refine zBq h fun K9 hK9 h => ?_
   refine blkJ 37 10000 (fun w => K9 () = some r → w [(0, .sl none (List.map AV.str l)), (5, .int .i64 v3)] []) (fun h => runX 10000 ?_) (fun JK9 => ?_)
   ·subst hK9
    dsimp only at h
    refine zAF h fun v19 _ e18 h => ?_
    simp only [go_sem, seval, e18]
    exact zAc (ih1 v19 h) ⟨rfl, rfl, trivial⟩
   clear hK9
   simp only [go_sem, seval]
   refine lpJ 37 fuel (fun q2 w => ∀ (v10 : Int), zBM l v3 v6 K9 q2 v10 = some r → w [(0, .sl none (List.map AV.str l)), (5, .int .i64 v3), (6, .int .i64 v10)] []) (fun w _ h => nomatch h) (fun q2 ih2 v10 h => ?_) (fun L2 => ?_)
   ·unfold zBM at h
    apply rL
    simp only [go_sem, seval]
    apply cS h <;> intro hb h
    ·simp only [go_sem, seval]
     apply bK
     simp only [go_sem, seval]
     refine rg_ 10000 (.inr ⟨[], by kernel_rfl, by kernel_rfl, by rfl⟩) ?_
     refine zAp AV.str none .i64 ⟨9, 1, false, 16⟩ (fun _ => rfl) h fun v13 _ b11 e12 h => ?_
     simp only [go_sem, seval, b11, e12, b4, e5]
     apply cS h <;> intro hb h
     ·simp only [go_sem, seval]
      exact rS .bool h
     refine zAF h fun v17 _ e16 h => ?_
     simp only [go_sem, seval, e16]
     exact zAc (ih2 v17 h) ⟨rfl, rfl, rfl, trivial⟩
    simp only [go_sem, seval]
    exact atJ (wkn (JK9 h) ⟨rfl, rfl, trivial⟩)
   exact zAc (L2 0 h) ⟨rfl, rfl, rfl, trivial⟩
  simp only [go_sem, seval]
  exact atJ (wkn (JK2 h) trivial)
 exact zAc (L1 0 h) ⟨rfl, rfl, trivial⟩
theorem zNe {p0_b : (List Int)} {r : (List Int)} (h : zG9 p0_b = some r) : zAe Tryz.prog 220 [.sl none (List.map (AV.int .u8) p0_b)] [] (.sl none (List.map (AV.int .u8) r)) [] := by
 refine aX hf220 ok220 zDb ?_
 dsimp only [Tryz.f220, nums, Option.getD, List.append]
 unfold zG9 at h
 simp only [go_sem, seval]
 refine zAb h fun y1 hy1 h => ?_
 refine blkJ 21 10000 (fun w => w [(0, .sl none (List.map (AV.int .u8) y1))] []) (runX 10000 ?_) (fun Jy1 => ?_)
 ·clear hy1
  simp only [go_sem, seval]
  exact rS (fun x => .sl none (List.map (AV.int .u8) x)) h
 clear h
 have h := hy1
 simp only [go_sem, seval]
 refine lpJ 21 fuel (fun q1 w => ∀ (v3 : (List Int)), zDh q1 v3 = some y1 → w [(0, .sl none (List.map (AV.int .u8) v3))] []) (fun w _ h => nomatch h) (fun q1 ih1 v3 h => ?_) (fun L1 => ?_)
 ·unfold zDh at h
  apply rL
  simp only [go_sem, seval]
  refine zAb h fun y4 hy4 h => ?_
  refine rgJ 21 10000 (.inl rfl) (fun w => w [(0, .sl none (List.map (AV.int .u8) v3)), (14, .bool y4)] []) (runX 10000 ?_) (fun Jy4 => ?_)
  ·clear hy4
   simp only [go_sem, seval]
   apply cS h <;> intro hb h
   ·simp only [go_sem, seval]
    apply bK
    refine zGs h fun v13 _ e12 h => ?_
    refine zGw (AV.int .u8) none ⟨5, 1, false, 1⟩ (fun _ => rfl) none (some (.int .i64 v13)) rfl rfl h fun v16 _ b14 e15 h => ?_
    simp only [go_sem, seval, e12, b14, e15]
    exact zAc (ih1 v16 h) ⟨rfl, trivial⟩
   simp only [go_sem, seval]
   cases h
   exact atJ (wkn Jy1 ⟨rfl, trivial⟩)
  clear h
  have h := hy4
  simp only [go_sem, seval]
  apply grd_ <;> intro hb6
  ·have h := zAk hb6 h
   refine zGs h fun v8 _ e7 h => ?_
   refine zAp (AV.int .u8) none .i64 ⟨5, 1, false, 1⟩ (fun _ => rfl) h fun v11 _ b9 e10 h => ?_
   simp only [go_sem, seval, e7, b9, e10]
   cases h
   exact atJ (wkn Jy4 ⟨rfl, rfl, trivial⟩)
  have h := zAj hb6 h
  simp only [go_sem, seval]
  cases h
  exact atJ (wkn Jy4 ⟨rfl, rfl, trivial⟩)
 exact zAc (L1 p0_b h) ⟨rfl, trivial⟩
theorem zJ0 {p0_b : (List Int)} {r : (List Int)} (h : zFq p0_b = some r) : zAe Tryz.prog 221 [.sl none (List.map (AV.int .u8) p0_b)] [] (.sl none (List.map (AV.int .u32) r)) [] := by
 refine aX hf221 ok221 zDb ?_
 dsimp only [Tryz.f221, nums, Option.getD, List.append]
 unfold zFq at h
 simp only [go_sem, seval]
 refine zNu 3 0 false rfl (by first | rfl | simp only [go_sem]) rfl ?_
 refine zAb h fun y1 hy1 h => ?_
 refine blkJ 37 10000 (fun w => w [(3, .rs 0 0 y1.length 1 false false)] [some (List.map (AV.int .u32) y1)]) (runX 10000 ?_) (fun Jy1 => ?_)
 ·clear hy1
  simp only [go_sem, seval]
  refine mvF_ 10000 (AV.int .u32) zHr (v := y1) rfl rfl (by first | rfl | simp only [go_sem]) (by first | rfl | simp only [go_sem]) (by first | rfl | simp only [go_sem]) rfl rfl ?_
  simp only [go_sem, seval]
  exact rS (fun x => .sl none (List.map (AV.int .u32) x)) h
 clear h
 have h := hy1
 simp only [go_sem, seval]
 refine lpJ 37 fuel (fun q1 w => ∀ (v38 : Int) (v39 : (List Int)), zBO p0_b q1 v38 v39 = some y1 → w [(0, .sl none (List.map (AV.int .u8) p0_b)), (3, .rs 0 0 v39.length 1 false false), (4, .int .i64 v38)] [some (List.map (AV.int .u32) v39)]) (fun w _ _ h => nomatch h) (fun q1 ih1 v38 v39 h => ?_) (fun L1 => ?_)
 ·unfold zBO at h
  apply rL
  simp only [go_sem, seval]
  apply cS h <;> intro hb h
  ·simp only [go_sem, seval]
   apply bK
   refine rem_s .i64 h fun v42 _ b41 e40 h => ?_
   simp only [go_sem, seval, e40, ne_eq, Int.reduceEq, not_false_eq_true]
   refine zAb h fun y43 hy43 h => ?_
   refine cndJ 37 10000 (fun w => w [(0, .sl none (List.map (AV.int .u8) p0_b)), (3, .rs 0 0 y43.length 1 false false), (4, .int .i64 v38)] [some (List.map (AV.int .u32) y43)]) (runX 10000 ?_) (fun Jy43 => ?_)
   ·clear hy43
    simp only [go_sem, seval]
    refine rg_ 10000 (.inr ⟨[], by kernel_rfl, by kernel_rfl, by rfl⟩) ?_
    refine quo_s h fun v51 _ b50 e49 h => ?_
    refine bAt_s (AV.int .u32) .i64 ⟨272, 1, false, 4⟩ rfl 0 false false rfl h fun v60 _ e54 e55 e56 e57 e58 e59 h => ?_
    refine zAp (AV.int .u8) none .i64 ⟨5, 1, false, 1⟩ (fun _ => rfl) h fun v63 _ b61 e62 h => ?_
    refine shl_s h fun v68 _ b67 e66 h => ?_
    refine stB_s h fun v71 e69 e70 h => ?_
    refine zAF h fun v73 _ e72 h => ?_
    simp only [go_sem, seval, e49, ne_eq, Int.reduceEq, not_false_eq_true, e54, e55, e56, e57, e58, b61, e62, (zOR (s := 5) (k := .u8) io272 v63), e40, (zOR (s := 3) (k := .i64) io234 v42), e66, b67, (show intv .add .u32 v60 v68 = .int .u32 (IntKind.wrap .u32 (v60 + v68)) from rfl), e59, e69, e72]
    exact zAc (ih1 v73 v71 h) ⟨rfl, congrArg (fun n => AV.rs 0 0 n 1 false false) e70.symm, rfl, trivial⟩
   clear h
   have h := hy43
   apply cS h <;> intro hb h
   ·simp only [go_sem, seval]
    refine appB_s (AV.int .u32) (some none) ⟨272, 1, false, 4⟩ (fun _ => rfl) (by decide) rfl h fun v48 e45 e46 e47 h => ?_
    refine appB_ 10000 (AV.int .u32) zHr (v := v39) (ws := ([0] : List Int)) rfl rfl rfl el175 rfl kd175 (by first | rfl | simp only [go_sem]) (by first | rfl | simp only [go_sem]) (by first | rfl | simp only [go_sem]) e45 e46 e47 (by first | rfl | simp only [go_sem]) rfl rfl ?_
    simp only [go_sem, seval]
    cases h
    exact atJ (wkn Jy43 ⟨rfl, rfl, rfl, trivial⟩)
   simp only [go_sem, seval]
   cases h
   exact atJ (wkn Jy43 ⟨rfl, rfl, rfl, trivial⟩)
  simp only [go_sem, seval]
  cases h
  exact atJ (wkn Jy1 ⟨rfl, trivial⟩)
 exact zAc (L1 0 [] h) ⟨rfl, rfl, rfl, trivial⟩
theorem zMa {neg : Bool} {p1_b : (List Int)} {r : (ref03_Num × Int)} (h : zGn neg p1_b = some r) : zAe Tryz.prog 182 [.bool neg, .sl none (List.map (AV.int .u8) p1_b)] [] (.tup [zCh r.1, .int .i64 r.2]) [] := by
 refine aX hf182 ok182 zAC ?_
 dsimp only [Tryz.f182, nums, Option.getD, List.append]
 unfold zGn at h
 refine zAb h fun v1 hv1 h => ?_
 simp only [go_sem, seval]
 refine cX (zNe hv1) ?_
 refine zAb h fun v2 hv2 h => ?_
 simp only [go_sem, seval]
 refine cX (zJ0 hv2) ?_
 simp only [go_sem, seval]
 apply cS h <;> intro hb h
 ·simp only [go_sem, seval]
  refine zBz (fun x => .tup [zCh x.1, .int .i64 x.2]) h ?_
  first | rfl | simp only [go_sem, zAo, zAh, zAi, seval]
 simp only [go_sem, seval]
 refine zAb h fun y3 hy3 h => ?_
 refine rgJ 24 10000 (.inl rfl) (fun w => w [(4, .ptr 0 0), (5, .int .i64 0)] [some [.bool y3, .sl none (List.map (AV.int .u32) v2)]]) (runX 10000 ?_) (fun Jy3 => ?_)
 ·clear hy3
  simp only [go_sem, seval]
  refine zBz (fun x => .tup [zCh x.1, .int .i64 x.2]) h ?_
  first | rfl | simp only [go_sem, zAo, zAh, zAi, seval]
 clear h
 have h := hy3
 simp only [go_sem, seval]
 apply grd_ <;> intro hb5
 ·have h := zAk hb5 h
  simp only [go_sem, seval]
  cases h
  exact atJ (wkn Jy3 ⟨rfl, rfl, trivial⟩)
 have h := zAj hb5 h
 simp only [go_sem, seval]
 cases h
 exact atJ (wkn Jy3 ⟨rfl, rfl, trivial⟩)
theorem zJZ {s : Str} {r : (ref03_Num × Int)} (h : zEn s = some r) : zAe Tryz.prog 125 [.str s] [] (.tup [zCh r.1, .int .i64 r.2]) [] := by
 refine aX hf125 ok125 zAC ?_
 dsimp only [Tryz.f125, nums, Option.getD, List.append]
 unfold zEn at h
 simp only [go_sem, seval]
 refine zAb h fun y1 hy1 h => ?_
 refine rgJ 115 10000 (.inl rfl) (fun w => w [(0, .str s), (2, .ptr 0 0), (4, .bool y1)] [some [.bool false, .sl (some none) []]]) (runX 10000 ?_) (fun Jy1 => ?_)
 ·clear hy1
  simp only [go_sem, seval]
  refine zAb h fun y7 hy7 h => ?_
  refine cndJ 115 10000 (fun w => w [(2, .ptr 0 0), (4, .bool y1), (5, .str y7)] [some [.bool false, .sl (some none) []]]) (runX 10000 ?_) (fun Jy7 => ?_)
  ·clear hy7
   simp only [go_sem, seval]
   refine zAb h fun y12 hy12 h => ?_
   refine rgJ 115 10000 (.inl rfl) (fun w => w [(2, .ptr 0 0), (4, .bool y1), (5, .str y7), (48, .bool y12)] [some [.bool false, .sl (some none) []]]) (runX 10000 ?_) (fun Jy12 => ?_)
   ·clear hy12
    simp only [go_sem, seval]
    apply cS h <;> intro hb h
    ·simp only [go_sem, seval]
     refine zBz (fun x => .tup [zCh x.1, .int .i64 x.2]) h ?_
     first | rfl | simp only [go_sem, zAo, zAh, zAi, seval]
    simp only [go_sem, seval]
    refine zBq h fun K24 hK24 h => ?_
    refine blkJ 115 10000 (fun w => ∀ (v43 : (List Int)), K24 v43 = some r → w [(2, .ptr 0 0), (4, .bool y1), (6, .sl (some none) (List.map (AV.int .u8) v43))] [some [.bool false, .sl (some none) []]]) (fun v43 h => runX 10000 ?_) (fun JK24 => ?_)
    ·subst hK24
     dsimp only at h
     simp only [go_sem, seval]
     refine zAb h fun y44 hy44 h => ?_
     refine blkJ 115 10000 (fun w => w [(2, .ptr 0 0), (4, .bool y1), (8, .sl (some none) (List.map (AV.int .u8) y44))] [some [.bool false, .sl (some none) []]]) (runX 10000 ?_) (fun Jy44 => ?_)
     ·clear hy44
      refine zAb h fun v110 hv110 h => ?_
      simp only [go_sem, seval]
      refine cX (zMa hv110) ?_
      simp only [go_sem, seval]
      refine zBz (fun x => .tup [zCh x.1, .int .i64 x.2]) h ?_
      first | rfl | simp only [go_sem, zAo, zAh, zAi, seval]
     clear h
     have h := hy44
     simp only [go_sem, seval]
     refine unown_lp 6 (by first | rfl | simp only [go_sem]) ?_
     refine lpJ 115 fuel (fun q2 w => ∀ (v78 : (List Int)) (v79 : (List Int)), zBW q2 v78 v79 = some y44 → w [(2, .ptr 0 0), (4, .bool y1), (6, .sl none (List.map (AV.int .u8) v78)), (8, .sl (some none) (List.map (AV.int .u8) v79))] [some [.bool false, .sl (some none) []]]) (fun w _ _ h => nomatch h) (fun q2 ih2 v78 v79 h => ?_) (fun L2 => ?_)
     ·unfold zBW at h
      apply rL
      simp only [go_sem, seval]
      apply cS h <;> intro hb h
      ·simp only [go_sem, seval]
       apply bK
       simp only [go_sem, seval]
       refine zAb h fun y80 hy80 h => ?_
       refine blkJ 115 10000 (fun w => w [(2, .ptr 0 0), (4, .bool y1), (8, .sl (some none) (List.map (AV.int .u8) v79)), (9, .int .u8 y80.1), (10, .sl (some none) (List.map (AV.int .u8) y80.2))] [some [.bool false, .sl (some none) []]]) (runX 10000 ?_) (fun Jy80 => ?_)
       ·clear hy80
        refine zAQ (AV.int .u8) (some none) ⟨5, 1, false, 1⟩ (fun _ => rfl) (by decide) rfl h fun v109 _ (b107 : appc ⟨5, 1, false, 1⟩ (.sl (some none) (List.map (AV.int .u8) v79)) (.sl (some none) [.int .u8 y80.1])) (e108 : appv (.sl (some none) (List.map (AV.int .u8) v79)) (.sl (some none) [.int .u8 y80.1]) = .sl (some none) (List.map (AV.int .u8) v109)) h => ?_
        simp only [go_sem, seval, b107, e108]
        exact zAc (ih2 y80.2 v109 h) ⟨rfl, rfl, rfl, rfl, trivial⟩
       clear h
       have h := hy80
       simp only [go_sem, seval]
       refine lpJ 115 fuel (fun q4 w => ∀ (v82 : Int) (v83 : (List Int)) (v84 : Int), zBu v78 q4 v82 v83 v84 = some y80 → w [(2, .ptr 0 0), (4, .bool y1), (6, .sl none (List.map (AV.int .u8) v78)), (8, .sl (some none) (List.map (AV.int .u8) v79)), (9, .int .u8 v82), (10, .sl (some none) (List.map (AV.int .u8) v83)), (11, .int .i64 v84)] [some [.bool false, .sl (some none) []]]) (fun w _ _ _ h => nomatch h) (fun q4 ih4 v82 v83 v84 h => ?_) (fun L4 => ?_)
       ·unfold zBu at h
        apply rL
        simp only [go_sem, seval]
        apply cS h <;> intro hb h
        ·simp only [go_sem, seval]
         apply bK
         refine zAp (AV.int .u8) none .i64 ⟨5, 1, false, 1⟩ (fun _ => rfl) h fun v87 _ b85 e86 h => ?_
         simp only [go_sem, seval, (show intv .mul .u8 10 v82 = .int .u8 (IntKind.wrap .u8 (10 * v82)) from rfl), b85, e86, (show intv .add .u8 (IntKind.wrap .u8 (10 * v82)) v87 = .int .u8 (IntKind.wrap .u8 ((IntKind.wrap .u8 (10 * v82)) + v87)) from rfl)]
         refine zAb h fun y88 hy88 h => ?_
         refine rgJ 115 10000 (.inl rfl) (fun w => w [(2, .ptr 0 0), (4, .bool y1), (6, .sl none (List.map (AV.int .u8) v78)), (8, .sl (some none) (List.map (AV.int .u8) v79)), (9, .int .u8 (IntKind.wrap .u8 ((IntKind.wrap .u8 (10 * v82)) + v87))), (10, .sl (some none) (List.map (AV.int .u8) v83)), (11, .int .i64 v84), (97, .bool y88)] [some [.bool false, .sl (some none) []]]) (runX 10000 ?_) (fun Jy88 => ?_)
         ·clear hy88
          simp only [go_sem, seval]
          refine zAb h fun y94 hy94 h => ?_
          refine cndJ 115 10000 (fun w => w [(2, .ptr 0 0), (4, .bool y1), (6, .sl none (List.map (AV.int .u8) v78)), (8, .sl (some none) (List.map (AV.int .u8) v79)), (9, .int .u8 (IntKind.wrap .u8 ((IntKind.wrap .u8 (10 * v82)) + v87))), (10, .sl (some none) (List.map (AV.int .u8) y94)), (11, .int .i64 v84)] [some [.bool false, .sl (some none) []]]) (runX 10000 ?_) (fun Jy94 => ?_)
          ·clear hy94
           refine rem_s .u8 h fun v104 _ b103 e102 h => ?_
           refine zAF h fun v106 _ e105 h => ?_
           simp only [go_sem, seval, e102, ne_eq, Int.reduceEq, not_false_eq_true, e105]
           exact zAc (ih4 v104 y94 v106 h) ⟨rfl, rfl, rfl, rfl, rfl, rfl, rfl, trivial⟩
          clear h
          have h := hy94
          apply cS h <;> intro hb h
          ·refine quo_s h fun v98 _ b97 e96 h => ?_
           refine zAQ (AV.int .u8) (some none) ⟨5, 1, false, 1⟩ (fun _ => rfl) (by decide) rfl h fun v101 _ (b99 : appc ⟨5, 1, false, 1⟩ (.sl (some none) (List.map (AV.int .u8) v83)) (.sl (some none) [.int .u8 v98])) (e100 : appv (.sl (some none) (List.map (AV.int .u8) v83)) (.sl (some none) [.int .u8 v98]) = .sl (some none) (List.map (AV.int .u8) v101)) h => ?_
           simp only [go_sem, seval, e96, ne_eq, Int.reduceEq, not_false_eq_true, b99, e100]
           cases h
           exact atJ (wkn Jy94 ⟨rfl, rfl, rfl, rfl, rfl, rfl, rfl, trivial⟩)
          simp only [go_sem, seval]
          cases h
          exact atJ (wkn Jy94 ⟨rfl, rfl, rfl, rfl, rfl, rfl, rfl, trivial⟩)
         clear h
         have h := hy88
         simp only [go_sem, seval]
         apply grd_ <;> intro hb90
         ·have h := zAj hb90 h
          refine quo_s h fun v93 _ b92 e91 h => ?_
          simp only [go_sem, seval, e91, ne_eq, Int.reduceEq, not_false_eq_true]
          cases h
          exact atJ (wkn Jy88 ⟨rfl, rfl, rfl, rfl, rfl, rfl, rfl, rfl, trivial⟩)
         have h := zAk hb90 h
         simp only [go_sem, seval]
         cases h
         exact atJ (wkn Jy88 ⟨rfl, rfl, rfl, rfl, rfl, rfl, rfl, rfl, trivial⟩)
        simp only [go_sem, seval]
        cases h
        exact atJ (wkn Jy80 ⟨rfl, rfl, rfl, rfl, rfl, trivial⟩)
       exact zAc (L4 0 [] 0 h) ⟨rfl, rfl, rfl, rfl, rfl, rfl, rfl, trivial⟩
      simp only [go_sem, seval]
      cases h
      exact atJ (wkn Jy44 ⟨rfl, rfl, rfl, trivial⟩)
     exact zAc (L2 v43 [] h) ⟨rfl, rfl, rfl, rfl, trivial⟩
    clear hK24
    simp only [go_sem, seval]
    refine lpJ 115 fuel (fun q1 w => ∀ (v25 : (List Int)) (v26 : Int), zBt y7 K24 q1 v25 v26 = some r → w [(2, .ptr 0 0), (4, .bool y1), (5, .str y7), (6, .sl (some none) (List.map (AV.int .u8) v25)), (7, .int .i64 v26)] [some [.bool false, .sl (some none) []]]) (fun w _ _ h => nomatch h) (fun q1 ih1 v25 v26 h => ?_) (fun L1 => ?_)
    ·unfold zBt at h
     apply rL
     simp only [go_sem, seval]
     apply cS h <;> intro hb h
     ·simp only [go_sem, seval]
      apply bK
      simp only [go_sem, seval]
      refine zAb h fun y27 hy27 h => ?_
      refine rgJ 115 10000 (.inl rfl) (fun w => w [(2, .ptr 0 0), (4, .bool y1), (5, .str y7), (6, .sl (some none) (List.map (AV.int .u8) v25)), (7, .int .i64 v26), (65, .bool y27)] [some [.bool false, .sl (some none) []]]) (runX 10000 ?_) (fun Jy27 => ?_)
      ·clear hy27
       simp only [go_sem, seval]
       apply cS h <;> intro hb h
       ·simp only [go_sem, seval]
        refine zBz (fun x => .tup [zCh x.1, .int .i64 x.2]) h ?_
        first | rfl | simp only [go_sem, zAo, zAh, zAi, seval]
       refine zCN .i64 h fun v37 _ b35 e36 h => ?_
       refine zAQ (AV.int .u8) (some none) ⟨5, 1, false, 1⟩ (fun _ => rfl) (by decide) rfl h fun v40 _ (b38 : appc ⟨5, 1, false, 1⟩ (.sl (some none) (List.map (AV.int .u8) v25)) (.sl (some none) [.int .u8 (IntKind.wrap .u8 (v37 - 48))])) (e39 : appv (.sl (some none) (List.map (AV.int .u8) v25)) (.sl (some none) [.int .u8 (IntKind.wrap .u8 (v37 - 48))]) = .sl (some none) (List.map (AV.int .u8) v40)) h => ?_
       refine zAF h fun v42 _ e41 h => ?_
       simp only [go_sem, seval, b35, e36, (show intv .sub .u8 v37 48 = .int .u8 (IntKind.wrap .u8 (v37 - 48)) from rfl), b38, e39, e41]
       exact zAc (ih1 v40 v42 h) ⟨rfl, rfl, rfl, rfl, rfl, trivial⟩
      clear h
      have h := hy27
      refine zCN .i64 h fun v31 _ b29 e30 h => ?_
      simp only [go_sem, seval, b29, e30]
      apply grd_ <;> intro hb32
      ·have h := zAj hb32 h
       simp only [go_sem, seval, b29, e30]
       cases h
       exact atJ (wkn Jy27 ⟨rfl, rfl, rfl, rfl, rfl, rfl, trivial⟩)
      have h := zAk hb32 h
      simp only [go_sem, seval]
      cases h
      exact atJ (wkn Jy27 ⟨rfl, rfl, rfl, rfl, rfl, rfl, trivial⟩)
     simp only [go_sem, seval]
     exact atJ (wkn (JK24 v25 h) ⟨rfl, rfl, rfl, trivial⟩)
    exact zAc (L1 [] 0 h) ⟨rfl, rfl, rfl, rfl, rfl, trivial⟩
   clear h
   have h := hy12
   simp only [go_sem, seval]
   apply grd_ <;> intro hb14
   ·have h := zAj hb14 h
    simp only [go_sem, seval]
    apply grd_ <;> intro hb15
    ·have h := zAj hb15 h
     simp only [go_sem, seval]
     apply grd_ <;> intro hb16
     ·have h := zAk hb16 h
      refine zCN .i64 h fun v19 _ b17 e18 h => ?_
      simp only [go_sem, seval, b17, e18]
      apply grd_ <;> intro hb20
      ·have h := zAj hb20 h
       simp only [go_sem, seval]
       apply grd_ <;> intro hb21
       ·have h := zAk hb21 h
        simp only [go_sem, seval]
        cases h
        exact atJ (wkn Jy12 ⟨rfl, rfl, rfl, rfl, trivial⟩)
       have h := zAj hb21 h
       simp only [go_sem, seval]
       cases h
       exact atJ (wkn Jy12 ⟨rfl, rfl, rfl, rfl, trivial⟩)
      have h := zAk hb20 h
      simp only [go_sem, seval]
      cases h
      exact atJ (wkn Jy12 ⟨rfl, rfl, rfl, rfl, trivial⟩)
     have h := zAj hb16 h
     simp only [go_sem, seval]
     apply grd_ <;> intro hb22
     ·have h := zAk hb22 h
      simp only [go_sem, seval]
      cases h
      exact atJ (wkn Jy12 ⟨rfl, rfl, rfl, rfl, trivial⟩)
     have h := zAj hb22 h
     simp only [go_sem, seval]
     cases h
     exact atJ (wkn Jy12 ⟨rfl, rfl, rfl, rfl, trivial⟩)
    have h := zAk hb15 h
    simp only [go_sem, seval]
    cases h
    exact atJ (wkn Jy12 ⟨rfl, rfl, rfl, rfl, trivial⟩)
   have h := zAk hb14 h
   simp only [go_sem, seval]
   cases h
   exact atJ (wkn Jy12 ⟨rfl, rfl, rfl, rfl, trivial⟩)
  clear h
  have h := hy7
  apply cS h <;> intro hb h
  ·refine zH2 (some (.int .i64 1)) none rfl rfl h fun v11 _ b9 e10 h => ?_
   simp only [go_sem, seval, b9, e10]
   cases h
   exact atJ (wkn Jy7 ⟨rfl, rfl, rfl, trivial⟩)
  simp only [go_sem, seval]
  cases h
  exact atJ (wkn Jy7 ⟨rfl, rfl, rfl, trivial⟩)
 clear h
 have h := hy1
 simp only [go_sem, seval]
 apply grd_ <;> intro hb3
 ·have h := zAk hb3 h
  refine zCN .i64 h fun v6 _ b4 e5 h => ?_
  simp only [go_sem, seval, b4, e5]
  cases h
  exact atJ (wkn Jy1 ⟨rfl, rfl, rfl, trivial⟩)
 have h := zAj hb3 h
 simp only [go_sem, seval]
 cases h
 exact atJ (wkn Jy1 ⟨rfl, rfl, rfl, trivial⟩)
theorem zKa {n : rNd} {r : Bool} (h : zEm n = some r) : zAe Tryz.prog 69 [zCk n] [] (.bool r) [] := by
 refine aX hf69 ok69 zAg ?_
 dsimp only [Tryz.f69, nums, Option.getD, List.append]
 unfold zEm at h
 simp only [go_sem, seval]
 refine rgJ 145 10000 (.inl rfl) (fun w => w [(1, .ptr 0 0), (24, .bool (((!decide (n.K = 12)) && ((!decide (n.N = 0)) || (decide ((0 : Int) < (n.L.length : Int))))) || (decide ((13 : Int) < n.K))))] [hN n.K n.S n.N n.L n.Kids]) (runX 10000 ?_) (fun Jg1 => ?_)
 ·simp only [go_sem, seval]
  apply cS h <;> intro hb h
  ·simp only [go_sem, seval]
   exact rS .bool h
  simp only [go_sem, seval]
  refine rgJ 145 10000 (.inl rfl) (fun w => w [(1, .ptr 0 0), (37, .bool (((decide (n.K < 5)) || (decide (n.K = 10))) || (decide ((12 : Int) ≤ n.K))))] [hN n.K n.S n.N n.L n.Kids]) (runX 10000 ?_) (fun Jg2 => ?_)
  ·simp only [go_sem, seval]
   refine zBq h fun K4 hK4 h => ?_
   refine cndJ 145 10000 (fun w => K4 () = some r → w [(1, .ptr 0 0)] [hN n.K n.S n.N n.L n.Kids]) (fun h => runX 10000 ?_) (fun JK4 => ?_)
   ·subst hK4
    dsimp only at h
    simp only [go_sem, seval]
    refine rgJ 145 10000 (.inl rfl) (fun w => w [(1, .ptr 0 0), (3, .int .i64 (n.Kids.length : Int)), (50, .bool ((decide (n.K < 8)) && (decide ((0 : Int) < (n.Kids.length : Int)))))] [hN n.K n.S n.N n.L n.Kids]) (runX 10000 ?_) (fun Jg5 => ?_)
    ·simp only [go_sem, seval]
     apply cS h <;> intro hb h
     ·simp only [go_sem, seval]
      exact rS .bool h
     simp only [go_sem, seval]
     apply cS h <;> intro hb h
     ·refine zAb h fun v6 hv6 h => ?_
      simp only [go_sem, seval]
      refine cX (zJZ hv6) ?_
      simp only [go_sem, seval]
      exact rS .bool h
     simp only [go_sem, seval]
     apply cS h <;> intro hb h
     ·simp only [go_sem, seval]
      exact rS .bool h
     simp only [go_sem, seval]
     apply cS h <;> intro hb h
     ·simp only [go_sem, seval]
      refine zAb h fun y7 hy7 h => ?_
      refine rgJ 145 10000 (.inl rfl) (fun w => w [(2, .bool y7)] [hN n.K n.S n.N n.L n.Kids]) (runX 10000 ?_) (fun Jy7 => ?_)
      ·clear hy7
       simp only [go_sem, seval]
       exact rS .bool h
      clear h
      have h := hy7
      refine zAb h fun v9 hv9 h => ?_
      simp only [go_sem, seval]
      refine cX (zFo hv9) ?_
      simp only [go_sem, seval]
      apply grd_ <;> intro hb10
      ·have h := zAj hb10 h
       refine zAb h fun v11 hv11 h => ?_
       simp only [go_sem, seval]
       refine cX (zEM hv11) ?_
       simp only [go_sem, seval]
       cases h
       exact atJ (wkn Jy7 ⟨rfl, trivial⟩)
      have h := zAk hb10 h
      simp only [go_sem, seval]
      cases h
      exact atJ (wkn Jy7 ⟨rfl, trivial⟩)
     simp only [go_sem, seval]
     apply cS h <;> intro hb h
     ·simp only [go_sem, seval]
      refine zAb h fun y12 hy12 h => ?_
      refine rgJ 145 10000 (.inl rfl) (fun w => w [(2, .bool y12)] [hN n.K n.S n.N n.L n.Kids]) (runX 10000 ?_) (fun Jy12 => ?_)
      ·clear hy12
       simp only [go_sem, seval]
       exact rS .bool h
      clear h
      have h := hy12
      simp only [go_sem, seval]
      apply grd_ <;> intro hb14
      ·have h := zAk hb14 h
       refine zAb h fun v15 hv15 h => ?_
       simp only [go_sem, seval]
       refine cX (zFo hv15) ?_
       simp only [go_sem, seval]
       cases h
       exact atJ (wkn Jy12 ⟨rfl, trivial⟩)
      have h := zAj hb14 h
      simp only [go_sem, seval]
      cases h
      exact atJ (wkn Jy12 ⟨rfl, trivial⟩)
     simp only [go_sem, seval]
     apply cS h <;> intro hb h
     ·refine zGs h fun v17 _ e16 h => ?_
      refine zAb h fun v18 hv18 h => ?_
      simp only [go_sem, seval, e16]
      refine cX (zFH hv18) ?_
      simp only [go_sem, seval]
      exact rS .bool h
     simp only [go_sem, seval]
     apply cS h <;> intro hb h
     ·simp only [go_sem, seval]
      refine rgJ 145 10000 (.inl rfl) (fun w => w [(2, .bool ((decide ((3 : Int) ≤ (n.Kids.length : Int))) && (decide ((n.Kids.length : Int) ≤ 17))))] [hN n.K n.S n.N n.L n.Kids]) (runX 10000 ?_) (fun Jg19 => ?_)
      ·simp only [go_sem, seval]
       exact rS .bool h
      simp only [go_sem, seval]
      apply grd_ <;> intro hb20
      ·simp only [go_sem, seval]
       exact atJ (wkn Jg19 ⟨congrArg AV.bool (by first | rfl | (rw [hb20]; rfl) | (simp [hb20]; done) | simp_all), trivial⟩)
      simp only [go_sem, seval]
      exact atJ (wkn Jg19 ⟨congrArg AV.bool (by first | rfl | (rw [hb20]; rfl) | (simp [hb20]; done) | simp_all), trivial⟩)
     simp only [go_sem, seval]
     apply cS h <;> intro hb h
     ·refine zAb h fun v21 hv21 h => ?_
      simp only [go_sem, seval]
      refine cX (zFH hv21) ?_
      simp only [go_sem, seval]
      exact rS .bool h
     simp only [go_sem, seval]
     apply cS h <;> intro hb h
     ·simp only [go_sem, seval]
      refine zAb h fun y22 hy22 h => ?_
      refine rgJ 145 10000 (.inl rfl) (fun w => w [(2, .bool y22)] [hN n.K n.S n.N n.L n.Kids]) (runX 10000 ?_) (fun Jy22 => ?_)
      ·clear hy22
       simp only [go_sem, seval]
       exact rS .bool h
      clear h
      have h := hy22
      simp only [go_sem, seval]
      apply grd_ <;> intro hb24
      ·have h := zAk hb24 h
       simp only [go_sem, seval]
       apply grd_ <;> intro hb25
       ·have h := zAk hb25 h
        simp only [go_sem, seval]
        apply grd_ <;> intro hb26
        ·have h := zAk hb26 h
         refine zAb h fun v27 hv27 h => ?_
         simp only [go_sem, seval]
         refine cX (zH5 hv27) ?_
         simp only [go_sem, seval]
         cases h
         exact atJ (wkn Jy22 ⟨rfl, trivial⟩)
        have h := zAj hb26 h
        simp only [go_sem, seval]
        cases h
        exact atJ (wkn Jy22 ⟨rfl, trivial⟩)
       have h := zAj hb25 h
       simp only [go_sem, seval]
       cases h
       exact atJ (wkn Jy22 ⟨rfl, trivial⟩)
      have h := zAj hb24 h
      simp only [go_sem, seval]
      cases h
      exact atJ (wkn Jy22 ⟨rfl, trivial⟩)
     simp only [go_sem, seval]
     refine rgJ 145 10000 (.inl rfl) (fun w => w [(2, .bool ((decide (n.K < 8)) || (decide ((n.Kids.length : Int) = 1))))] [hN n.K n.S n.N n.L n.Kids]) (runX 10000 ?_) (fun Jg28 => ?_)
     ·simp only [go_sem, seval]
      exact rS .bool h
     simp only [go_sem, seval]
     apply grd_ <;> intro hb29
     ·simp only [go_sem, seval]
      exact atJ (wkn Jg28 ⟨congrArg AV.bool (by first | rfl | (rw [hb29]; rfl) | (simp [hb29]; done) | simp_all), trivial⟩)
     simp only [go_sem, seval]
     exact atJ (wkn Jg28 ⟨congrArg AV.bool (by first | rfl | (rw [hb29]; rfl) | (simp [hb29]; done) | simp_all), trivial⟩)
    simp only [go_sem, seval]
    apply grd_ <;> intro hb30
    ·simp only [go_sem, seval]
     exact atJ (wkn Jg5 ⟨rfl, rfl, congrArg AV.bool (by first | rfl | (rw [hb30]; rfl) | (simp [hb30]; done) | simp_all), trivial⟩)
    simp only [go_sem, seval]
    exact atJ (wkn Jg5 ⟨rfl, rfl, congrArg AV.bool (by first | rfl | (rw [hb30]; rfl) | (simp [hb30]; done) | simp_all), trivial⟩)
   clear hK4
   apply cS h <;> intro hb h
   ·simp only [go_sem, seval]
    apply cS h <;> intro hb h
    ·simp only [go_sem, seval]
     exact rS .bool h
    simp only [go_sem, seval]
    exact atJ (wkn (JK4 h) ⟨rfl, trivial⟩)
   simp only [go_sem, seval]
   exact atJ (wkn (JK4 h) ⟨rfl, trivial⟩)
  simp only [go_sem, seval]
  apply grd_ <;> intro hb31
  ·simp only [go_sem, seval]
   apply grd_ <;> intro hb32
   ·simp only [go_sem, seval]
    exact atJ (wkn Jg2 ⟨rfl, congrArg AV.bool (by first | rfl | (rw [hb31, hb32]; rfl) | (simp [hb31, hb32]; done) | simp_all), trivial⟩)
   simp only [go_sem, seval]
   exact atJ (wkn Jg2 ⟨rfl, congrArg AV.bool (by first | rfl | (rw [hb31, hb32]; rfl) | (simp [hb31, hb32]; done) | simp_all), trivial⟩)
  simp only [go_sem, seval]
  exact atJ (wkn Jg2 ⟨rfl, congrArg AV.bool (by first | rfl | (rw [hb31]; rfl) | (simp [hb31]; done) | simp_all), trivial⟩)
 simp only [go_sem, seval]
 apply grd_ <;> intro hb33
 ·simp only [go_sem, seval]
  apply grd_ <;> intro hb34
  ·simp only [go_sem, seval]
   apply grd_ <;> intro hb35
   ·simp only [go_sem, seval]
    exact atJ (wkn Jg1 ⟨rfl, congrArg AV.bool (by first | rfl | (rw [hb33, hb34, hb35]; rfl) | (simp [hb33, hb34, hb35]; done) | simp_all), trivial⟩)
   simp only [go_sem, seval]
   exact atJ (wkn Jg1 ⟨rfl, congrArg AV.bool (by first | rfl | (rw [hb33, hb34, hb35]; rfl) | (simp [hb33, hb34, hb35]; done) | simp_all), trivial⟩)
  simp only [go_sem, seval]
  exact atJ (wkn Jg1 ⟨rfl, congrArg AV.bool (by first | rfl | (rw [hb33, hb34]; rfl) | (simp [hb33, hb34]; done) | simp_all), trivial⟩)
 simp only [go_sem, seval]
 exact atJ (wkn Jg1 ⟨rfl, congrArg AV.bool (by first | rfl | (rw [hb33]; rfl) | (simp [hb33]; done) | simp_all), trivial⟩)
theorem zGE {k : Int} {above : Int} {at_ : Int} {of : Int} {r : Bool} (h : zBm k above at_ of = some r) : zAe Tryz.prog 70 [.int .u8 k, .int .u8 above, .int .i64 at_, .int .i64 of] [] (.bool r) [] := by
 refine aX hf70 ok70 zAg ?_
 dsimp only [Tryz.f70, nums, Option.getD, List.append]
 unfold zBm at h
 simp only [go_sem, seval]
 apply cS h <;> intro hb h
 ·simp only [go_sem, seval]
  refine rgJ 44 10000 (.inl rfl) (fun w => w [(8, .bool (((decide (above = 9)) || (decide (above = 10))) && (decide (at_ = 0))))] []) (runX 10000 ?_) (fun Jg1 => ?_)
  ·simp only [go_sem, seval]
   exact rS .bool h
  simp only [go_sem, seval]
  apply grd_ <;> intro hb2
  ·simp only [go_sem, seval]
   apply grd_ <;> intro hb3
   ·simp only [go_sem, seval]
    exact atJ (wkn Jg1 ⟨congrArg AV.bool (by first | rfl | (rw [hb2, hb3]; rfl) | (simp [hb2, hb3]; done) | simp_all), trivial⟩)
   simp only [go_sem, seval]
   exact atJ (wkn Jg1 ⟨congrArg AV.bool (by first | rfl | (rw [hb2, hb3]; rfl) | (simp [hb2, hb3]; done) | simp_all), trivial⟩)
  simp only [go_sem, seval]
  exact atJ (wkn Jg1 ⟨congrArg AV.bool (by first | rfl | (rw [hb2]; rfl) | (simp [hb2]; done) | simp_all), trivial⟩)
 simp only [go_sem, seval]
 apply cS h <;> intro hb h
 ·simp only [go_sem, seval]
  refine zAb h fun y4 hy4 h => ?_
  refine rgJ 44 10000 (.inl rfl) (fun w => w [(8, .bool y4)] []) (runX 10000 ?_) (fun Jy4 => ?_)
  ·clear hy4
   simp only [go_sem, seval]
   exact rS .bool h
  clear h
  have h := hy4
  simp only [go_sem, seval]
  apply grd_ <;> intro hb6
  ·have h := zAk hb6 h
   simp only [go_sem, seval]
   apply grd_ <;> intro hb7
   ·have h := zAk hb7 h
    refine zGs h fun v9 _ e8 h => ?_
    simp only [go_sem, seval, e8]
    cases h
    exact atJ (wkn Jy4 ⟨rfl, trivial⟩)
   have h := zAj hb7 h
   simp only [go_sem, seval]
   cases h
   exact atJ (wkn Jy4 ⟨rfl, trivial⟩)
  have h := zAj hb6 h
  simp only [go_sem, seval]
  cases h
  exact atJ (wkn Jy4 ⟨rfl, trivial⟩)
 simp only [go_sem, seval]
 refine rgJ 44 10000 (.inl rfl) (fun w => w [(8, .bool ((decide (k = 11)) == ((decide (above = 10)) && (decide ((0 : Int) < at_)))))] []) (runX 10000 ?_) (fun Jg10 => ?_)
 ·simp only [go_sem, seval]
  exact rS .bool h
 simp only [go_sem, seval]
 apply grd_ <;> intro hb11
 ·simp only [go_sem, seval]
  exact atJ (wkn Jg10 ⟨congrArg AV.bool (by first | rfl | (rw [hb11]; rfl) | (simp [hb11]; done) | simp_all), trivial⟩)
 simp only [go_sem, seval]
 exact atJ (wkn Jg10 ⟨congrArg AV.bool (by first | rfl | (rw [hb11]; rfl) | (simp [hb11]; done) | simp_all), trivial⟩)
theorem zMA {m : rMt} {r : Bool} (h : zDP m = some r) : zAe Tryz.prog 27 [zBT m] [] (.bool r) [] := by
 refine aX hf27 ok27 zAg ?_
 dsimp only [Tryz.f27, nums, Option.getD, List.append]
 unfold zDP at h
 simp only [go_sem, seval]
 refine rg_ 10000 (.inr ⟨[], by kernel_rfl, by kernel_rfl, by rfl⟩) ?_
 refine zAQ AV.str none ⟨9, 1, false, 16⟩ (fun _ => rfl) (by decide) rfl h fun v3 _ (b1 : appc ⟨9, 1, false, 16⟩ (.sl (some none) []) (.sl none (List.map AV.str m.Args))) (e2 : appv (.sl (some none) []) (.sl none (List.map AV.str m.Args)) = .sl (some none) (List.map AV.str v3)) h => ?_
 refine zAQ AV.str none ⟨9, 1, false, 16⟩ (fun _ => rfl) (by decide) rfl h fun v6 _ b4 e5 h => ?_
 simp only [go_sem, seval, b1, e2, b4, e5]
 refine zAb h fun y7 hy7 h => ?_
 refine rgJ 171 10000 (.inl rfl) (fun w => w [(1, .ptr 0 0), (42, .bool y7)] [hR m]) (runX 10000 ?_) (fun Jy7 => ?_)
 ·clear hy7
  simp only [go_sem, seval]
  apply cS h <;> intro hb h
  ·simp only [go_sem, seval]
   exact rS .bool h
  simp only [go_sem, seval]
  refine zBq h fun K15 hK15 h => ?_
  refine blkJ 171 10000 (fun w => ∀ (v71 : (List Int)), K15 v71 = some r → w [(1, .ptr 0 0), (4, .sl (some none) (List.map (AV.int .i64) v71))] [hR m]) (fun v71 h => runX 10000 ?_) (fun JK15 => ?_)
  ·subst hK15
   dsimp only at h
   simp only [go_sem, seval]
   apply cS h <;> intro hb h
   ·simp only [go_sem, seval]
    exact rS .bool h
   simp only [go_sem, seval]
   refine zBq h fun K73 hK73 h => ?_
   refine blkJ 171 10000 (fun w => K73 () = some r → w [] [hR m]) (fun h => runX 10000 ?_) (fun JK73 => ?_)
   ·subst hK73
    dsimp only at h
    simp only [go_sem, seval]
    exact rS .bool h
   clear hK73
   simp only [go_sem, seval]
   refine lpJ 171 fuel (fun q3 w => ∀ (v74 : Int), zB8 m v71 K73 q3 v74 = some r → w [(1, .ptr 0 0), (4, .sl (some none) (List.map (AV.int .i64) v71)), (11, .int .i64 v74)] [hR m]) (fun w _ h => nomatch h) (fun q3 ih3 v74 h => ?_) (fun L3 => ?_)
   ·unfold zB8 at h
    apply rL
    simp only [go_sem, seval]
    apply cS h <;> intro hb h
    ·simp only [go_sem, seval]
     apply bK
     simp only [go_sem, seval]
     refine zAb h fun y75 hy75 h => ?_
     refine rgJ 171 10000 (.inr ⟨[], by kernel_rfl, by kernel_rfl, by rfl⟩) (fun w => w [(1, .ptr 0 0), (4, .sl (some none) (List.map (AV.int .i64) v71)), (11, .int .i64 v74), (170, .bool y75)] [hR m]) (runX 10000 ?_) (fun Jy75 => ?_)
     ·clear hy75
      simp only [go_sem, seval]
      apply cS h <;> intro hb h
      ·simp only [go_sem, seval]
       exact rS .bool h
      refine zAF h fun v91 _ e90 h => ?_
      simp only [go_sem, seval, e90]
      exact zAc (ih3 v91 h) ⟨rfl, rfl, rfl, trivial⟩
     clear h
     have h := hy75
     refine zAp (AV.int .i64) none .i64 ⟨3, 1, false, 8⟩ (fun _ => rfl) h fun v79 _ b77 e78 h => ?_
     refine zAp (AV.int .i64) none .i64 ⟨3, 1, false, 8⟩ (fun _ => rfl) h fun v82 _ b80 e81 h => ?_
     simp only [go_sem, seval, b77, e78, b80, e81]
     apply grd_ <;> intro hb83
     ·have h := zAj hb83 h
      refine zAp zCk none .i64 ⟨78, 5, true, 80⟩ (fun _ => rfl) h fun v88 _ b86 e87 h => ?_
      refine zAb h fun v89 hv89 h => ?_
      simp only [go_sem, seval, b80, e81, b86, e87]
      refine cX (zGE hv89) ?_
      simp only [go_sem, seval]
      cases h
      exact atJ (wkn Jy75 ⟨rfl, rfl, rfl, rfl, trivial⟩)
     have h := zAk hb83 h
     simp only [go_sem, seval]
     cases h
     exact atJ (wkn Jy75 ⟨rfl, rfl, rfl, rfl, trivial⟩)
    simp only [go_sem, seval]
    exact atJ (wkn (JK73 h) trivial)
   exact zAc (L3 0 h) ⟨rfl, rfl, rfl, trivial⟩
  clear hK15
  simp only [go_sem, seval]
  refine lpJ 171 fuel (fun q1 w => ∀ (v16 : (List Int)) (v17 : (List Int)) (v18 : Int), zCa m K15 q1 v16 v17 v18 = some r → w [(1, .ptr 0 0), (4, .sl (some none) (List.map (AV.int .i64) v16)), (5, .sl (some none) (List.map (AV.int .i64) v17)), (6, .int .i64 v18)] [hR m]) (fun w _ _ _ h => nomatch h) (fun q1 ih1 v16 v17 v18 h => ?_) (fun L1 => ?_)
  ·unfold zCa at h
   apply rL
   simp only [go_sem, seval]
   apply cS h <;> intro hb h
   ·simp only [go_sem, seval]
    apply bK
    refine zAp zCk none .i64 ⟨78, 5, true, 80⟩ (fun _ => rfl) h fun v21 _ b19 e20 h => ?_
    simp only [go_sem, seval, b19, e20]
    refine zAb h fun y22 hy22 h => ?_
    refine rgJ 171 10000 (.inl rfl) (fun w => w [(1, .ptr 0 0), (4, .sl (some none) (List.map (AV.int .i64) v16)), (5, .sl (some none) (List.map (AV.int .i64) v17)), (6, .int .i64 v18), (7, .ptr 1 0), (65, .bool y22)] [hR m, hN v21.K v21.S v21.N v21.L v21.Kids]) (runX 10000 ?_) (fun Jy22 => ?_)
    ·clear hy22
     simp only [go_sem, seval]
     apply cS h <;> intro hb h
     ·simp only [go_sem, seval]
      exact rS .bool h
     simp only [go_sem, seval]
     refine zBq h fun K27 hK27 h => ?_
     refine blkJ 171 10000 (fun w => ∀ (v52 : Int), K27 v52 = some r → w [(1, .ptr 0 0), (4, .sl (some none) (List.map (AV.int .i64) v16)), (5, .sl (some none) (List.map (AV.int .i64) v17)), (6, .int .i64 v18), (7, .ptr 1 0), (8, .int .i64 v52)] [hR m, hN v21.K v21.S v21.N v21.L v21.Kids]) (fun v52 h => runX 10000 ?_) (fun JK27 => ?_)
     ·subst hK27
      dsimp only at h
      simp only [go_sem, seval]
      apply cS h <;> intro hb h
      ·simp only [go_sem, seval]
       exact rS .bool h
      refine zAF h fun v54 _ e53 h => ?_
      refine zAQ (AV.int .i64) (some none) ⟨3, 1, false, 8⟩ (fun _ => rfl) (by decide) rfl h fun v57 _ (b55 : appc ⟨3, 1, false, 8⟩ (.sl (some none) (List.map (AV.int .i64) v17)) (.sl (some none) [.int .i64 v54])) (e56 : appv (.sl (some none) (List.map (AV.int .i64) v17)) (.sl (some none) [.int .i64 v54]) = .sl (some none) (List.map (AV.int .i64) v57)) h => ?_
      refine zGs h fun v59 _ e58 h => ?_
      refine zGw (AV.int .i64) none ⟨3, 1, false, 8⟩ (fun _ => rfl) none (some (.int .i64 v59)) rfl rfl h fun v62 _ b60 e61 h => ?_
      refine zAQ (AV.int .i64) none ⟨3, 1, false, 8⟩ (fun _ => rfl) (by decide) rfl h fun v65 _ (b63 : appc ⟨3, 1, false, 8⟩ (.sl (some none) []) (.sl none (List.map (AV.int .i64) v62))) (e64 : appv (.sl (some none) []) (.sl none (List.map (AV.int .i64) v62)) = .sl (some none) (List.map (AV.int .i64) v65)) h => ?_
      refine zAQ (AV.int .i64) (some none) ⟨3, 1, false, 8⟩ (fun _ => rfl) (by decide) rfl h fun v68 _ (b66 : appc ⟨3, 1, false, 8⟩ (.sl (some none) (List.map (AV.int .i64) v65)) (.sl (some none) [.int .i64 v18])) (e67 : appv (.sl (some none) (List.map (AV.int .i64) v65)) (.sl (some none) [.int .i64 v18]) = .sl (some none) (List.map (AV.int .i64) v68)) h => ?_
      refine zAF h fun v70 _ e69 h => ?_
      simp only [go_sem, seval, e53, b55, e56, e58, b60, e61, b63, e64, b66, e67, e69]
      exact zDx 1 (ih1 v68 v57 v70 h) ⟨rfl, rfl, rfl, rfl, trivial⟩ rfl rfl rfl (by first | rfl | simp only [go_sem, ltF]) (by first | rfl | simp only [go_sem, zCu])
     clear hK27
     simp only [go_sem, seval]
     refine lpJ 171 fuel (fun q2 w => ∀ (v28 : Int) (v29 : Int), zCI m v16 v17 v21 K27 q2 v28 v29 = some r → w [(1, .ptr 0 0), (4, .sl (some none) (List.map (AV.int .i64) v16)), (5, .sl (some none) (List.map (AV.int .i64) v17)), (6, .int .i64 v18), (7, .ptr 1 0), (8, .int .i64 v28), (9, .int .i64 v29)] [hR m, hN v21.K v21.S v21.N v21.L v21.Kids]) (fun w _ _ h => nomatch h) (fun q2 ih2 v28 v29 h => ?_) (fun L2 => ?_)
     ·unfold zCI at h
      apply rL
      simp only [go_sem, seval]
      apply cS h <;> intro hb h
      ·simp only [go_sem, seval]
       apply bK
       refine zGs h fun v31 _ e30 h => ?_
       refine zAF h fun v33 _ e32 h => ?_
       refine zAp (AV.int .i64) none .i64 ⟨3, 1, false, 8⟩ (fun _ => rfl) h fun v36 _ b34 e35 h => ?_
       simp only [go_sem, seval, e30, e32, b34, e35]
       refine zAb h fun y37 hy37 h => ?_
       refine rgJ 171 10000 (.inr ⟨[], by kernel_rfl, by kernel_rfl, by rfl⟩) (fun w => w [(1, .ptr 0 0), (4, .sl (some none) (List.map (AV.int .i64) v16)), (5, .sl (some none) (List.map (AV.int .i64) v17)), (6, .int .i64 v18), (7, .ptr 1 0), (8, .int .i64 v28), (9, .int .i64 v29), (10, .int .i64 v36), (106, .bool y37)] [hR m, hN v21.K v21.S v21.N v21.L v21.Kids]) (runX 10000 ?_) (fun Jy37 => ?_)
       ·clear hy37
        simp only [go_sem, seval]
        apply cS h <;> intro hb h
        ·simp only [go_sem, seval]
         exact rS .bool h
        refine zAp (AV.int .i64) none .i64 ⟨3, 1, false, 8⟩ (fun _ => rfl) h fun v49 _ b47 e48 h => ?_
        refine zAF h fun v51 _ e50 h => ?_
        simp only [go_sem, seval, b47, e48, (mxv_e .i64 v28 v49), e50]
        exact zAc (ih2 (max v28 v49) v51 h) ⟨rfl, rfl, rfl, rfl, rfl, rfl, rfl, trivial⟩
       clear h
       have h := hy37
       refine zAp (AV.int .i64) none .i64 ⟨3, 1, false, 8⟩ (fun _ => rfl) h fun v41 _ b39 e40 h => ?_
       simp only [go_sem, seval, b39, e40]
       apply grd_ <;> intro hb42
       ·have h := zAj hb42 h
        refine zAp zCk none .i64 ⟨78, 5, true, 80⟩ (fun _ => rfl) h fun v45 _ b43 e44 h => ?_
        refine zAb h fun v46 hv46 h => ?_
        simp only [go_sem, seval, b43, e44]
        refine cX (zGE hv46) ?_
        simp only [go_sem, seval]
        cases h
        exact atJ (wkn Jy37 ⟨rfl, rfl, rfl, rfl, rfl, rfl, rfl, rfl, rfl, trivial⟩)
       have h := zAk hb42 h
       simp only [go_sem, seval]
       cases h
       exact atJ (wkn Jy37 ⟨rfl, rfl, rfl, rfl, rfl, rfl, rfl, rfl, rfl, trivial⟩)
      simp only [go_sem, seval]
      exact atJ (wkn (JK27 v28 h) ⟨rfl, rfl, rfl, rfl, rfl, rfl, trivial⟩)
     exact zAc (L2 0 0 h) ⟨rfl, rfl, rfl, rfl, rfl, rfl, rfl, trivial⟩
    clear h
    have h := hy22
    refine zAb h fun v24 hv24 h => ?_
    simp only [go_sem, seval]
    refine cX (zKa hv24) ?_
    simp only [go_sem, seval]
    apply grd_ <;> intro hb25
    ·have h := zAj hb25 h
     simp only [go_sem, seval]
     cases h
     exact atJ (wkn Jy22 ⟨rfl, rfl, rfl, rfl, rfl, rfl, trivial⟩)
    have h := zAk hb25 h
    simp only [go_sem, seval]
    cases h
    exact atJ (wkn Jy22 ⟨rfl, rfl, rfl, rfl, rfl, rfl, trivial⟩)
   simp only [go_sem, seval]
   exact atJ (wkn (JK15 v16 h) ⟨rfl, rfl, trivial⟩)
  exact zAc (L1 [] [] 0 h) ⟨rfl, rfl, rfl, rfl, trivial⟩
 clear h
 have h := hy7
 refine zAb h fun v9 hv9 h => ?_
 simp only [go_sem, seval]
 refine cX (zFH hv9) ?_
 simp only [go_sem, seval]
 apply grd_ <;> intro hb10
 ·have h := zAj hb10 h
  refine zAb h fun v11 hv11 h => ?_
  simp only [go_sem, seval]
  refine cX (zH5 hv11) ?_
  simp only [go_sem, seval]
  apply grd_ <;> intro hb12
  ·have h := zAj hb12 h
   simp only [go_sem, seval]
   apply grd_ <;> intro hb13
   ·have h := zAj hb13 h
    simp only [go_sem, seval]
    cases h
    exact atJ (wkn Jy7 ⟨rfl, rfl, trivial⟩)
   have h := zAk hb13 h
   simp only [go_sem, seval]
   cases h
   exact atJ (wkn Jy7 ⟨rfl, rfl, trivial⟩)
  have h := zAk hb12 h
  simp only [go_sem, seval]
  cases h
  exact atJ (wkn Jy7 ⟨rfl, rfl, trivial⟩)
 have h := zAk hb10 h
 simp only [go_sem, seval]
 cases h
 exact atJ (wkn Jy7 ⟨rfl, rfl, trivial⟩)
theorem zFn {c : Int} {r : Int} (h : zDc c = some r) : zAe Tryz.prog 139 [.int .u8 c] [] (.int .u8 r) [] := by
 refine aX hf139 ok139 zC8 ?_
 dsimp only [Tryz.f139, nums, Option.getD, List.append]
 unfold zDc at h
 simp only [go_sem, seval]
 refine rgJ 62 10000 (.inl rfl) (fun w => w [(0, .int .u8 c), (16, .bool (((decide ((97 : Int) ≤ c)) && (decide (c ≤ 122))) || ((decide ((65 : Int) ≤ c)) && (decide (c ≤ 90)))))] []) (runX 10000 ?_) (fun Jg1 => ?_)
 ·simp only [go_sem, seval]
  apply cS h <;> intro hb h
  ·simp only [go_sem, seval]
   exact rS (.int .u8) h
  simp only [go_sem, seval]
  refine rgJ 62 10000 (.inl rfl) (fun w => w [(0, .int .u8 c), (22, .bool ((decide ((48 : Int) ≤ c)) && (decide (c ≤ 57))))] []) (runX 10000 ?_) (fun Jg2 => ?_)
  ·simp only [go_sem, seval]
   apply cS h <;> intro hb h
   ·simp only [go_sem, seval]
    exact rS (.int .u8) h
   simp only [go_sem, seval]
   refine rgJ 62 10000 (.inl rfl) (fun w => w [(0, .int .u8 c), (60, .bool ((((((((((decide (c = 43)) || (decide (c = 45))) || (decide (c = 42))) || (decide (c = 47))) || (decide (c = 92))) || (decide (c = 60))) || (decide (c = 62))) || (decide (c = 61))) || (decide (c = 126))) || (decide (c = 44))))] []) (runX 10000 ?_) (fun Jg3 => ?_)
   ·simp only [go_sem, seval]
    apply cS h <;> intro hb h
    ·simp only [go_sem, seval]
     exact rS (.int .u8) h
    simp only [go_sem, seval]
    exact rS (.int .u8) h
   simp only [go_sem, seval]
   apply grd_ <;> intro hb4
   ·simp only [go_sem, seval]
    apply grd_ <;> intro hb5
    ·simp only [go_sem, seval]
     apply grd_ <;> intro hb6
     ·simp only [go_sem, seval]
      apply grd_ <;> intro hb7
      ·simp only [go_sem, seval]
       apply grd_ <;> intro hb8
       ·simp only [go_sem, seval]
        apply grd_ <;> intro hb9
        ·simp only [go_sem, seval]
         apply grd_ <;> intro hb10
         ·simp only [go_sem, seval]
          apply grd_ <;> intro hb11
          ·simp only [go_sem, seval]
           apply grd_ <;> intro hb12
           ·simp only [go_sem, seval]
            exact atJ (wkn Jg3 ⟨rfl, congrArg AV.bool (by first | rfl | (rw [hb4, hb5, hb6, hb7, hb8, hb9, hb10, hb11, hb12]; rfl) | (simp [hb4, hb5, hb6, hb7, hb8, hb9, hb10, hb11, hb12]; done) | simp_all), trivial⟩)
           simp only [go_sem, seval]
           exact atJ (wkn Jg3 ⟨rfl, congrArg AV.bool (by first | rfl | (rw [hb4, hb5, hb6, hb7, hb8, hb9, hb10, hb11, hb12]; rfl) | (simp [hb4, hb5, hb6, hb7, hb8, hb9, hb10, hb11, hb12]; done) | simp_all), trivial⟩)
          simp only [go_sem, seval]
          exact atJ (wkn Jg3 ⟨rfl, congrArg AV.bool (by first | rfl | (rw [hb4, hb5, hb6, hb7, hb8, hb9, hb10, hb11]; rfl) | (simp [hb4, hb5, hb6, hb7, hb8, hb9, hb10, hb11]; done) | simp_all), trivial⟩)
         simp only [go_sem, seval]
         exact atJ (wkn Jg3 ⟨rfl, congrArg AV.bool (by first | rfl | (rw [hb4, hb5, hb6, hb7, hb8, hb9, hb10]; rfl) | (simp [hb4, hb5, hb6, hb7, hb8, hb9, hb10]; done) | simp_all), trivial⟩)
        simp only [go_sem, seval]
        exact atJ (wkn Jg3 ⟨rfl, congrArg AV.bool (by first | rfl | (rw [hb4, hb5, hb6, hb7, hb8, hb9]; rfl) | (simp [hb4, hb5, hb6, hb7, hb8, hb9]; done) | simp_all), trivial⟩)
       simp only [go_sem, seval]
       exact atJ (wkn Jg3 ⟨rfl, congrArg AV.bool (by first | rfl | (rw [hb4, hb5, hb6, hb7, hb8]; rfl) | (simp [hb4, hb5, hb6, hb7, hb8]; done) | simp_all), trivial⟩)
      simp only [go_sem, seval]
      exact atJ (wkn Jg3 ⟨rfl, congrArg AV.bool (by first | rfl | (rw [hb4, hb5, hb6, hb7]; rfl) | (simp [hb4, hb5, hb6, hb7]; done) | simp_all), trivial⟩)
     simp only [go_sem, seval]
     exact atJ (wkn Jg3 ⟨rfl, congrArg AV.bool (by first | rfl | (rw [hb4, hb5, hb6]; rfl) | (simp [hb4, hb5, hb6]; done) | simp_all), trivial⟩)
    simp only [go_sem, seval]
    exact atJ (wkn Jg3 ⟨rfl, congrArg AV.bool (by first | rfl | (rw [hb4, hb5]; rfl) | (simp [hb4, hb5]; done) | simp_all), trivial⟩)
   simp only [go_sem, seval]
   exact atJ (wkn Jg3 ⟨rfl, congrArg AV.bool (by first | rfl | (rw [hb4]; rfl) | (simp [hb4]; done) | simp_all), trivial⟩)
  simp only [go_sem, seval]
  apply grd_ <;> intro hb13
  ·simp only [go_sem, seval]
   exact atJ (wkn Jg2 ⟨rfl, congrArg AV.bool (by first | rfl | (rw [hb13]; rfl) | (simp [hb13]; done) | simp_all), trivial⟩)
  simp only [go_sem, seval]
  exact atJ (wkn Jg2 ⟨rfl, congrArg AV.bool (by first | rfl | (rw [hb13]; rfl) | (simp [hb13]; done) | simp_all), trivial⟩)
 simp only [go_sem, seval]
 apply grd_ <;> intro hb14
 ·simp only [go_sem, seval]
  apply grd_ <;> intro hb15
  ·simp only [go_sem, seval]
   apply grd_ <;> intro hb16
   ·simp only [go_sem, seval]
    exact atJ (wkn Jg1 ⟨rfl, congrArg AV.bool (by first | rfl | (rw [hb14, hb15, hb16]; rfl) | (simp [hb14, hb15, hb16]; done) | simp_all), trivial⟩)
   simp only [go_sem, seval]
   exact atJ (wkn Jg1 ⟨rfl, congrArg AV.bool (by first | rfl | (rw [hb14, hb15, hb16]; rfl) | (simp [hb14, hb15, hb16]; done) | simp_all), trivial⟩)
  simp only [go_sem, seval]
  exact atJ (wkn Jg1 ⟨rfl, congrArg AV.bool (by first | rfl | (rw [hb14, hb15]; rfl) | (simp [hb14, hb15]; done) | simp_all), trivial⟩)
 simp only [go_sem, seval]
 apply grd_ <;> intro hb17
 ·simp only [go_sem, seval]
  exact atJ (wkn Jg1 ⟨rfl, congrArg AV.bool (by first | rfl | (rw [hb14, hb17]; rfl) | (simp [hb14, hb17]; done) | simp_all), trivial⟩)
 simp only [go_sem, seval]
 exact atJ (wkn Jg1 ⟨rfl, congrArg AV.bool (by first | rfl | (rw [hb14, hb17]; rfl) | (simp [hb14, hb17]; done) | simp_all), trivial⟩)
theorem zGW {s : Str} {a : Int} {p2_b : Int} {r : Bool} (h : zFm s a p2_b = some r) : zAe Tryz.prog 165 [.str s, .int .u8 a, .int .u8 p2_b] [] (.bool r) [] := by
 refine aX hf165 ok165 zAg ?_
 dsimp only [Tryz.f165, nums, Option.getD, List.append]
 unfold zFm at h
 simp only [go_sem, seval]
 refine zBq h fun K2 hK2 h => ?_
 refine blkJ 28 10000 (fun w => K2 () = some r → w [] []) (fun h => runX 10000 ?_) (fun JK2 => ?_)
 ·subst hK2
  dsimp only at h
  simp only [go_sem, seval]
  exact rS .bool h
 clear hK2
 simp only [go_sem, seval]
 refine lpJ 28 fuel (fun q1 w => ∀ (v3 : Int), zBb s a p2_b K2 q1 v3 = some r → w [(0, .str s), (1, .int .u8 a), (2, .int .u8 p2_b), (7, .int .i64 v3)] []) (fun w _ h => nomatch h) (fun q1 ih1 v3 h => ?_) (fun L1 => ?_)
 ·unfold zBb at h
  apply rL
  simp only [go_sem, seval]
  apply cS h <;> intro hb h
  ·simp only [go_sem, seval]
   apply bK
   simp only [go_sem, seval]
   refine zAb h fun y4 hy4 h => ?_
   refine rgJ 28 10000 (.inl rfl) (fun w => w [(0, .str s), (1, .int .u8 a), (2, .int .u8 p2_b), (7, .int .i64 v3), (27, .bool y4)] []) (runX 10000 ?_) (fun Jy4 => ?_)
   ·clear hy4
    simp only [go_sem, seval]
    apply cS h <;> intro hb h
    ·simp only [go_sem, seval]
     exact rS .bool h
    refine zAF h fun v14 _ e13 h => ?_
    simp only [go_sem, seval, e13]
    exact zAc (ih1 v14 h) ⟨rfl, rfl, rfl, rfl, trivial⟩
   clear h
   have h := hy4
   refine zCN .i64 h fun v8 _ b6 e7 h => ?_
   refine zAb h fun v9 hv9 h => ?_
   simp only [go_sem, seval, b6, e7]
   refine cX (zFn hv9) ?_
   simp only [go_sem, seval]
   apply grd_ <;> intro hb10
   ·have h := zAk hb10 h
    simp only [go_sem, seval, b6, e7]
    refine cX (zFn hv9) ?_
    simp only [go_sem, seval]
    cases h
    exact atJ (wkn Jy4 ⟨rfl, rfl, rfl, rfl, rfl, trivial⟩)
   have h := zAj hb10 h
   simp only [go_sem, seval]
   cases h
   exact atJ (wkn Jy4 ⟨rfl, rfl, rfl, rfl, rfl, trivial⟩)
  simp only [go_sem, seval]
  exact atJ (wkn (JK2 h) trivial)
 exact zAc (L1 0 h) ⟨rfl, rfl, rfl, rfl, trivial⟩
theorem zMt {p0_w : rWd} {r : Bool} (h : zF0 p0_w = some r) : zAe Tryz.prog 107 [eR3 p0_w] [] (.bool r) [] := by
 refine aX hf107 ok107 zAg ?_
 dsimp only [Tryz.f107, nums, Option.getD, List.append]
 unfold zF0 at h
 simp only [go_sem, seval]
 refine rgJ 104 10000 (.inl rfl) (fun w => w [(1, .ptr 0 0), (10, .bool ((decide (p0_w.At < 0)) || (decide ((16 : Int) < p0_w.K))))] [some [.int .u8 p0_w.K, .str p0_w.S, .int .i64 p0_w.At]]) (runX 10000 ?_) (fun Jg1 => ?_)
 ·simp only [go_sem, seval]
  apply cS h <;> intro hb h
  ·simp only [go_sem, seval]
   exact rS .bool h
  simp only [go_sem, seval]
  refine rgJ 104 10000 (.inl rfl) (fun w => w [(1, .ptr 0 0), (23, .bool (((decide (p0_w.K = 0)) || (decide (p0_w.K = 1))) || (decide (p0_w.K = 5))))] [some [.int .u8 p0_w.K, .str p0_w.S, .int .i64 p0_w.At]]) (runX 10000 ?_) (fun Jg2 => ?_)
  ·simp only [go_sem, seval]
   apply cS h <;> intro hb h
   ·simp only [go_sem, seval]
    refine zAb h fun y3 hy3 h => ?_
    refine rgJ 104 10000 (.inl rfl) (fun w => w [(2, .bool y3)] [some [.int .u8 p0_w.K, .str p0_w.S, .int .i64 p0_w.At]]) (runX 10000 ?_) (fun Jy3 => ?_)
    ·clear hy3
     simp only [go_sem, seval]
     exact rS .bool h
    clear h
    have h := hy3
    simp only [go_sem, seval]
    apply grd_ <;> intro hb5
    ·have h := zAk hb5 h
     simp only [go_sem, seval]
     apply grd_ <;> intro hb6
     ·have h := zAk hb6 h
      refine zAb h fun v7 hv7 h => ?_
      simp only [go_sem, seval]
      refine cX (zGW hv7) ?_
      simp only [go_sem, seval]
      apply grd_ <;> intro hb8
      ·have h := zAk hb8 h
       refine zCN .i64 h fun v11 _ b9 e10 h => ?_
       refine zAb h fun v12 hv12 h => ?_
       simp only [go_sem, seval, b9, e10]
       refine cX (zFn hv12) ?_
       simp only [go_sem, seval]
       cases h
       exact atJ (wkn Jy3 ⟨rfl, trivial⟩)
      have h := zAj hb8 h
      simp only [go_sem, seval]
      cases h
      exact atJ (wkn Jy3 ⟨rfl, trivial⟩)
     have h := zAj hb6 h
     simp only [go_sem, seval]
     cases h
     exact atJ (wkn Jy3 ⟨rfl, trivial⟩)
    have h := zAj hb5 h
    simp only [go_sem, seval]
    cases h
    exact atJ (wkn Jy3 ⟨rfl, trivial⟩)
   simp only [go_sem, seval]
   apply cS h <;> intro hb h
   ·simp only [go_sem, seval]
    refine zAb h fun y13 hy13 h => ?_
    refine rgJ 104 10000 (.inl rfl) (fun w => w [(2, .bool y13)] [some [.int .u8 p0_w.K, .str p0_w.S, .int .i64 p0_w.At]]) (runX 10000 ?_) (fun Jy13 => ?_)
    ·clear hy13
     simp only [go_sem, seval]
     exact rS .bool h
    clear h
    have h := hy13
    simp only [go_sem, seval]
    apply grd_ <;> intro hb15
    ·have h := zAk hb15 h
     simp only [go_sem, seval]
     apply grd_ <;> intro hb16
     ·have h := zAk hb16 h
      refine zAb h fun v17 hv17 h => ?_
      simp only [go_sem, seval]
      refine cX (zGW hv17) ?_
      simp only [go_sem, seval]
      cases h
      exact atJ (wkn Jy13 ⟨rfl, trivial⟩)
     have h := zAj hb16 h
     simp only [go_sem, seval]
     cases h
     exact atJ (wkn Jy13 ⟨rfl, trivial⟩)
    have h := zAj hb15 h
    simp only [go_sem, seval]
    cases h
    exact atJ (wkn Jy13 ⟨rfl, trivial⟩)
   simp only [go_sem, seval]
   apply cS h <;> intro hb h
   ·simp only [go_sem, seval]
    refine zAb h fun y18 hy18 h => ?_
    refine rgJ 104 10000 (.inl rfl) (fun w => w [(2, .bool y18)] [some [.int .u8 p0_w.K, .str p0_w.S, .int .i64 p0_w.At]]) (runX 10000 ?_) (fun Jy18 => ?_)
    ·clear hy18
     simp only [go_sem, seval]
     exact rS .bool h
    clear h
    have h := hy18
    simp only [go_sem, seval]
    apply grd_ <;> intro hb20
    ·have h := zAk hb20 h
     simp only [go_sem, seval]
     apply grd_ <;> intro hb21
     ·have h := zAk hb21 h
      refine zAb h fun v22 hv22 h => ?_
      simp only [go_sem, seval]
      refine cX (zGW hv22) ?_
      simp only [go_sem, seval]
      apply grd_ <;> intro hb23
      ·have h := zAk hb23 h
       simp only [go_sem, seval]
       apply grd_ <;> intro hb24
       ·have h := zAj hb24 h
        refine zCN .i64 h fun v27 _ b25 e26 h => ?_
        simp only [go_sem, seval, b25, e26]
        cases h
        exact atJ (wkn Jy18 ⟨rfl, trivial⟩)
       have h := zAk hb24 h
       simp only [go_sem, seval]
       cases h
       exact atJ (wkn Jy18 ⟨rfl, trivial⟩)
      have h := zAj hb23 h
      simp only [go_sem, seval]
      cases h
      exact atJ (wkn Jy18 ⟨rfl, trivial⟩)
     have h := zAj hb21 h
     simp only [go_sem, seval]
     cases h
     exact atJ (wkn Jy18 ⟨rfl, trivial⟩)
    have h := zAj hb20 h
    simp only [go_sem, seval]
    cases h
    exact atJ (wkn Jy18 ⟨rfl, trivial⟩)
   simp only [go_sem, seval]
   apply cS h <;> intro hb h
   ·simp only [go_sem, seval]
    exact rS .bool h
   simp only [go_sem, seval]
   exact rS .bool h
  simp only [go_sem, seval]
  apply grd_ <;> intro hb28
  ·simp only [go_sem, seval]
   apply grd_ <;> intro hb29
   ·simp only [go_sem, seval]
    exact atJ (wkn Jg2 ⟨rfl, congrArg AV.bool (by first | rfl | (rw [hb28, hb29]; rfl) | (simp [hb28, hb29]; done) | simp_all), trivial⟩)
   simp only [go_sem, seval]
   exact atJ (wkn Jg2 ⟨rfl, congrArg AV.bool (by first | rfl | (rw [hb28, hb29]; rfl) | (simp [hb28, hb29]; done) | simp_all), trivial⟩)
  simp only [go_sem, seval]
  exact atJ (wkn Jg2 ⟨rfl, congrArg AV.bool (by first | rfl | (rw [hb28]; rfl) | (simp [hb28]; done) | simp_all), trivial⟩)
 simp only [go_sem, seval]
 apply grd_ <;> intro hb30
 ·simp only [go_sem, seval]
  exact atJ (wkn Jg1 ⟨rfl, congrArg AV.bool (by first | rfl | (rw [hb30]; rfl) | (simp [hb30]; done) | simp_all), trivial⟩)
 simp only [go_sem, seval]
 exact atJ (wkn Jg1 ⟨rfl, congrArg AV.bool (by first | rfl | (rw [hb30]; rfl) | (simp [hb30]; done) | simp_all), trivial⟩)
theorem zLN {k : Int} {r : Int} (h : zHz k = some r) : zAe Tryz.prog 141 [.int .i64 k] [] (.int .u8 r) [] := by
 refine aX hf141 ok141 zC8 ?_
 dsimp only [Tryz.f141, nums, Option.getD, List.append]
 unfold zHz at h
 refine zGs h fun v2 _ e1 h => ?_
 refine zAp (AV.int .u8) none .i64 ⟨5, 1, false, 1⟩ (fun _ => rfl) h fun v5 _ (b3 : iadC ⟨5, 1, false, 1⟩ (.sl none [.int .u8 94, .int .u8 59, .int .u8 46, .int .u8 40, .int .u8 41, .int .u8 91, .int .u8 93, .int .u8 124, .int .u8 123, .int .u8 125]) (.int .i64 v2)) (e4 : iadV (.sl none [.int .u8 94, .int .u8 59, .int .u8 46, .int .u8 40, .int .u8 41, .int .u8 91, .int .u8 93, .int .u8 124, .int .u8 123, .int .u8 125]) (.int .i64 v2) = .ip ((AV.int .u8) v5).cells) h => ?_
 simp only [go_sem, seval, e1, b3, e4]
 exact rS (.int .u8) h
theorem zMT {p0_w : rWd} {r : (List Int)} (h : zFk p0_w = some r) : zAe Tryz.prog 108 [eR3 p0_w] [] (.sl none (List.map (AV.int .u8) r)) [] := by
 refine aX hf108 ok108 zDb ?_
 dsimp only [Tryz.f108, nums, Option.getD, List.append]
 unfold zFk at h
 simp only [go_sem, seval]
 apply cS h <;> intro hb h
 ·refine bytesO_s h fun v3 b1 e2 h => ?_
  refine zAQ (AV.int .u8) (some none) ⟨5, 1, false, 1⟩ (fun _ => rfl) (by decide) rfl h fun v6 _ (b4 : appc ⟨5, 1, false, 1⟩ (.sl (some none) (List.map (AV.int .u8) v3)) (.sl (some none) [.int .u8 58])) (e5 : appv (.sl (some none) (List.map (AV.int .u8) v3)) (.sl (some none) [.int .u8 58]) = .sl (some none) (List.map (AV.int .u8) v6)) h => ?_
  simp only [go_sem, seval, (zIE (P := Tryz.prog) (s := 9) (d := 148) (by rw [zJt]; rfl) (by rw [zJt]; rfl) p0_w.S), b1, e2, ne_eq, not_false_eq_true, b4, e5]
  exact rS (fun x => .sl none (List.map (AV.int .u8) x)) h
 simp only [go_sem, seval]
 apply cS h <;> intro hb h
 ·refine zAQ (AV.int .u8) none ⟨5, 1, false, 1⟩ (fun _ => rfl) (by decide) rfl h fun v9 _ (b7 : appc ⟨5, 1, false, 1⟩ (.sl (some none) [.int .u8 58]) (.sl none (List.map (AV.int .u8) (zAx p0_w.S)))) (e8 : appv (.sl (some none) [.int .u8 58]) (.sl none (List.map (AV.int .u8) (zAx p0_w.S))) = .sl (some none) (List.map (AV.int .u8) v9)) h => ?_
  simp only [go_sem, seval, (zIE (P := Tryz.prog) (s := 9) (d := 148) (by rw [zJt]; rfl) (by rw [zJt]; rfl) p0_w.S), b7, e8]
  exact rS (fun x => .sl none (List.map (AV.int .u8) x)) h
 simp only [go_sem, seval]
 apply cS h <;> intro hb h
 ·simp only [go_sem, seval]
  exact rS (fun x => .sl none (List.map (AV.int .u8) x)) h
 simp only [go_sem, seval]
 apply cS h <;> intro hb h
 ·refine cvt_s (s := 5) (k := .u8) io3 h fun v11 _ e10 h => ?_
  refine zAb h fun v12 hv12 h => ?_
  simp only [go_sem, seval, e10]
  refine cX (zLN hv12) ?_
  simp only [go_sem, seval]
  exact rS (fun x => .sl none (List.map (AV.int .u8) x)) h
 simp only [go_sem, seval]
 apply cS h <;> intro hb h
 ·simp only [go_sem, seval]
  refine zAb h fun y13 hy13 h => ?_
  refine blkJ 65 10000 (fun w => w [(3, .sl (some none) (List.map (AV.int .u8) y13))] [some [.int .u8 p0_w.K, .str p0_w.S, .int .i64 p0_w.At]]) (runX 10000 ?_) (fun Jy13 => ?_)
  ·clear hy13
   refine zAQ (AV.int .u8) (some none) ⟨5, 1, false, 1⟩ (fun _ => rfl) (by decide) rfl h fun v34 _ (b32 : appc ⟨5, 1, false, 1⟩ (.sl (some none) (List.map (AV.int .u8) y13)) (.sl (some none) [.int .u8 39])) (e33 : appv (.sl (some none) (List.map (AV.int .u8) y13)) (.sl (some none) [.int .u8 39]) = .sl (some none) (List.map (AV.int .u8) v34)) h => ?_
   simp only [go_sem, seval, b32, e33]
   exact rS (fun x => .sl none (List.map (AV.int .u8) x)) h
  clear h
  have h := hy13
  simp only [go_sem, seval]
  refine lpJ 65 fuel (fun q1 w => ∀ (v15 : (List Int)) (v16 : Int), zCb p0_w q1 v15 v16 = some y13 → w [(1, .ptr 0 0), (3, .sl (some none) (List.map (AV.int .u8) v15)), (4, .int .i64 v16)] [some [.int .u8 p0_w.K, .str p0_w.S, .int .i64 p0_w.At]]) (fun w _ _ h => nomatch h) (fun q1 ih1 v15 v16 h => ?_) (fun L1 => ?_)
  ·unfold zCb at h
   apply rL
   simp only [go_sem, seval]
   apply cS h <;> intro hb h
   ·simp only [go_sem, seval]
    apply bK
    refine zCN .i64 h fun v19 _ b17 e18 h => ?_
    refine zAQ (AV.int .u8) (some none) ⟨5, 1, false, 1⟩ (fun _ => rfl) (by decide) rfl h fun v22 _ (b20 : appc ⟨5, 1, false, 1⟩ (.sl (some none) (List.map (AV.int .u8) v15)) (.sl (some none) [.int .u8 v19])) (e21 : appv (.sl (some none) (List.map (AV.int .u8) v15)) (.sl (some none) [.int .u8 v19]) = .sl (some none) (List.map (AV.int .u8) v22)) h => ?_
    simp only [go_sem, seval, b17, e18, b20, e21]
    refine zAb h fun y25 hy25 h => ?_
    refine cndJ 65 10000 (fun w => w [(1, .ptr 0 0), (3, .sl (some none) (List.map (AV.int .u8) y25)), (4, .int .i64 v16)] [some [.int .u8 p0_w.K, .str p0_w.S, .int .i64 p0_w.At]]) (runX 10000 ?_) (fun Jy25 => ?_)
    ·clear hy25
     refine zAF h fun v31 _ e30 h => ?_
     simp only [go_sem, seval, e30]
     exact zAc (ih1 y25 v31 h) ⟨rfl, rfl, rfl, trivial⟩
    clear h
    have h := hy25
    apply cS h <;> intro hb h
    ·refine zAQ (AV.int .u8) (some none) ⟨5, 1, false, 1⟩ (fun _ => rfl) (by decide) rfl h fun v29 _ (b27 : appc ⟨5, 1, false, 1⟩ (.sl (some none) (List.map (AV.int .u8) v22)) (.sl (some none) [.int .u8 39])) (e28 : appv (.sl (some none) (List.map (AV.int .u8) v22)) (.sl (some none) [.int .u8 39]) = .sl (some none) (List.map (AV.int .u8) v29)) h => ?_
     simp only [go_sem, seval, b27, e28]
     cases h
     exact atJ (wkn Jy25 ⟨rfl, rfl, rfl, trivial⟩)
    simp only [go_sem, seval]
    cases h
    exact atJ (wkn Jy25 ⟨rfl, rfl, rfl, trivial⟩)
   simp only [go_sem, seval]
   cases h
   exact atJ (wkn Jy13 ⟨rfl, trivial⟩)
  exact zAc (L1 ([39] : List Int) 0 h) ⟨rfl, rfl, rfl, trivial⟩
 simp only [go_sem, seval, (zIE (P := Tryz.prog) (s := 9) (d := 148) (by rw [zJt]; rfl) (by rw [zJt]; rfl) p0_w.S)]
 exact rS (fun x => .sl none (List.map (AV.int .u8) x)) h
theorem zK5 {l : (List rWd)} {r : (Str × Int)} (h : zDI l = some r) : zAe Tryz.prog 54 [.sl none (List.map eR3 l)] [] (.tup [.str r.1, .int .i64 r.2]) [] := by
 refine aX hf54 ok54 zAC ?_
 dsimp only [Tryz.f54, nums, Option.getD, List.append]
 unfold zDI at h
 simp only [go_sem, seval]
 refine zBq h fun K2 hK2 h => ?_
 refine blkJ 47 10000 (fun w => K2 () = some r → w [(0, .sl none (List.map eR3 l))] []) (fun h => runX 10000 ?_) (fun JK2 => ?_)
 ·subst hK2
  dsimp only at h
  simp only [go_sem, seval]
  refine zAb h fun y10 hy10 h => ?_
  refine blkJ 47 10000 (fun w => w [(5, .sl (some none) (List.map (AV.int .u8) y10))] []) (runX 10000 ?_) (fun Jy10 => ?_)
  ·clear hy10
   simp only [go_sem, seval]
   apply cS h <;> intro hb h
   ·simp only [go_sem, seval]
    refine zBz (fun x => .tup [.str x.1, .int .i64 x.2]) h ?_
    first | rfl | simp only [go_sem, zAo, zAh, zAi, seval]
   simp only [go_sem, seval, (text_e (P := Tryz.prog) (s := 148) (d := 9) (by rw [kd9]; rfl) none y10), (zRp y10)]
   refine zBz (fun x => .tup [.str x.1, .int .i64 x.2]) h ?_
   first | rfl | simp only [go_sem, zAo, zAh, zAi, seval]
  clear h
  have h := hy10
  simp only [go_sem, seval]
  refine lpJ 47 fuel (fun q2 w => ∀ (v12 : (List Int)) (v13 : Int), zAz l q2 v12 v13 = some y10 → w [(0, .sl none (List.map eR3 l)), (5, .sl (some none) (List.map (AV.int .u8) v12)), (6, .int .i64 v13)] []) (fun w _ _ h => nomatch h) (fun q2 ih2 v12 v13 h => ?_) (fun L2 => ?_)
  ·unfold zAz at h
   apply rL
   simp only [go_sem, seval]
   refine rgJ 47 10000 (.inl rfl) (fun w => w [(0, .sl none (List.map eR3 l)), (5, .sl (some none) (List.map (AV.int .u8) v12)), (6, .int .i64 v13), (27, .bool ((decide (v13 < (l.length : Int))) && (decide ((v12.length : Int) ≤ 65536))))] []) (runX 10000 ?_) (fun Jg14 => ?_)
   ·simp only [go_sem, seval]
    apply cS h <;> intro hb h
    ·simp only [go_sem, seval]
     apply bK
     simp only [go_sem, seval]
     refine zAb h fun y15 hy15 h => ?_
     refine cndJ 47 10000 (fun w => w [(0, .sl none (List.map eR3 l)), (5, .sl (some none) (List.map (AV.int .u8) y15)), (6, .int .i64 v13)] []) (runX 10000 ?_) (fun Jy15 => ?_)
     ·clear hy15
      refine zAp eR3 none .i64 ⟨96, 3, true, 32⟩ (fun _ => rfl) h fun v22 _ b20 e21 h => ?_
      refine zAb h fun v23 hv23 h => ?_
      simp only [go_sem, seval, b20, e21]
      refine cX (zMT hv23) ?_
      refine zAQ (AV.int .u8) none ⟨5, 1, false, 1⟩ (fun _ => rfl) (by decide) rfl h fun v26 _ b24 e25 h => ?_
      refine zAF h fun v28 _ e27 h => ?_
      simp only [go_sem, seval, b24, e25, e27]
      exact zAc (ih2 v26 v28 h) ⟨rfl, rfl, rfl, trivial⟩
     clear h
     have h := hy15
     apply cS h <;> intro hb h
     ·refine zAQ (AV.int .u8) (some none) ⟨5, 1, false, 1⟩ (fun _ => rfl) (by decide) rfl h fun v19 _ (b17 : appc ⟨5, 1, false, 1⟩ (.sl (some none) (List.map (AV.int .u8) v12)) (.sl (some none) [.int .u8 32])) (e18 : appv (.sl (some none) (List.map (AV.int .u8) v12)) (.sl (some none) [.int .u8 32]) = .sl (some none) (List.map (AV.int .u8) v19)) h => ?_
      simp only [go_sem, seval, b17, e18]
      cases h
      exact atJ (wkn Jy15 ⟨rfl, rfl, rfl, trivial⟩)
     simp only [go_sem, seval]
     cases h
     exact atJ (wkn Jy15 ⟨rfl, rfl, rfl, trivial⟩)
    simp only [go_sem, seval]
    cases h
    exact atJ (wkn Jy10 ⟨rfl, trivial⟩)
   simp only [go_sem, seval]
   apply grd_ <;> intro hb29
   ·simp only [go_sem, seval]
    exact atJ (wkn Jg14 ⟨rfl, rfl, rfl, congrArg AV.bool (by first | rfl | (rw [hb29]; rfl) | (simp [hb29]; done) | simp_all), trivial⟩)
   simp only [go_sem, seval]
   exact atJ (wkn Jg14 ⟨rfl, rfl, rfl, congrArg AV.bool (by first | rfl | (rw [hb29]; rfl) | (simp [hb29]; done) | simp_all), trivial⟩)
  exact zAc (L2 [] 0 h) ⟨rfl, rfl, rfl, trivial⟩
 clear hK2
 simp only [go_sem, seval]
 refine lpJ 47 fuel (fun q1 w => ∀ (v3 : Int), zA7 l K2 q1 v3 = some r → w [(0, .sl none (List.map eR3 l)), (4, .int .i64 v3)] []) (fun w _ h => nomatch h) (fun q1 ih1 v3 h => ?_) (fun L1 => ?_)
 ·unfold zA7 at h
  apply rL
  simp only [go_sem, seval]
  apply cS h <;> intro hb h
  ·simp only [go_sem, seval]
   apply bK
   refine zAp eR3 none .i64 ⟨96, 3, true, 32⟩ (fun _ => rfl) h fun v6 _ b4 e5 h => ?_
   refine zAb h fun v7 hv7 h => ?_
   simp only [go_sem, seval, b4, e5]
   refine cX (zMt hv7) ?_
   simp only [go_sem, seval]
   apply cS h <;> intro hb h
   ·simp only [go_sem, seval]
    refine zBz (fun x => .tup [.str x.1, .int .i64 x.2]) h ?_
    first | rfl | simp only [go_sem, zAo, zAh, zAi, seval]
   refine zAF h fun v9 _ e8 h => ?_
   simp only [go_sem, seval, e8]
   exact zAc (ih1 v9 h) ⟨rfl, rfl, trivial⟩
  simp only [go_sem, seval]
  exact atJ (wkn (JK2 h) ⟨rfl, trivial⟩)
 exact zAc (L1 0 h) ⟨rfl, rfl, trivial⟩
theorem zAq {k : Int} {s : Str} {r : rWd} (h : zAL k s = some r) : zAe Tryz.prog 61 [.int .u8 k, .str s] [] (eR3 r) [] := by
 refine aX hf61 ok61 zN6 ?_
 dsimp only [Tryz.f61, nums, Option.getD, List.append]
 unfold zAL at h
 simp only [go_sem, seval]
 exact rS eR3 h
theorem zF1 {l : (List Str)} {r : (List rWd)} (h : zDF l = some r) : zAe Tryz.prog 62 [.sl none (List.map AV.str l)] [] (.sl none (List.map eR3 r)) [] := by
 refine aX hf62 ok62 zDb ?_
 dsimp only [Tryz.f62, nums, Option.getD, List.append]
 unfold zDF at h
 simp only [go_sem, seval]
 refine zAb h fun y1 hy1 h => ?_
 refine blkJ 30 10000 (fun w => w [(0, .sl none (List.map AV.str l)), (3, .sl (some none) (List.map eR3 y1))] []) (runX 10000 ?_) (fun Jy1 => ?_)
 ·clear hy1
  simp only [go_sem, seval]
  refine zAb h fun y14 hy14 h => ?_
  refine cndJ 30 10000 (fun w => w [(3, .sl (some none) (List.map eR3 y14))] []) (runX 10000 ?_) (fun Jy14 => ?_)
  ·clear hy14
   simp only [go_sem, seval]
   exact rS (fun x => .sl none (List.map eR3 x)) h
  clear h
  have h := hy14
  apply cS h <;> intro hb h
  ·refine zAb h fun v16 hv16 h => ?_
   simp only [go_sem, seval]
   refine cX (zAq hv16) ?_
   refine zAQ eR3 none ⟨96, 3, true, 32⟩ (fun _ => rfl) (by decide) rfl h fun v19 _ (b17 : appc ⟨96, 3, true, 32⟩ (.sl (some none) [.agg [.int .u8 v16.K, .str v16.S, .int .i64 v16.At]]) (.sl none (List.map eR3 y1))) (e18 : appv (.sl (some none) [.agg [.int .u8 v16.K, .str v16.S, .int .i64 v16.At]]) (.sl none (List.map eR3 y1)) = .sl (some none) (List.map eR3 v19)) h => ?_
   simp only [go_sem, seval, b17, e18]
   refine cX (zAq hv16) ?_
   refine zAQ eR3 (some none) ⟨96, 3, true, 32⟩ (fun _ => rfl) (by decide) rfl h fun v22 _ (b20 : appc ⟨96, 3, true, 32⟩ (.sl (some none) (List.map eR3 v19)) (.sl (some none) [.agg [.int .u8 v16.K, .str v16.S, .int .i64 v16.At]])) (e21 : appv (.sl (some none) (List.map eR3 v19)) (.sl (some none) [.agg [.int .u8 v16.K, .str v16.S, .int .i64 v16.At]]) = .sl (some none) (List.map eR3 v22)) h => ?_
   simp only [go_sem, seval, b20, e21]
   cases h
   exact atJ (wkn Jy14 ⟨rfl, trivial⟩)
  simp only [go_sem, seval]
  cases h
  exact atJ (wkn Jy14 ⟨rfl, trivial⟩)
 clear h
 have h := hy1
 simp only [go_sem, seval]
 refine lpJ 30 fuel (fun q1 w => ∀ (v3 : (List rWd)) (v4 : Int), zCs l q1 v3 v4 = some y1 → w [(0, .sl none (List.map AV.str l)), (3, .sl (some none) (List.map eR3 v3)), (4, .int .i64 v4)] []) (fun w _ _ h => nomatch h) (fun q1 ih1 v3 v4 h => ?_) (fun L1 => ?_)
 ·unfold zCs at h
  apply rL
  simp only [go_sem, seval]
  apply cS h <;> intro hb h
  ·simp only [go_sem, seval]
   apply bK
   refine zAp AV.str none .i64 ⟨9, 1, false, 16⟩ (fun _ => rfl) h fun v7 _ b5 e6 h => ?_
   refine zAb h fun v8 hv8 h => ?_
   simp only [go_sem, seval, b5, e6]
   refine cX (zAq hv8) ?_
   refine zAQ eR3 (some none) ⟨96, 3, true, 32⟩ (fun _ => rfl) (by decide) rfl h fun v11 _ (b9 : appc ⟨96, 3, true, 32⟩ (.sl (some none) (List.map eR3 v3)) (.sl (some none) [.agg [.int .u8 v8.K, .str v8.S, .int .i64 v8.At]])) (e10 : appv (.sl (some none) (List.map eR3 v3)) (.sl (some none) [.agg [.int .u8 v8.K, .str v8.S, .int .i64 v8.At]]) = .sl (some none) (List.map eR3 v11)) h => ?_
   refine zAF h fun v13 _ e12 h => ?_
   simp only [go_sem, seval, b9, e10, e12]
   exact zAc (ih1 v11 v13 h) ⟨rfl, rfl, rfl, trivial⟩
  simp only [go_sem, seval]
  cases h
  exact atJ (wkn Jy1 ⟨rfl, rfl, trivial⟩)
 exact zAc (L1 [] 0 h) ⟨rfl, rfl, rfl, trivial⟩
theorem zGY {of : (List (List rWd))} {l : (List Int)} {r : (List rWd)} (h : zDG of l = some r) : zAe Tryz.prog 111 [.sl none (List.map eLR of), .sl none (List.map (AV.int .i64) l)] [] (.sl none (List.map eR3 r)) [] := by
 refine aX hf111 ok111 zDb ?_
 dsimp only [Tryz.f111, nums, Option.getD, List.append]
 unfold zDG at h
 simp only [go_sem, seval]
 refine zAb h fun y1 hy1 h => ?_
 refine blkJ 29 10000 (fun w => w [(5, .sl (some none) (List.map eR3 y1))] []) (runX 10000 ?_) (fun Jy1 => ?_)
 ·clear hy1
  simp only [go_sem, seval]
  exact rS (fun x => .sl none (List.map eR3 x)) h
 clear h
 have h := hy1
 simp only [go_sem, seval]
 refine lpJ 29 fuel (fun q1 w => ∀ (v3 : (List rWd)) (v4 : Int), zBp of l q1 v3 v4 = some y1 → w [(0, .sl none (List.map eLR of)), (1, .sl none (List.map (AV.int .i64) l)), (5, .sl (some none) (List.map eR3 v3)), (6, .int .i64 v4)] []) (fun w _ _ h => nomatch h) (fun q1 ih1 v3 v4 h => ?_) (fun L1 => ?_)
 ·unfold zBp at h
  apply rL
  simp only [go_sem, seval]
  apply cS h <;> intro hb h
  ·simp only [go_sem, seval]
   apply bK
   simp only [go_sem, seval]
   refine zAb h fun y5 hy5 h => ?_
   refine cndJ 29 10000 (fun w => w [(0, .sl none (List.map eLR of)), (1, .sl none (List.map (AV.int .i64) l)), (5, .sl (some none) (List.map eR3 y5)), (6, .int .i64 v4)] []) (runX 10000 ?_) (fun Jy5 => ?_)
   ·clear hy5
    refine zAp (AV.int .i64) none .i64 ⟨3, 1, false, 8⟩ (fun _ => rfl) h fun v13 _ b11 e12 h => ?_
    refine zAp eLR none .i64 ⟨84, 1, false, 24⟩ (fun _ => rfl) h fun v16 _ b14 e15 h => ?_
    refine zAQ eR3 none ⟨96, 3, true, 32⟩ (fun _ => rfl) (by decide) rfl h fun v19 _ b17 e18 h => ?_
    refine zAF h fun v21 _ e20 h => ?_
    simp only [go_sem, seval, b11, e12, b14, e15, b17, e18, e20]
    exact zAc (ih1 v19 v21 h) ⟨rfl, rfl, rfl, rfl, trivial⟩
   clear h
   have h := hy5
   apply cS h <;> intro hb h
   ·refine zAb h fun v7 hv7 h => ?_
    simp only [go_sem, seval]
    refine cX (zAq hv7) ?_
    refine zAQ eR3 (some none) ⟨96, 3, true, 32⟩ (fun _ => rfl) (by decide) rfl h fun v10 _ (b8 : appc ⟨96, 3, true, 32⟩ (.sl (some none) (List.map eR3 v3)) (.sl (some none) [.agg [.int .u8 v7.K, .str v7.S, .int .i64 v7.At]])) (e9 : appv (.sl (some none) (List.map eR3 v3)) (.sl (some none) [.agg [.int .u8 v7.K, .str v7.S, .int .i64 v7.At]]) = .sl (some none) (List.map eR3 v10)) h => ?_
    simp only [go_sem, seval, b8, e9]
    cases h
    exact atJ (wkn Jy5 ⟨rfl, rfl, rfl, rfl, trivial⟩)
   simp only [go_sem, seval]
   cases h
   exact atJ (wkn Jy5 ⟨rfl, rfl, rfl, rfl, trivial⟩)
  simp only [go_sem, seval]
  cases h
  exact atJ (wkn Jy1 ⟨rfl, trivial⟩)
 exact zAc (L1 [] 0 h) ⟨rfl, rfl, rfl, rfl, trivial⟩
theorem zEK {sel : Str} {r : Int} (h : zCW sel = some r) : zAe Tryz.prog 168 [.str sel] [] (.int .i64 r) [] := by
 refine aX hf168 ok168 zC8 ?_
 dsimp only [Tryz.f168, nums, Option.getD, List.append]
 unfold zCW at h
 refine zAb h fun v1 hv1 h => ?_
 simp only [go_sem, seval]
 refine cX (zHe hv1) ?_
 simp only [go_sem, seval]
 apply cS h <;> intro hb h
 ·simp only [go_sem, seval]
  exact rS (.int .i64) h
 refine zGs h fun v3 _ e2 h => ?_
 refine zCN .i64 h fun v6 _ b4 e5 h => ?_
 simp only [go_sem, seval, e2, b4, e5]
 apply cS h <;> intro hb h
 ·simp only [go_sem, seval]
  exact rS (.int .i64) h
 simp only [go_sem, seval]
 exact rS (.int .i64) h
theorem zLg {sel : Str} {r : (List Str)} (h : zE4 sel = some r) : zAe Tryz.prog 169 [.str sel] [] (.sl none (List.map AV.str r)) [] := by
 refine aX hf169 ok169 zDb ?_
 dsimp only [Tryz.f169, nums, Option.getD, List.append]
 unfold zE4 at h
 simp only [go_sem, seval]
 refine zAb h fun y1 hy1 h => ?_
 refine blkJ 26 10000 (fun w => w [(3, .sl (some none) (List.map AV.str y1))] []) (runX 10000 ?_) (fun Jy1 => ?_)
 ·clear hy1
  simp only [go_sem, seval]
  exact rS (fun x => .sl none (List.map AV.str x)) h
 clear h
 have h := hy1
 simp only [go_sem, seval]
 refine lpJ 26 fuel (fun q1 w => ∀ (v3 : (List Str)) (v4 : Int) (v5 : Int), zCl sel q1 v3 v4 v5 = some y1 → w [(0, .str sel), (3, .sl (some none) (List.map AV.str v3)), (4, .int .i64 v4), (5, .int .i64 v5)] []) (fun w _ _ _ h => nomatch h) (fun q1 ih1 v3 v4 v5 h => ?_) (fun L1 => ?_)
 ·unfold zCl at h
  apply rL
  simp only [go_sem, seval]
  apply cS h <;> intro hb h
  ·simp only [go_sem, seval]
   apply bK
   refine zCN .i64 h fun v8 _ b6 e7 h => ?_
   simp only [go_sem, seval, b6, e7]
   refine zAb h fun y9 hy9 h => ?_
   refine cndJ 26 10000 (fun w => w [(0, .str sel), (3, .sl (some none) (List.map AV.str y9.1)), (4, .int .i64 y9.2), (5, .int .i64 v5)] []) (runX 10000 ?_) (fun Jy9 => ?_)
   ·clear hy9
    refine zAF h fun v20 _ e19 h => ?_
    simp only [go_sem, seval, e19]
    exact zAc (ih1 y9.1 y9.2 v20 h) ⟨rfl, rfl, rfl, rfl, trivial⟩
   clear h
   have h := hy9
   apply cS h <;> intro hb h
   ·refine zH2 (some (.int .i64 v4)) (some (.int .i64 v5)) rfl rfl h fun v13 _ b11 e12 h => ?_
    refine zAQ AV.str (some none) ⟨9, 1, false, 16⟩ (fun _ => rfl) (by decide) rfl h fun v16 _ (b14 : appc ⟨9, 1, false, 16⟩ (.sl (some none) (List.map AV.str v3)) (.sl (some none) [.str v13])) (e15 : appv (.sl (some none) (List.map AV.str v3)) (.sl (some none) [.str v13]) = .sl (some none) (List.map AV.str v16)) h => ?_
    refine zAF h fun v18 _ e17 h => ?_
    simp only [go_sem, seval, b11, e12, b14, e15, e17]
    cases h
    exact atJ (wkn Jy9 ⟨rfl, rfl, rfl, rfl, trivial⟩)
   simp only [go_sem, seval]
   cases h
   exact atJ (wkn Jy9 ⟨rfl, rfl, rfl, rfl, trivial⟩)
  simp only [go_sem, seval]
  cases h
  exact atJ (wkn Jy1 ⟨rfl, trivial⟩)
 exact zAc (L1 [] 0 0 h) ⟨rfl, rfl, rfl, rfl, trivial⟩
theorem zHP {sel : Str} {of : (List (List rWd))} {r : (List rWd)} (h : zEf sel of = some r) : zAe Tryz.prog 110 [.str sel, .sl none (List.map eLR of)] [] (.sl none (List.map eR3 r)) [] := by
 refine aX hf110 ok110 zDb ?_
 dsimp only [Tryz.f110, nums, Option.getD, List.append]
 unfold zEf at h
 refine zAb h fun v1 hv1 h => ?_
 simp only [go_sem, seval]
 refine cX (zEK hv1) ?_
 simp only [go_sem, seval]
 apply cS h <;> intro hb h
 ·refine zAb h fun v2 hv2 h => ?_
  simp only [go_sem, seval]
  refine cX (zAq hv2) ?_
  simp only [go_sem, seval]
  exact rS (fun x => .sl none (List.map eR3 x)) h
 simp only [go_sem, seval]
 refine cX (zEK hv1) ?_
 simp only [go_sem, seval]
 apply cS h <;> intro hb h
 ·simp only [go_sem, seval]
  refine rg_ 10000 (.inr ⟨[], by kernel_rfl, by kernel_rfl, by rfl⟩) ?_
  refine zAb h fun v3 hv3 h => ?_
  simp only [go_sem, seval]
  refine cX (zAq hv3) ?_
  refine zAp eLR none .i64 ⟨84, 1, false, 24⟩ (fun _ => rfl) h fun v6 _ b4 e5 h => ?_
  refine zAQ eR3 none ⟨96, 3, true, 32⟩ (fun _ => rfl) (by decide) rfl h fun v9 _ (b7 : appc ⟨96, 3, true, 32⟩ (.sl (some none) [.agg [.int .u8 v3.K, .str v3.S, .int .i64 v3.At]]) (.sl none (List.map eR3 v6))) (e8 : appv (.sl (some none) [.agg [.int .u8 v3.K, .str v3.S, .int .i64 v3.At]]) (.sl none (List.map eR3 v6)) = .sl (some none) (List.map eR3 v9)) h => ?_
  simp only [go_sem, seval, b4, e5, b7, e8]
  exact rS (fun x => .sl none (List.map eR3 x)) h
 refine zAb h fun v10 hv10 h => ?_
 simp only [go_sem, seval]
 refine cX (zLg hv10) ?_
 simp only [go_sem, seval]
 refine zAb h fun y11 hy11 h => ?_
 refine blkJ 46 10000 (fun w => w [(5, .sl (some none) (List.map eR3 y11))] []) (runX 10000 ?_) (fun Jy11 => ?_)
 ·clear hy11
  simp only [go_sem, seval]
  exact rS (fun x => .sl none (List.map eR3 x)) h
 clear h
 have h := hy11
 simp only [go_sem, seval]
 refine lpJ 46 fuel (fun q1 w => ∀ (v13 : (List rWd)) (v14 : Int), zCn of v10 q1 v13 v14 = some y11 → w [(1, .sl none (List.map eLR of)), (5, .sl (some none) (List.map eR3 v13)), (6, .sl none (List.map AV.str v10)), (7, .int .i64 v14)] []) (fun w _ _ h => nomatch h) (fun q1 ih1 v13 v14 h => ?_) (fun L1 => ?_)
 ·unfold zCn at h
  apply rL
  simp only [go_sem, seval]
  apply cS h <;> intro hb h
  ·simp only [go_sem, seval]
   apply bK
   simp only [go_sem, seval]
   refine rg_ 10000 (.inr ⟨[], by kernel_rfl, by kernel_rfl, by rfl⟩) ?_
   refine zAp AV.str none .i64 ⟨9, 1, false, 16⟩ (fun _ => rfl) h fun v17 _ b15 e16 h => ?_
   refine zAb h fun v18 hv18 h => ?_
   simp only [go_sem, seval, b15, e16]
   refine cX (zAq hv18) ?_
   refine zAQ eR3 (some none) ⟨96, 3, true, 32⟩ (fun _ => rfl) (by decide) rfl h fun v21 _ (b19 : appc ⟨96, 3, true, 32⟩ (.sl (some none) (List.map eR3 v13)) (.sl (some none) [.agg [.int .u8 v18.K, .str v18.S, .int .i64 v18.At]])) (e20 : appv (.sl (some none) (List.map eR3 v13)) (.sl (some none) [.agg [.int .u8 v18.K, .str v18.S, .int .i64 v18.At]]) = .sl (some none) (List.map eR3 v21)) h => ?_
   refine zAp eLR none .i64 ⟨84, 1, false, 24⟩ (fun _ => rfl) h fun v24 _ b22 e23 h => ?_
   refine zAQ eR3 none ⟨96, 3, true, 32⟩ (fun _ => rfl) (by decide) rfl h fun v27 _ b25 e26 h => ?_
   refine zAF h fun v29 _ e28 h => ?_
   simp only [go_sem, seval, b19, e20, b22, e23, b25, e26, e28]
   exact zAc (ih1 v27 v29 h) ⟨rfl, rfl, rfl, rfl, trivial⟩
  simp only [go_sem, seval]
  cases h
  exact atJ (wkn Jy11 ⟨rfl, trivial⟩)
 exact zAc (L1 [] 0 h) ⟨rfl, rfl, rfl, rfl, trivial⟩
theorem zFp {n : rNd} {words : (List rWd)} {sel : Str} {p3_to : Bool} {r : (List rWd)} (h : zDe n words sel p3_to = some r) : zAe Tryz.prog 167 [zCk n, .sl none (List.map eR3 words), .str sel, .bool p3_to] [] (.sl none (List.map eR3 r)) [] := by
 refine aX hf167 ok167 zDb ?_
 dsimp only [Tryz.f167, nums, Option.getD, List.append]
 unfold zDe at h
 simp only [go_sem, seval]
 refine rgJ 56 10000 (.inl rfl) (fun w => w [(1, .sl none (List.map eR3 words)), (2, .str sel), (3, .bool p3_to), (4, .ptr 0 0), (9, .bool ((decide (n.K = 8)) || (decide (n.K = 10))))] [hN n.K n.S n.N n.L n.Kids]) (runX 10000 ?_) (fun Jg1 => ?_)
 ·simp only [go_sem, seval]
  refine zAb h fun y2 hy2 h => ?_
  refine cndJ 56 10000 (fun w => w [(1, .sl none (List.map eR3 words)), (9, .bool y2)] [hN n.K n.S n.N n.L n.Kids]) (runX 10000 ?_) (fun Jy2 => ?_)
  ·clear hy2
   simp only [go_sem, seval]
   apply cS h <;> intro hb h
   ·simp only [go_sem, seval]
    exact rS (fun x => .sl none (List.map eR3 x)) h
   refine zAb h fun v13 hv13 h => ?_
   simp only [go_sem, seval]
   refine cX (zAq hv13) ?_
   refine zAQ eR3 none ⟨96, 3, true, 32⟩ (fun _ => rfl) (by decide) rfl h fun v16 _ (b14 : appc ⟨96, 3, true, 32⟩ (.sl (some none) [.agg [.int .u8 v13.K, .str v13.S, .int .i64 v13.At]]) (.sl none (List.map eR3 words))) (e15 : appv (.sl (some none) [.agg [.int .u8 v13.K, .str v13.S, .int .i64 v13.At]]) (.sl none (List.map eR3 words)) = .sl (some none) (List.map eR3 v16)) h => ?_
   refine zAb h fun v17 hv17 h => ?_
   simp only [go_sem, seval, b14, e15]
   refine cX (zAq hv17) ?_
   refine zAQ eR3 (some none) ⟨96, 3, true, 32⟩ (fun _ => rfl) (by decide) rfl h fun v20 _ (b18 : appc ⟨96, 3, true, 32⟩ (.sl (some none) (List.map eR3 v16)) (.sl (some none) [.agg [.int .u8 v17.K, .str v17.S, .int .i64 v17.At]])) (e19 : appv (.sl (some none) (List.map eR3 v16)) (.sl (some none) [.agg [.int .u8 v17.K, .str v17.S, .int .i64 v17.At]]) = .sl (some none) (List.map eR3 v20)) h => ?_
   simp only [go_sem, seval, b18, e19]
   exact rS (fun x => .sl none (List.map eR3 x)) h
  clear h
  have h := hy2
  apply cS h <;> intro hb h
  ·refine zAb h fun v4 hv4 h => ?_
   simp only [go_sem, seval]
   refine cX (zEK hv4) ?_
   refine zAb h fun v5 hv5 h => ?_
   simp only [go_sem, seval]
   refine cX (zEK hv5) ?_
   simp only [go_sem, seval]
   refine zAb h fun y6 hy6 h => ?_
   refine cndJ 56 10000 (fun w => w [(1, .sl none (List.map eR3 words)), (9, .bool y6)] [hN n.K n.S n.N n.L n.Kids]) (runX 10000 ?_) (fun Jy6 => ?_)
   ·clear hy6
    simp only [go_sem, seval]
    cases h
    exact atJ (wkn Jy2 ⟨rfl, rfl, trivial⟩)
   clear h
   have h := hy6
   apply cS h <;> intro hb h
   ·simp only [go_sem, seval]
    refine rgJ 56 10000 (.inl rfl) (fun w => w [(1, .sl none (List.map eR3 words)), (9, .bool ((decide (v4 < v5)) || ((decide (v5 = 1)) && (decide (v4 = 1)))))] [hN n.K n.S n.N n.L n.Kids]) (runX 10000 ?_) (fun Jg8 => ?_)
    ·simp only [go_sem, seval]
     cases h
     exact atJ (wkn Jy6 ⟨rfl, rfl, trivial⟩)
    simp only [go_sem, seval]
    apply grd_ <;> intro hb9
    ·simp only [go_sem, seval]
     apply grd_ <;> intro hb10
     ·simp only [go_sem, seval]
      exact atJ (wkn Jg8 ⟨rfl, congrArg AV.bool (by first | rfl | (rw [hb9, hb10]; rfl) | (simp [hb9, hb10]; done) | simp_all), trivial⟩)
     simp only [go_sem, seval]
     exact atJ (wkn Jg8 ⟨rfl, congrArg AV.bool (by first | rfl | (rw [hb9, hb10]; rfl) | (simp [hb9, hb10]; done) | simp_all), trivial⟩)
    simp only [go_sem, seval]
    exact atJ (wkn Jg8 ⟨rfl, congrArg AV.bool (by first | rfl | (rw [hb9]; rfl) | (simp [hb9]; done) | simp_all), trivial⟩)
   simp only [go_sem, seval]
   refine zAb h fun y11 hy11 h => ?_
   refine cndJ 56 10000 (fun w => w [(1, .sl none (List.map eR3 words)), (9, .bool y11)] [hN n.K n.S n.N n.L n.Kids]) (runX 10000 ?_) (fun Jy11 => ?_)
   ·clear hy11
    simp only [go_sem, seval]
    cases h
    exact atJ (wkn Jy6 ⟨rfl, rfl, trivial⟩)
   clear h
   have h := hy11
   apply cS h <;> intro hb h
   ·simp only [go_sem, seval]
    cases h
    exact atJ (wkn Jy11 ⟨rfl, rfl, trivial⟩)
   simp only [go_sem, seval]
   cases h
   exact atJ (wkn Jy11 ⟨rfl, rfl, trivial⟩)
  simp only [go_sem, seval]
  cases h
  exact atJ (wkn Jy2 ⟨rfl, rfl, trivial⟩)
 simp only [go_sem, seval]
 apply grd_ <;> intro hb21
 ·simp only [go_sem, seval]
  exact atJ (wkn Jg1 ⟨rfl, rfl, rfl, rfl, congrArg AV.bool (by first | rfl | (rw [hb21]; rfl) | (simp [hb21]; done) | simp_all), trivial⟩)
 simp only [go_sem, seval]
 exact atJ (wkn Jg1 ⟨rfl, rfl, rfl, rfl, congrArg AV.bool (by first | rfl | (rw [hb21]; rfl) | (simp [hb21]; done) | simp_all), trivial⟩)
theorem zF9 {m : rMt} {of : (List (List rWd))} {n : rNd} {kids : (List Int)} {r : (List rWd)} (h : zCQ m of n kids = some r) : zAe Tryz.prog 166 [zBT m, .sl none (List.map eLR of), zCk n, .sl none (List.map (AV.int .i64) kids)] [] (.sl none (List.map eR3 r)) [] := by
 refine aX hf166 ok166 zDb ?_
 dsimp only [Tryz.f166, nums, Option.getD, List.append]
 unfold zCQ at h
 simp only [go_sem, seval]
 refine zAb h fun y1 hy1 h => ?_
 refine blkJ 42 10000 (fun w => w [(6, .ptr 1 0), (9, .sl (some none) (List.map eLR y1))] [hR m, hN n.K n.S n.N n.L n.Kids]) (runX 10000 ?_) (fun Jy1 => ?_)
 ·clear hy1
  refine zAb h fun v22 hv22 h => ?_
  simp only [go_sem, seval]
  refine cX (zHP hv22) ?_
  simp only [go_sem, seval]
  exact rS (fun x => .sl none (List.map eR3 x)) h
 clear h
 have h := hy1
 simp only [go_sem, seval]
 refine lpJ 42 fuel (fun q1 w => ∀ (v3 : (List (List rWd))) (v4 : Int), zBg m of n kids q1 v3 v4 = some y1 → w [(1, .sl none (List.map eLR of)), (3, .sl none (List.map (AV.int .i64) kids)), (4, .ptr 0 0), (6, .ptr 1 0), (9, .sl (some none) (List.map eLR v3)), (10, .int .i64 v4)] [hR m, hN n.K n.S n.N n.L n.Kids]) (fun w _ _ h => nomatch h) (fun q1 ih1 v3 v4 h => ?_) (fun L1 => ?_)
 ·unfold zBg at h
  apply rL
  simp only [go_sem, seval]
  apply cS h <;> intro hb h
  ·simp only [go_sem, seval]
   apply bK
   simp only [go_sem, seval]
   refine rg_ 10000 (.inr ⟨[], by kernel_rfl, by kernel_rfl, by rfl⟩) ?_
   refine zAp (AV.int .i64) none .i64 ⟨3, 1, false, 8⟩ (fun _ => rfl) h fun v7 _ b5 e6 h => ?_
   refine zAp zCk none .i64 ⟨78, 5, true, 80⟩ (fun _ => rfl) h fun v10 _ b8 e9 h => ?_
   refine zAp eLR none .i64 ⟨84, 1, false, 24⟩ (fun _ => rfl) h fun v15 _ b13 e14 h => ?_
   refine zAb h fun v16 hv16 h => ?_
   simp only [go_sem, seval, b5, e6, b8, e9, b13, e14]
   refine cX (zFp hv16) ?_
   refine zAQ eLR (some none) ⟨84, 1, false, 24⟩ (fun _ => rfl) (by decide) rfl h fun v19 _ (b17 : appc ⟨84, 1, false, 24⟩ (.sl (some none) (List.map eLR v3)) (.sl (some none) [.sl none (List.map eR3 v16)])) (e18 : appv (.sl (some none) (List.map eLR v3)) (.sl (some none) [.sl none (List.map eR3 v16)]) = .sl (some none) (List.map eLR v19)) h => ?_
   refine zAF h fun v21 _ e20 h => ?_
   simp only [go_sem, seval, b17, e18, e20]
   exact zAc (ih1 v19 v21 h) ⟨rfl, rfl, rfl, rfl, rfl, rfl, trivial⟩
  simp only [go_sem, seval]
  cases h
  exact atJ (wkn Jy1 ⟨rfl, rfl, trivial⟩)
 exact zAc (L1 [] 0 h) ⟨rfl, rfl, rfl, rfl, rfl, rfl, trivial⟩
theorem zLA {m : rMt} {of : (List (List rWd))} {n : rNd} {r : (List rWd)} (h : zFf m of n = some r) : zAe Tryz.prog 109 [zBT m, .sl none (List.map eLR of), zCk n] [] (.sl none (List.map eR3 r)) [] := by
 refine aX hf109 ok109 zDb ?_
 dsimp only [Tryz.f109, nums, Option.getD, List.append]
 unfold zFf at h
 simp only [go_sem, seval]
 apply cS h <;> intro hb h
 ·refine zAp AV.str none .u8 ⟨9, 1, false, 16⟩ (fun _ => rfl) h fun v3 _ (b1 : iadC ⟨9, 1, false, 16⟩ (.sl none [.str [115, 101, 108, 102], .str [115, 117, 112, 101, 114], .str [110, 105, 108], .str [116, 114, 117, 101], .str [102, 97, 108, 115, 101]]) (.int .u8 n.K)) (e2 : iadV (.sl none [.str [115, 101, 108, 102], .str [115, 117, 112, 101, 114], .str [110, 105, 108], .str [116, 114, 117, 101], .str [102, 97, 108, 115, 101]]) (.int .u8 n.K) = .ip (AV.str v3).cells) h => ?_
  refine zAb h fun v4 hv4 h => ?_
  simp only [go_sem, seval, b1, e2]
  refine cX (zAq hv4) ?_
  simp only [go_sem, seval]
  exact rS (fun x => .sl none (List.map eR3 x)) h
 simp only [go_sem, seval]
 refine zAb h fun y5 hy5 h => ?_
 refine rgJ 225 10000 (.inl rfl) (fun w => w [(1, .sl none (List.map eLR of)), (3, .ptr 0 0), (5, .ptr 1 0), (32, .bool y5)] [hR m, hN n.K n.S n.N n.L n.Kids]) (runX 10000 ?_) (fun Jy5 => ?_)
 ·clear hy5
  simp only [go_sem, seval]
  apply cS h <;> intro hb h
  ·simp only [go_sem, seval]
   refine rg_ 10000 (.inr ⟨[], by kernel_rfl, by kernel_rfl, by rfl⟩) ?_
   refine zAb h fun v11 hv11 h => ?_
   simp only [go_sem, seval]
   refine cX (zAq hv11) ?_
   refine zH2 (some (.int .i64 1)) none rfl rfl h fun v14 _ b12 e13 h => ?_
   refine zAb h fun v15 hv15 h => ?_
   simp only [go_sem, seval, b12, e13]
   refine cX (zAq hv15) ?_
   simp only [go_sem, seval]
   exact rS (fun x => .sl none (List.map eR3 x)) h
  simp only [go_sem, seval]
  apply cS h <;> intro hb h
  ·refine zAb h fun v16 hv16 h => ?_
   simp only [go_sem, seval]
   refine cX (zAq hv16) ?_
   simp only [go_sem, seval]
   exact rS (fun x => .sl none (List.map eR3 x)) h
  simp only [go_sem, seval]
  apply cS h <;> intro hb h
  ·refine zAb h fun v17 hv17 h => ?_
   simp only [go_sem, seval]
   refine cX (zAq hv17) ?_
   simp only [go_sem, seval]
   exact rS (fun x => .sl none (List.map eR3 x)) h
  simp only [go_sem, seval]
  apply cS h <;> intro hb h
  ·refine zAb h fun v18 hv18 h => ?_
   simp only [go_sem, seval]
   refine cX (zAq hv18) ?_
   simp only [go_sem, seval]
   exact rS (fun x => .sl none (List.map eR3 x)) h
  simp only [go_sem, seval]
  apply cS h <;> intro hb h
  ·simp only [go_sem, seval]
   refine rg_ 10000 (.inr ⟨[], by kernel_rfl, by kernel_rfl, by rfl⟩) ?_
   refine zAb h fun v19 hv19 h => ?_
   simp only [go_sem, seval]
   refine cX (zAq hv19) ?_
   refine zAb h fun v20 hv20 h => ?_
   simp only [go_sem, seval]
   refine cX (zAq hv20) ?_
   refine zAp (AV.int .i64) none .i64 ⟨3, 1, false, 8⟩ (fun _ => rfl) h fun v23 _ b21 e22 h => ?_
   refine zAp eLR none .i64 ⟨84, 1, false, 24⟩ (fun _ => rfl) h fun v26 _ b24 e25 h => ?_
   refine zAQ eR3 none ⟨96, 3, true, 32⟩ (fun _ => rfl) (by decide) rfl h fun v29 _ (b27 : appc ⟨96, 3, true, 32⟩ (.sl (some none) [.agg [.int .u8 v19.K, .str v19.S, .int .i64 v19.At], .agg [.int .u8 v20.K, .str v20.S, .int .i64 v20.At]]) (.sl none (List.map eR3 v26))) (e28 : appv (.sl (some none) [.agg [.int .u8 v19.K, .str v19.S, .int .i64 v19.At], .agg [.int .u8 v20.K, .str v20.S, .int .i64 v20.At]]) (.sl none (List.map eR3 v26)) = .sl (some none) (List.map eR3 v29)) h => ?_
   simp only [go_sem, seval, b21, e22, b24, e25, b27, e28]
   exact rS (fun x => .sl none (List.map eR3 x)) h
  simp only [go_sem, seval]
  apply cS h <;> intro hb h
  ·simp only [go_sem, seval]
   refine rg_ 10000 (.inr ⟨[], by kernel_rfl, by kernel_rfl, by rfl⟩) ?_
   refine zAb h fun v30 hv30 h => ?_
   simp only [go_sem, seval]
   refine cX (zAq hv30) ?_
   refine zAp (AV.int .i64) none .i64 ⟨3, 1, false, 8⟩ (fun _ => rfl) h fun v33 _ b31 e32 h => ?_
   refine zAp eLR none .i64 ⟨84, 1, false, 24⟩ (fun _ => rfl) h fun v36 _ b34 e35 h => ?_
   refine zAQ eR3 none ⟨96, 3, true, 32⟩ (fun _ => rfl) (by decide) rfl h fun v39 _ (b37 : appc ⟨96, 3, true, 32⟩ (.sl (some none) [.agg [.int .u8 v30.K, .str v30.S, .int .i64 v30.At]]) (.sl none (List.map eR3 v36))) (e38 : appv (.sl (some none) [.agg [.int .u8 v30.K, .str v30.S, .int .i64 v30.At]]) (.sl none (List.map eR3 v36)) = .sl (some none) (List.map eR3 v39)) h => ?_
   simp only [go_sem, seval, b31, e32, b34, e35, b37, e38]
   exact rS (fun x => .sl none (List.map eR3 x)) h
  simp only [go_sem, seval]
  apply cS h <;> intro hb h
  ·refine zAb h fun v40 hv40 h => ?_
   simp only [go_sem, seval]
   refine cX (zF9 hv40) ?_
   simp only [go_sem, seval]
   exact rS (fun x => .sl none (List.map eR3 x)) h
  simp only [go_sem, seval]
  apply cS h <;> intro hb h
  ·simp only [go_sem, seval]
   refine rg_ 10000 (.inr ⟨[], by kernel_rfl, by kernel_rfl, by rfl⟩) ?_
   refine zAp (AV.int .i64) none .i64 ⟨3, 1, false, 8⟩ (fun _ => rfl) h fun v43 _ b41 e42 h => ?_
   refine zAp zCk none .i64 ⟨78, 5, true, 80⟩ (fun _ => rfl) h fun v46 _ b44 e45 h => ?_
   refine zAp eLR none .i64 ⟨84, 1, false, 24⟩ (fun _ => rfl) h fun v51 _ b49 e50 h => ?_
   refine zAb h fun v52 hv52 h => ?_
   simp only [go_sem, seval, b41, e42, b44, e45, b49, e50]
   refine cX (zFp hv52) ?_
   simp only [go_sem, seval]
   refine rg_ 10000 (.inr ⟨[], by kernel_rfl, by kernel_rfl, by rfl⟩) ?_
   refine zAQ eR3 none ⟨96, 3, true, 32⟩ (fun _ => rfl) (by decide) rfl h fun v55 _ (b53 : appc ⟨96, 3, true, 32⟩ (.sl (some none) []) (.sl none (List.map eR3 v52))) (e54 : appv (.sl (some none) []) (.sl none (List.map eR3 v52)) = .sl (some none) (List.map eR3 v55)) h => ?_
   refine zGw (AV.int .i64) none ⟨3, 1, false, 8⟩ (fun _ => rfl) (some (.int .i64 1)) none rfl rfl h fun v58 _ b56 e57 h => ?_
   refine zAb h fun v59 hv59 h => ?_
   simp only [go_sem, seval, b53, e54, b56, e57]
   refine cX (zF9 hv59) ?_
   refine zAQ eR3 none ⟨96, 3, true, 32⟩ (fun _ => rfl) (by decide) rfl h fun v62 _ b60 e61 h => ?_
   simp only [go_sem, seval, b60, e61]
   exact rS (fun x => .sl none (List.map eR3 x)) h
  simp only [go_sem, seval]
  apply cS h <;> intro hb h
  ·simp only [go_sem, seval]
   refine rg_ 10000 (.inr ⟨[], by kernel_rfl, by kernel_rfl, by rfl⟩) ?_
   refine zAp (AV.int .i64) none .i64 ⟨3, 1, false, 8⟩ (fun _ => rfl) h fun v65 _ b63 e64 h => ?_
   refine zAp zCk none .i64 ⟨78, 5, true, 80⟩ (fun _ => rfl) h fun v68 _ b66 e67 h => ?_
   refine zAp eLR none .i64 ⟨84, 1, false, 24⟩ (fun _ => rfl) h fun v73 _ b71 e72 h => ?_
   refine zAp (AV.int .i64) none .i64 ⟨3, 1, false, 8⟩ (fun _ => rfl) h fun v76 _ b74 e75 h => ?_
   refine zAp zCk none .i64 ⟨78, 5, true, 80⟩ (fun _ => rfl) h fun v79 _ b77 e78 h => ?_
   refine zAb h fun v80 hv80 h => ?_
   simp only [go_sem, seval, b63, e64, b66, e67, b71, e72, b74, e75, b77, e78]
   refine cX (zFp hv80) ?_
   refine zAQ eR3 none ⟨96, 3, true, 32⟩ (fun _ => rfl) (by decide) rfl h fun v83 _ (b81 : appc ⟨96, 3, true, 32⟩ (.sl (some none) []) (.sl none (List.map eR3 v80))) (e82 : appv (.sl (some none) []) (.sl none (List.map eR3 v80)) = .sl (some none) (List.map eR3 v83)) h => ?_
   simp only [go_sem, seval, b81, e82]
   refine zAb h fun y84 hy84 h => ?_
   refine blkJ 225 10000 (fun w => w [(9, .sl (some none) (List.map eR3 y84))] [hR m, hN n.K n.S n.N n.L n.Kids]) (runX 10000 ?_) (fun Jy84 => ?_)
   ·clear hy84
    simp only [go_sem, seval]
    exact rS (fun x => .sl none (List.map eR3 x)) h
   clear h
   have h := hy84
   simp only [go_sem, seval]
   refine lpJ 225 fuel (fun q1 w => ∀ (v86 : (List rWd)) (v87 : Int), zBj of n q1 v86 v87 = some y84 → w [(1, .sl none (List.map eLR of)), (5, .ptr 1 0), (9, .sl (some none) (List.map eR3 v86)), (10, .int .i64 v87)] [hR m, hN n.K n.S n.N n.L n.Kids]) (fun w _ _ h => nomatch h) (fun q1 ih1 v86 v87 h => ?_) (fun L1 => ?_)
   ·unfold zBj at h
    apply rL
    simp only [go_sem, seval]
    apply cS h <;> intro hb h
    ·simp only [go_sem, seval]
     apply bK
     simp only [go_sem, seval]
     refine zAb h fun y88 hy88 h => ?_
     refine cndJ 225 10000 (fun w => w [(1, .sl none (List.map eLR of)), (5, .ptr 1 0), (9, .sl (some none) (List.map eR3 y88)), (10, .int .i64 v87)] [hR m, hN n.K n.S n.N n.L n.Kids]) (runX 10000 ?_) (fun Jy88 => ?_)
     ·clear hy88
      refine zAp (AV.int .i64) none .i64 ⟨3, 1, false, 8⟩ (fun _ => rfl) h fun v96 _ b94 e95 h => ?_
      refine zAp eLR none .i64 ⟨84, 1, false, 24⟩ (fun _ => rfl) h fun v99 _ b97 e98 h => ?_
      refine zAQ eR3 none ⟨96, 3, true, 32⟩ (fun _ => rfl) (by decide) rfl h fun v102 _ b100 e101 h => ?_
      refine zAF h fun v104 _ e103 h => ?_
      simp only [go_sem, seval, b94, e95, b97, e98, b100, e101, e103]
      exact zAc (ih1 v102 v104 h) ⟨rfl, rfl, rfl, rfl, trivial⟩
     clear h
     have h := hy88
     apply cS h <;> intro hb h
     ·refine zAb h fun v90 hv90 h => ?_
      simp only [go_sem, seval]
      refine cX (zAq hv90) ?_
      refine zAQ eR3 (some none) ⟨96, 3, true, 32⟩ (fun _ => rfl) (by decide) rfl h fun v93 _ (b91 : appc ⟨96, 3, true, 32⟩ (.sl (some none) (List.map eR3 v86)) (.sl (some none) [.agg [.int .u8 v90.K, .str v90.S, .int .i64 v90.At]])) (e92 : appv (.sl (some none) (List.map eR3 v86)) (.sl (some none) [.agg [.int .u8 v90.K, .str v90.S, .int .i64 v90.At]]) = .sl (some none) (List.map eR3 v93)) h => ?_
      simp only [go_sem, seval, b91, e92]
      cases h
      exact atJ (wkn Jy88 ⟨rfl, rfl, rfl, rfl, trivial⟩)
     simp only [go_sem, seval]
     cases h
     exact atJ (wkn Jy88 ⟨rfl, rfl, rfl, rfl, trivial⟩)
    simp only [go_sem, seval]
    cases h
    exact atJ (wkn Jy84 ⟨rfl, trivial⟩)
   exact zAc (L1 v83 1 h) ⟨rfl, rfl, rfl, rfl, trivial⟩
  refine zAb h fun v105 hv105 h => ?_
  simp only [go_sem, seval]
  refine cX (zAq hv105) ?_
  simp only [go_sem, seval]
  refine zAb h fun y106 hy106 h => ?_
  refine blkJ 225 10000 (fun w => w [(1, .sl none (List.map eLR of)), (5, .ptr 1 0), (11, .sl (some none) (List.map eR3 y106))] [hR m, hN n.K n.S n.N n.L n.Kids]) (runX 10000 ?_) (fun Jy106 => ?_)
  ·clear hy106
   simp only [go_sem, seval]
   refine zAb h fun y119 hy119 h => ?_
   refine cndJ 225 10000 (fun w => w [(1, .sl none (List.map eLR of)), (5, .ptr 1 0), (11, .sl (some none) (List.map eR3 y119))] [hR m, hN n.K n.S n.N n.L n.Kids]) (runX 10000 ?_) (fun Jy119 => ?_)
   ·clear hy119
    simp only [go_sem, seval]
    refine rg_ 10000 (.inr ⟨[], by kernel_rfl, by kernel_rfl, by rfl⟩) ?_
    refine zGw AV.str none ⟨9, 1, false, 16⟩ (fun _ => rfl) (some (.int .i64 n.N)) none rfl rfl h fun v127 _ b125 e126 h => ?_
    refine zAb h fun v128 hv128 h => ?_
    simp only [go_sem, seval, b125, e126]
    refine cX (zF1 hv128) ?_
    refine zAQ eR3 none ⟨96, 3, true, 32⟩ (fun _ => rfl) (by decide) rfl h fun v131 _ b129 e130 h => ?_
    refine zAb h fun v132 hv132 h => ?_
    simp only [go_sem, seval, b129, e130]
    refine cX (zGY hv132) ?_
    refine zAQ eR3 none ⟨96, 3, true, 32⟩ (fun _ => rfl) (by decide) rfl h fun v135 _ b133 e134 h => ?_
    refine zAb h fun v136 hv136 h => ?_
    simp only [go_sem, seval, b133, e134]
    refine cX (zAq hv136) ?_
    refine zAQ eR3 (some none) ⟨96, 3, true, 32⟩ (fun _ => rfl) (by decide) rfl h fun v139 _ (b137 : appc ⟨96, 3, true, 32⟩ (.sl (some none) (List.map eR3 v135)) (.sl (some none) [.agg [.int .u8 v136.K, .str v136.S, .int .i64 v136.At]])) (e138 : appv (.sl (some none) (List.map eR3 v135)) (.sl (some none) [.agg [.int .u8 v136.K, .str v136.S, .int .i64 v136.At]]) = .sl (some none) (List.map eR3 v139)) h => ?_
    simp only [go_sem, seval, b137, e138]
    exact rS (fun x => .sl none (List.map eR3 x)) h
   clear h
   have h := hy119
   apply cS h <;> intro hb h
   ·refine zAb h fun v121 hv121 h => ?_
    simp only [go_sem, seval]
    refine cX (zAq hv121) ?_
    refine zAQ eR3 (some none) ⟨96, 3, true, 32⟩ (fun _ => rfl) (by decide) rfl h fun v124 _ (b122 : appc ⟨96, 3, true, 32⟩ (.sl (some none) (List.map eR3 y106)) (.sl (some none) [.agg [.int .u8 v121.K, .str v121.S, .int .i64 v121.At]])) (e123 : appv (.sl (some none) (List.map eR3 y106)) (.sl (some none) [.agg [.int .u8 v121.K, .str v121.S, .int .i64 v121.At]]) = .sl (some none) (List.map eR3 v124)) h => ?_
    simp only [go_sem, seval, b122, e123]
    cases h
    exact atJ (wkn Jy119 ⟨rfl, rfl, rfl, trivial⟩)
   simp only [go_sem, seval]
   cases h
   exact atJ (wkn Jy119 ⟨rfl, rfl, rfl, trivial⟩)
  clear h
  have h := hy106
  simp only [go_sem, seval]
  refine lpJ 225 fuel (fun q2 w => ∀ (v108 : (List rWd)) (v109 : Int), zCq n q2 v108 v109 = some y106 → w [(1, .sl none (List.map eLR of)), (5, .ptr 1 0), (11, .sl (some none) (List.map eR3 v108)), (12, .int .i64 v109)] [hR m, hN n.K n.S n.N n.L n.Kids]) (fun w _ _ h => nomatch h) (fun q2 ih2 v108 v109 h => ?_) (fun L2 => ?_)
  ·unfold zCq at h
   apply rL
   simp only [go_sem, seval]
   apply cS h <;> intro hb h
   ·simp only [go_sem, seval]
    apply bK
    refine zAp AV.str none .i64 ⟨9, 1, false, 16⟩ (fun _ => rfl) h fun v112 _ b110 e111 h => ?_
    refine zAb h fun v113 hv113 h => ?_
    simp only [go_sem, seval, b110, e111]
    refine cX (zAq hv113) ?_
    refine zAQ eR3 (some none) ⟨96, 3, true, 32⟩ (fun _ => rfl) (by decide) rfl h fun v116 _ (b114 : appc ⟨96, 3, true, 32⟩ (.sl (some none) (List.map eR3 v108)) (.sl (some none) [.agg [.int .u8 v113.K, .str v113.S, .int .i64 v113.At]])) (e115 : appv (.sl (some none) (List.map eR3 v108)) (.sl (some none) [.agg [.int .u8 v113.K, .str v113.S, .int .i64 v113.At]]) = .sl (some none) (List.map eR3 v116)) h => ?_
    refine zAF h fun v118 _ e117 h => ?_
    simp only [go_sem, seval, b114, e115, e117]
    exact zAc (ih2 v116 v118 h) ⟨rfl, rfl, rfl, rfl, trivial⟩
   simp only [go_sem, seval]
   cases h
   exact atJ (wkn Jy106 ⟨rfl, rfl, rfl, trivial⟩)
  exact zAc (L2 ([v105] : List rWd) 0 h) ⟨rfl, rfl, rfl, rfl, trivial⟩
 clear h
 have h := hy5
 simp only [go_sem, seval]
 apply grd_ <;> intro hb7
 ·have h := zAk hb7 h
  refine zCN .i64 h fun v10 _ b8 e9 h => ?_
  simp only [go_sem, seval, b8, e9]
  cases h
  exact atJ (wkn Jy5 ⟨rfl, rfl, rfl, rfl, trivial⟩)
 have h := zAj hb7 h
 simp only [go_sem, seval]
 cases h
 exact atJ (wkn Jy5 ⟨rfl, rfl, rfl, rfl, trivial⟩)
theorem zKs {m : rMt} {r : (List rWd)} (h : zEx m = some r) : zAe Tryz.prog 55 [zBT m] [] (.sl none (List.map eR3 r)) [] := by
 refine aX hf55 ok55 zDb ?_
 dsimp only [Tryz.f55, nums, Option.getD, List.append]
 unfold zEx at h
 simp only [go_sem, seval]
 refine zAb h fun y1 hy1 h => ?_
 refine blkJ 66 10000 (fun w => w [(1, .ptr 0 0), (3, .sl (some none) (List.map eLR y1))] [hR m]) (runX 10000 ?_) (fun Jy1 => ?_)
 ·clear hy1
  simp only [go_sem, seval]
  refine zAb h fun y14 hy14 h => ?_
  refine blkJ 66 10000 (fun w => w [(1, .ptr 0 0), (3, .sl (some none) (List.map eLR y1)), (5, .sl (some none) (List.map eLR y14))] [hR m]) (runX 10000 ?_) (fun Jy14 => ?_)
  ·clear hy14
   refine zAb h fun v27 hv27 h => ?_
   simp only [go_sem, seval]
   refine cX (zHP hv27) ?_
   refine zAQ eR3 none ⟨96, 3, true, 32⟩ (fun _ => rfl) (by decide) rfl h fun v30 _ (b28 : appc ⟨96, 3, true, 32⟩ (.sl (some none) []) (.sl none (List.map eR3 v27))) (e29 : appv (.sl (some none) []) (.sl none (List.map eR3 v27)) = .sl (some none) (List.map eR3 v30)) h => ?_
   refine zAb h fun v31 hv31 h => ?_
   simp only [go_sem, seval, b28, e29]
   refine cX (zAq hv31) ?_
   refine zAQ eR3 (some none) ⟨96, 3, true, 32⟩ (fun _ => rfl) (by decide) rfl h fun v34 _ (b32 : appc ⟨96, 3, true, 32⟩ (.sl (some none) (List.map eR3 v30)) (.sl (some none) [.agg [.int .u8 v31.K, .str v31.S, .int .i64 v31.At]])) (e33 : appv (.sl (some none) (List.map eR3 v30)) (.sl (some none) [.agg [.int .u8 v31.K, .str v31.S, .int .i64 v31.At]]) = .sl (some none) (List.map eR3 v34)) h => ?_
   simp only [go_sem, seval, b32, e33]
   refine rg_ 10000 (.inr ⟨[], by kernel_rfl, by kernel_rfl, by rfl⟩) ?_
   refine zAb h fun v35 hv35 h => ?_
   simp only [go_sem, seval]
   refine cX (zF1 hv35) ?_
   refine zAQ eR3 none ⟨96, 3, true, 32⟩ (fun _ => rfl) (by decide) rfl h fun v38 _ b36 e37 h => ?_
   refine zAb h fun v39 hv39 h => ?_
   simp only [go_sem, seval, b36, e37]
   refine cX (zGY hv39) ?_
   refine zAQ eR3 none ⟨96, 3, true, 32⟩ (fun _ => rfl) (by decide) rfl h fun v42 _ b40 e41 h => ?_
   refine zAb h fun v43 hv43 h => ?_
   simp only [go_sem, seval, b40, e41]
   refine cX (zAq hv43) ?_
   refine zAQ eR3 (some none) ⟨96, 3, true, 32⟩ (fun _ => rfl) (by decide) rfl h fun v46 _ (b44 : appc ⟨96, 3, true, 32⟩ (.sl (some none) (List.map eR3 v42)) (.sl (some none) [.agg [.int .u8 v43.K, .str v43.S, .int .i64 v43.At]])) (e45 : appv (.sl (some none) (List.map eR3 v42)) (.sl (some none) [.agg [.int .u8 v43.K, .str v43.S, .int .i64 v43.At]]) = .sl (some none) (List.map eR3 v46)) h => ?_
   simp only [go_sem, seval, b44, e45]
   exact rS (fun x => .sl none (List.map eR3 x)) h
  clear h
  have h := hy14
  simp only [go_sem, seval]
  refine lpJ 66 fuel (fun q2 w => ∀ (v16 : (List (List rWd))) (v17 : Int), zBQ m q2 v16 v17 = some y14 → w [(1, .ptr 0 0), (3, .sl (some none) (List.map eLR y1)), (5, .sl (some none) (List.map eLR v16)), (6, .int .i64 v17)] [hR m]) (fun w _ _ h => nomatch h) (fun q2 ih2 v16 v17 h => ?_) (fun L2 => ?_)
  ·unfold zBQ at h
   apply rL
   simp only [go_sem, seval]
   apply cS h <;> intro hb h
   ·simp only [go_sem, seval]
    apply bK
    refine zAp AV.str none .i64 ⟨9, 1, false, 16⟩ (fun _ => rfl) h fun v20 _ b18 e19 h => ?_
    refine zAb h fun v21 hv21 h => ?_
    simp only [go_sem, seval, b18, e19]
    refine cX (zAq hv21) ?_
    refine zAQ eLR (some none) ⟨84, 1, false, 24⟩ (fun _ => rfl) (by decide) rfl h fun v24 _ (b22 : appc ⟨84, 1, false, 24⟩ (.sl (some none) (List.map eLR v16)) (.sl (some none) [.sl none [.agg [.int .u8 v21.K, .str v21.S, .int .i64 v21.At]]])) (e23 : appv (.sl (some none) (List.map eLR v16)) (.sl (some none) [.sl none [.agg [.int .u8 v21.K, .str v21.S, .int .i64 v21.At]]]) = .sl (some none) (List.map eLR v24)) h => ?_
    refine zAF h fun v26 _ e25 h => ?_
    simp only [go_sem, seval, b22, e23, e25]
    exact zAc (ih2 v24 v26 h) ⟨rfl, rfl, rfl, rfl, trivial⟩
   simp only [go_sem, seval]
   cases h
   exact atJ (wkn Jy14 ⟨rfl, rfl, rfl, trivial⟩)
  exact zAc (L2 [] 0 h) ⟨rfl, rfl, rfl, rfl, trivial⟩
 clear h
 have h := hy1
 simp only [go_sem, seval]
 refine lpJ 66 fuel (fun q1 w => ∀ (v3 : (List (List rWd))) (v4 : Int), zBl m q1 v3 v4 = some y1 → w [(1, .ptr 0 0), (3, .sl (some none) (List.map eLR v3)), (4, .int .i64 v4)] [hR m]) (fun w _ _ h => nomatch h) (fun q1 ih1 v3 v4 h => ?_) (fun L1 => ?_)
 ·unfold zBl at h
  apply rL
  simp only [go_sem, seval]
  apply cS h <;> intro hb h
  ·simp only [go_sem, seval]
   apply bK
   simp only [go_sem, seval]
   refine rg_ 10000 (.inr ⟨[], by kernel_rfl, by kernel_rfl, by rfl⟩) ?_
   refine zAp zCk none .i64 ⟨78, 5, true, 80⟩ (fun _ => rfl) h fun v7 _ b5 e6 h => ?_
   refine zAb h fun v8 hv8 h => ?_
   simp only [go_sem, seval, b5, e6]
   refine cX (zLA hv8) ?_
   refine zAQ eLR (some none) ⟨84, 1, false, 24⟩ (fun _ => rfl) (by decide) rfl h fun v11 _ (b9 : appc ⟨84, 1, false, 24⟩ (.sl (some none) (List.map eLR v3)) (.sl (some none) [.sl none (List.map eR3 v8)])) (e10 : appv (.sl (some none) (List.map eLR v3)) (.sl (some none) [.sl none (List.map eR3 v8)]) = .sl (some none) (List.map eLR v11)) h => ?_
   refine zAF h fun v13 _ e12 h => ?_
   simp only [go_sem, seval, b9, e10, e12]
   exact zAc (ih1 v11 v13 h) ⟨rfl, rfl, rfl, trivial⟩
  simp only [go_sem, seval]
  cases h
  exact atJ (wkn Jy1 ⟨rfl, rfl, trivial⟩)
 exact zAc (L1 [] 0 h) ⟨rfl, rfl, rfl, trivial⟩
theorem zG7 {l : (List rCl)} {r : Bool} (h : zBF l = some r) : zAe Tryz.prog 19 [.sl none (List.map zAV l)] [] (.bool r) [] := by
 refine aX hf19 ok19 zAg ?_
 dsimp only [Tryz.f19, nums, Option.getD, List.append]
 unfold zBF at h
 simp only [go_sem, seval]
 apply cS h <;> intro hb h
 ·simp only [go_sem, seval]
  exact rS .bool h
 simp only [go_sem, seval]
 refine zBq h fun K2 hK2 h => ?_
 refine blkJ 66 10000 (fun w => K2 () = some r → w [] []) (fun h => runX 10000 ?_) (fun JK2 => ?_)
 ·subst hK2
  dsimp only at h
  simp only [go_sem, seval]
  exact rS .bool h
 clear hK2
 simp only [go_sem, seval]
 refine lpJ 66 fuel (fun q1 w => ∀ (v3 : Int), zAA l K2 q1 v3 = some r → w [(0, .sl none (List.map zAV l)), (3, .int .i64 v3)] []) (fun w _ h => nomatch h) (fun q1 ih1 v3 h => ?_) (fun L1 => ?_)
 ·unfold zAA at h
  apply rL
  simp only [go_sem, seval]
  apply cS h <;> intro hb h
  ·simp only [go_sem, seval]
   apply bK
   simp only [go_sem, seval]
   refine zAb h fun y4 hy4 h => ?_
   refine rgJ 66 10000 (.inl rfl) (fun w => w [(0, .sl none (List.map zAV l)), (3, .int .i64 v3), (46, .bool y4)] []) (runX 10000 ?_) (fun Jy4 => ?_)
   ·clear hy4
    simp only [go_sem, seval]
    apply cS h <;> intro hb h
    ·simp only [go_sem, seval]
     exact rS .bool h
    simp only [go_sem, seval]
    refine zBq h fun K20 hK20 h => ?_
    refine blkJ 66 10000 (fun w => K20 () = some r → w [(0, .sl none (List.map zAV l)), (3, .int .i64 v3)] []) (fun h => runX 10000 ?_) (fun JK20 => ?_)
    ·subst hK20
     dsimp only at h
     refine zAF h fun v34 _ e33 h => ?_
     simp only [go_sem, seval, e33]
     exact zAc (ih1 v34 h) ⟨rfl, rfl, trivial⟩
    clear hK20
    simp only [go_sem, seval]
    refine lpJ 66 fuel (fun q2 w => ∀ (v21 : Int), zAI l v3 K20 q2 v21 = some r → w [(0, .sl none (List.map zAV l)), (3, .int .i64 v3), (4, .int .i64 v21)] []) (fun w _ h => nomatch h) (fun q2 ih2 v21 h => ?_) (fun L2 => ?_)
    ·unfold zAI at h
     apply rL
     refine zAp zAV none .i64 ⟨54, 4, true, 80⟩ (fun _ => rfl) h fun v24 _ b22 e23 h => ?_
     simp only [go_sem, seval, b22, e23]
     apply cS h <;> intro hb h
     ·simp only [go_sem, seval]
      apply bK
      refine zAp zBT none .i64 ⟨26, 5, true, 112⟩ (fun _ => rfl) h fun v29 _ b27 e28 h => ?_
      refine zAb h fun v30 hv30 h => ?_
      simp only [go_sem, seval, b22, e23, b27, e28]
      refine cX (zIO hv30) ?_
      simp only [go_sem, seval]
      apply cS h <;> intro hb h
      ·simp only [go_sem, seval]
       exact rS .bool h
      refine zAF h fun v32 _ e31 h => ?_
      simp only [go_sem, seval, e31]
      exact zAc (ih2 v32 h) ⟨rfl, rfl, rfl, trivial⟩
     simp only [go_sem, seval]
     exact atJ (wkn (JK20 h) ⟨rfl, rfl, trivial⟩)
    exact zAc (L2 0 h) ⟨rfl, rfl, rfl, trivial⟩
   clear h
   have h := hy4
   refine zAp zAV none .i64 ⟨54, 4, true, 80⟩ (fun _ => rfl) h fun v8 _ b6 e7 h => ?_
   simp only [go_sem, seval, b6, e7]
   apply grd_ <;> intro hb9
   ·have h := zAj hb9 h
    simp only [go_sem, seval, b6, e7]
    apply grd_ <;> intro hb12
    ·have h := zAj hb12 h
     refine zAb h fun v15 hv15 h => ?_
     simp only [go_sem, seval, b6, e7]
     refine cX (zC7 hv15) ?_
     simp only [go_sem, seval]
     apply grd_ <;> intro hb16
     ·have h := zAj hb16 h
      simp only [go_sem, seval, b6, e7]
      cases h
      exact atJ (wkn Jy4 ⟨rfl, rfl, rfl, trivial⟩)
     have h := zAk hb16 h
     simp only [go_sem, seval]
     cases h
     exact atJ (wkn Jy4 ⟨rfl, rfl, rfl, trivial⟩)
    have h := zAk hb12 h
    simp only [go_sem, seval]
    cases h
    exact atJ (wkn Jy4 ⟨rfl, rfl, rfl, trivial⟩)
   have h := zAk hb9 h
   simp only [go_sem, seval]
   cases h
   exact atJ (wkn Jy4 ⟨rfl, rfl, rfl, trivial⟩)
  simp only [go_sem, seval]
  exact atJ (wkn (JK2 h) trivial)
 exact zAc (L1 0 h) ⟨rfl, rfl, trivial⟩
theorem zGV {l : (List rCl)} {r : (List tCl)} (h : zB6 l = some r) : zAe Tryz.prog 21 [.sl none (List.map zAV l)] [] (.sl none (List.map zBh r)) [] := by
 refine aX hf21 ok21 zDb ?_
 dsimp only [Tryz.f21, nums, Option.getD, List.append]
 unfold zB6 at h
 simp only [go_sem, seval]
 refine zAb h fun y1 hy1 h => ?_
 refine blkJ 60 10000 (fun w => w [(3, .sl (some none) (List.map zBh y1))] []) (runX 10000 ?_) (fun Jy1 => ?_)
 ·clear hy1
  simp only [go_sem, seval]
  exact rS (fun x => .sl none (List.map zBh x)) h
 clear h
 have h := hy1
 simp only [go_sem, seval]
 refine lpJ 60 fuel (fun q1 w => ∀ (v3 : (List tCl)) (v4 : Int), zAN l q1 v3 v4 = some y1 → w [(0, .sl none (List.map zAV l)), (3, .sl (some none) (List.map zBh v3)), (4, .int .i64 v4)] []) (fun w _ _ h => nomatch h) (fun q1 ih1 v3 v4 h => ?_) (fun L1 => ?_)
 ·unfold zAN at h
  apply rL
  simp only [go_sem, seval]
  apply cS h <;> intro hb h
  ·simp only [go_sem, seval]
   apply bK
   simp only [go_sem, seval]
   refine rg_ 10000 (.inr ⟨[], by kernel_rfl, by kernel_rfl, by rfl⟩) ?_
   refine zAp zAV none .i64 ⟨54, 4, true, 80⟩ (fun _ => rfl) h fun v7 _ b5 e6 h => ?_
   refine zAQ AV.str none ⟨9, 1, false, 16⟩ (fun _ => rfl) (by decide) rfl h fun v14 _ (b12 : appc ⟨9, 1, false, 16⟩ (.sl (some none) []) (.sl none (List.map AV.str v7.Vars))) (e13 : appv (.sl (some none) []) (.sl none (List.map AV.str v7.Vars)) = .sl (some none) (List.map AV.str v14)) h => ?_
   simp only [go_sem, seval, b5, e6, b12, e13]
   refine zAb h fun y15 hy15 h => ?_
   refine blkJ 60 10000 (fun w => w [(0, .sl none (List.map zAV l)), (3, .sl (some none) (List.map zBh v3)), (4, .int .i64 v4), (5, .ptr 0 0)] [some [.str v7.Name, .str v7.Super, .sl none (List.map AV.str v14), .sl (some none) (List.map zA5 y15)]]) (runX 10000 ?_) (fun Jy15 => ?_)
   ·clear hy15
    refine zAQ zBh (some none) ⟨81, 4, true, 80⟩ (fun _ => rfl) (by decide) rfl h fun v48 _ (b46 : appc ⟨81, 4, true, 80⟩ (.sl (some none) (List.map zBh v3)) (.sl (some none) [.agg [.str v7.Name, .str v7.Super, .sl none (List.map AV.str v14), .sl none (List.map zA5 y15)]])) (e47 : appv (.sl (some none) (List.map zBh v3)) (.sl (some none) [.agg [.str v7.Name, .str v7.Super, .sl none (List.map AV.str v14), .sl none (List.map zA5 y15)]]) = .sl (some none) (List.map zBh v48)) h => ?_
    refine zAF h fun v50 _ e49 h => ?_
    simp only [go_sem, seval, b46, e47, e49]
    exact zDx 0 (ih1 v48 v50 h) ⟨rfl, rfl, rfl, trivial⟩ rfl rfl rfl (by first | rfl | simp only [go_sem, ltF]) (by first | rfl | simp only [go_sem, zCu])
   clear h
   have h := hy15
   simp only [go_sem, seval]
   refine lpJ 60 fuel (fun q2 w => ∀ (v31 : Int) (v32 : (List tMt)), zAM v7 q2 v31 v32 = some y15 → w [(0, .sl none (List.map zAV l)), (3, .sl (some none) (List.map zBh v3)), (4, .int .i64 v4), (5, .ptr 0 0), (6, .int .i64 v31)] [some [.str v7.Name, .str v7.Super, .sl none (List.map AV.str v14), .sl (some none) (List.map zA5 v32)]]) (fun w _ _ h => nomatch h) (fun q2 ih2 v31 v32 h => ?_) (fun L2 => ?_)
   ·unfold zAM at h
    apply rL
    simp only [go_sem, seval, b5, e6]
    apply cS h <;> intro hb h
    ·simp only [go_sem, seval]
     apply bK
     simp only [go_sem, seval]
     refine rg_ 10000 (.inr ⟨[(5, 0), (41, 0), (54, 0)], by kernel_rfl, by kernel_rfl, by rfl⟩) ?_
     refine zAp zBT none .i64 ⟨26, 5, true, 112⟩ (fun _ => rfl) h fun v39 _ b37 e38 h => ?_
     refine zAb h fun v40 hv40 h => ?_
     simp only [go_sem, seval, b5, e6, b37, e38]
     refine cX (zHq hv40) ?_
     refine zAQ zA5 (some none) ⟨35, 5, true, 112⟩ (fun _ => rfl) (by decide) rfl h fun v43 _ (b41 : appc ⟨35, 5, true, 112⟩ (.sl (some none) (List.map zA5 v32)) (.sl (some none) [.agg [.str v40.Sel, .sl none (List.map AV.str v40.Args), .sl none (List.map AV.str v40.Temps), .sl none (List.map zAu v40.Nodes), .sl none (List.map (AV.int .i64) v40.Body)]])) (e42 : appv (.sl (some none) (List.map zA5 v32)) (.sl (some none) [.agg [.str v40.Sel, .sl none (List.map AV.str v40.Args), .sl none (List.map AV.str v40.Temps), .sl none (List.map zAu v40.Nodes), .sl none (List.map (AV.int .i64) v40.Body)]]) = .sl (some none) (List.map zA5 v43)) h => ?_
     refine zAF h fun v45 _ e44 h => ?_
     simp only [go_sem, seval, b41, e42, e44]
     exact zAc (ih2 v45 v43 h) ⟨rfl, rfl, rfl, rfl, rfl, trivial⟩
    simp only [go_sem, seval]
    cases h
    exact atJ (wkn Jy15 ⟨rfl, rfl, rfl, rfl, trivial⟩)
   exact zAc (L2 0 [] h) ⟨rfl, rfl, rfl, rfl, rfl, trivial⟩
  simp only [go_sem, seval]
  cases h
  exact atJ (wkn Jy1 ⟨rfl, trivial⟩)
 exact zAc (L1 [] 0 h) ⟨rfl, rfl, rfl, trivial⟩
theorem zJj {l : (List rCl)} {r : Bool} (h : zDi l = some r) : zAe Tryz.prog 39 [.sl none (List.map zAV l)] [] (.bool r) [] := by
 refine aX hf39 ok39 zAg ?_
 dsimp only [Tryz.f39, nums, Option.getD, List.append]
 unfold zDi at h
 simp only [go_sem, seval]
 apply cS h <;> intro hb h
 ·simp only [go_sem, seval]
  exact rS .bool h
 simp only [go_sem, seval]
 refine zBq h fun K2 hK2 h => ?_
 refine blkJ 70 10000 (fun w => K2 () = some r → w [] []) (fun h => runX 10000 ?_) (fun JK2 => ?_)
 ·subst hK2
  dsimp only at h
  simp only [go_sem, seval]
  exact rS .bool h
 clear hK2
 simp only [go_sem, seval]
 refine lpJ 70 fuel (fun q1 w => ∀ (v3 : Int), zBx l K2 q1 v3 = some r → w [(0, .sl none (List.map zAV l)), (3, .int .i64 v3)] []) (fun w _ h => nomatch h) (fun q1 ih1 v3 h => ?_) (fun L1 => ?_)
 ·unfold zBx at h
  apply rL
  simp only [go_sem, seval]
  apply cS h <;> intro hb h
  ·simp only [go_sem, seval]
   apply bK
   refine zAp zAV none .i64 ⟨54, 4, true, 80⟩ (fun _ => rfl) h fun v6 _ b4 e5 h => ?_
   simp only [go_sem, seval, b4, e5]
   refine zAb h fun y7 hy7 h => ?_
   refine rgJ 70 10000 (.inl rfl) (fun w => w [(0, .sl none (List.map zAV l)), (3, .int .i64 v3), (4, .ptr 0 0), (41, .bool y7)] [some [.str v6.Name, .str v6.Super, .sl none (List.map AV.str v6.Vars), .sl none (List.map zBT v6.Methods)]]) (runX 10000 ?_) (fun Jy7 => ?_)
   ·clear hy7
    simp only [go_sem, seval]
    apply cS h <;> intro hb h
    ·simp only [go_sem, seval]
     exact rS .bool h
    simp only [go_sem, seval]
    refine zBq h fun K15 hK15 h => ?_
    refine blkJ 70 10000 (fun w => K15 () = some r → w [(0, .sl none (List.map zAV l)), (3, .int .i64 v3), (4, .ptr 0 0)] [some [.str v6.Name, .str v6.Super, .sl none (List.map AV.str v6.Vars), .sl none (List.map zBT v6.Methods)]]) (fun h => runX 10000 ?_) (fun JK15 => ?_)
    ·subst hK15
     dsimp only at h
     simp only [go_sem, seval]
     refine zBq h fun K24 hK24 h => ?_
     refine blkJ 70 10000 (fun w => K24 () = some r → w [(0, .sl none (List.map zAV l)), (3, .int .i64 v3)] [some [.str v6.Name, .str v6.Super, .sl none (List.map AV.str v6.Vars), .sl none (List.map zBT v6.Methods)]]) (fun h => runX 10000 ?_) (fun JK24 => ?_)
     ·subst hK24
      dsimp only at h
      refine zAF h fun v33 _ e32 h => ?_
      simp only [go_sem, seval, e32]
      exact zDx 0 (ih1 v33 h) ⟨rfl, rfl, trivial⟩ rfl rfl rfl (by first | rfl | simp only [go_sem, ltF]) (by first | rfl | simp only [go_sem, zCu])
     clear hK24
     simp only [go_sem, seval]
     refine lpJ 70 fuel (fun q3 w => ∀ (v25 : Int), zBc v6 K24 q3 v25 = some r → w [(0, .sl none (List.map zAV l)), (3, .int .i64 v3), (4, .ptr 0 0), (6, .int .i64 v25)] [some [.str v6.Name, .str v6.Super, .sl none (List.map AV.str v6.Vars), .sl none (List.map zBT v6.Methods)]]) (fun w _ h => nomatch h) (fun q3 ih3 v25 h => ?_) (fun L3 => ?_)
     ·unfold zBc at h
      apply rL
      simp only [go_sem, seval]
      apply cS h <;> intro hb h
      ·simp only [go_sem, seval]
       apply bK
       refine zAp zBT none .i64 ⟨26, 5, true, 112⟩ (fun _ => rfl) h fun v28 _ b26 e27 h => ?_
       refine zAb h fun v29 hv29 h => ?_
       simp only [go_sem, seval, b26, e27]
       refine cX (zMA hv29) ?_
       simp only [go_sem, seval]
       apply cS h <;> intro hb h
       ·simp only [go_sem, seval]
        exact rS .bool h
       refine zAF h fun v31 _ e30 h => ?_
       simp only [go_sem, seval, e30]
       exact zAc (ih3 v31 h) ⟨rfl, rfl, rfl, rfl, trivial⟩
      simp only [go_sem, seval]
      exact atJ (wkn (JK24 h) ⟨rfl, rfl, trivial⟩)
     exact zAc (L3 0 h) ⟨rfl, rfl, rfl, rfl, trivial⟩
    clear hK15
    simp only [go_sem, seval]
    refine lpJ 70 fuel (fun q2 w => ∀ (v16 : Int), zBa v6 K15 q2 v16 = some r → w [(0, .sl none (List.map zAV l)), (3, .int .i64 v3), (4, .ptr 0 0), (5, .int .i64 v16)] [some [.str v6.Name, .str v6.Super, .sl none (List.map AV.str v6.Vars), .sl none (List.map zBT v6.Methods)]]) (fun w _ h => nomatch h) (fun q2 ih2 v16 h => ?_) (fun L2 => ?_)
    ·unfold zBa at h
     apply rL
     simp only [go_sem, seval]
     apply cS h <;> intro hb h
     ·simp only [go_sem, seval]
      apply bK
      refine zAp AV.str none .i64 ⟨9, 1, false, 16⟩ (fun _ => rfl) h fun v19 _ b17 e18 h => ?_
      refine zAb h fun v20 hv20 h => ?_
      simp only [go_sem, seval, b17, e18]
      refine cX (zFo hv20) ?_
      simp only [go_sem, seval]
      apply cS h <;> intro hb h
      ·simp only [go_sem, seval]
       exact rS .bool h
      refine zAF h fun v22 _ e21 h => ?_
      simp only [go_sem, seval, e21]
      exact zAc (ih2 v22 h) ⟨rfl, rfl, rfl, rfl, trivial⟩
     simp only [go_sem, seval]
     exact atJ (wkn (JK15 h) ⟨rfl, rfl, rfl, trivial⟩)
    exact zAc (L2 0 h) ⟨rfl, rfl, rfl, rfl, trivial⟩
   clear h
   have h := hy7
   refine zAb h fun v9 hv9 h => ?_
   simp only [go_sem, seval]
   refine cX (zEM hv9) ?_
   simp only [go_sem, seval]
   apply grd_ <;> intro hb10
   ·have h := zAj hb10 h
    refine zAb h fun v11 hv11 h => ?_
    simp only [go_sem, seval]
    refine cX (zEM hv11) ?_
    simp only [go_sem, seval]
    apply grd_ <;> intro hb12
    ·have h := zAj hb12 h
     simp only [go_sem, seval]
     apply grd_ <;> intro hb13
     ·have h := zAj hb13 h
      simp only [go_sem, seval]
      cases h
      exact atJ (wkn Jy7 ⟨rfl, rfl, rfl, rfl, trivial⟩)
     have h := zAk hb13 h
     simp only [go_sem, seval]
     cases h
     exact atJ (wkn Jy7 ⟨rfl, rfl, rfl, rfl, trivial⟩)
    have h := zAk hb12 h
    simp only [go_sem, seval]
    cases h
    exact atJ (wkn Jy7 ⟨rfl, rfl, rfl, rfl, trivial⟩)
   have h := zAk hb10 h
   simp only [go_sem, seval]
   cases h
   exact atJ (wkn Jy7 ⟨rfl, rfl, rfl, rfl, trivial⟩)
  simp only [go_sem, seval]
  exact atJ (wkn (JK2 h) trivial)
 exact zAc (L1 0 h) ⟨rfl, rfl, trivial⟩
theorem zJs {l : (List rCl)} {r : (Str × Int)} (h : zDS l = some r) : zAe Tryz.prog 22 [.sl none (List.map zAV l)] [] (.tup [.str r.1, .int .i64 r.2]) [] := by
 refine aX hf22 ok22 zAC ?_
 dsimp only [Tryz.f22, nums, Option.getD, List.append]
 unfold zDS at h
 refine zAb h fun v1 hv1 h => ?_
 simp only [go_sem, seval]
 refine cX (zJj hv1) ?_
 simp only [go_sem, seval]
 apply cS h <;> intro hb h
 ·simp only [go_sem, seval]
  refine zBz (fun x => .tup [.str x.1, .int .i64 x.2]) h ?_
  first | rfl | simp only [go_sem, zAo, zAh, zAi, seval]
 simp only [go_sem, seval]
 refine zBq h fun K3 hK3 h => ?_
 refine blkJ 65 10000 (fun w => ∀ (v42 : (List rWd)), K3 v42 = some r → w [(4, .sl (some none) (List.map eR3 v42))] []) (fun v42 h => runX 10000 ?_) (fun JK3 => ?_)
 ·subst hK3
  dsimp only at h
  refine zAb h fun v43 hv43 h => ?_
  simp only [go_sem, seval]
  refine cX (zK5 hv43) ?_
  simp only [go_sem, seval]
  refine zBz (fun x => .tup [.str x.1, .int .i64 x.2]) h ?_
  first | rfl | simp only [go_sem, zAo, zAh, zAi, seval]
 clear hK3
 simp only [go_sem, seval]
 refine lpJ 65 fuel (fun q1 w => ∀ (v4 : (List rWd)) (v5 : Int), zBC l K3 q1 v4 v5 = some r → w [(0, .sl none (List.map zAV l)), (4, .sl (some none) (List.map eR3 v4)), (5, .int .i64 v5)] []) (fun w _ _ h => nomatch h) (fun q1 ih1 v4 v5 h => ?_) (fun L1 => ?_)
 ·unfold zBC at h
  apply rL
  simp only [go_sem, seval]
  apply cS h <;> intro hb h
  ·simp only [go_sem, seval]
   apply bK
   refine zAp zAV none .i64 ⟨54, 4, true, 80⟩ (fun _ => rfl) h fun v8 _ b6 e7 h => ?_
   simp only [go_sem, seval, b6, e7]
   refine rg_ 10000 (.inr ⟨[], by kernel_rfl, by kernel_rfl, by rfl⟩) ?_
   refine zAb h fun v9 hv9 h => ?_
   simp only [go_sem, seval]
   refine cX (zAq hv9) ?_
   refine zAb h fun v10 hv10 h => ?_
   simp only [go_sem, seval]
   refine cX (zAq hv10) ?_
   refine zAb h fun v11 hv11 h => ?_
   simp only [go_sem, seval]
   refine cX (zAq hv11) ?_
   refine zAQ eR3 (some none) ⟨96, 3, true, 32⟩ (fun _ => rfl) (by decide) rfl h fun v14 _ (b12 : appc ⟨96, 3, true, 32⟩ (.sl (some none) (List.map eR3 v4)) (.sl (some none) [.agg [.int .u8 v9.K, .str v9.S, .int .i64 v9.At], .agg [.int .u8 v10.K, .str v10.S, .int .i64 v10.At], .agg [.int .u8 v11.K, .str v11.S, .int .i64 v11.At]])) (e13 : appv (.sl (some none) (List.map eR3 v4)) (.sl (some none) [.agg [.int .u8 v9.K, .str v9.S, .int .i64 v9.At], .agg [.int .u8 v10.K, .str v10.S, .int .i64 v10.At], .agg [.int .u8 v11.K, .str v11.S, .int .i64 v11.At]]) = .sl (some none) (List.map eR3 v14)) h => ?_
   refine zAb h fun v15 hv15 h => ?_
   simp only [go_sem, seval, b12, e13]
   refine cX (zF1 hv15) ?_
   refine zAQ eR3 none ⟨96, 3, true, 32⟩ (fun _ => rfl) (by decide) rfl h fun v18 _ b16 e17 h => ?_
   refine zAb h fun v19 hv19 h => ?_
   simp only [go_sem, seval, b16, e17]
   refine cX (zAq hv19) ?_
   refine zAQ eR3 (some none) ⟨96, 3, true, 32⟩ (fun _ => rfl) (by decide) rfl h fun v22 _ (b20 : appc ⟨96, 3, true, 32⟩ (.sl (some none) (List.map eR3 v18)) (.sl (some none) [.agg [.int .u8 v19.K, .str v19.S, .int .i64 v19.At]])) (e21 : appv (.sl (some none) (List.map eR3 v18)) (.sl (some none) [.agg [.int .u8 v19.K, .str v19.S, .int .i64 v19.At]]) = .sl (some none) (List.map eR3 v22)) h => ?_
   simp only [go_sem, seval, b20, e21]
   refine zAb h fun y23 hy23 h => ?_
   refine blkJ 65 10000 (fun w => w [(0, .sl none (List.map zAV l)), (4, .sl (some none) (List.map eR3 y23)), (5, .int .i64 v5)] [some [.str v8.Name, .str v8.Super, .sl none (List.map AV.str v8.Vars), .sl none (List.map zBT v8.Methods)]]) (runX 10000 ?_) (fun Jy23 => ?_)
   ·clear hy23
    refine zAb h fun v36 hv36 h => ?_
    simp only [go_sem, seval]
    refine cX (zAq hv36) ?_
    refine zAQ eR3 (some none) ⟨96, 3, true, 32⟩ (fun _ => rfl) (by decide) rfl h fun v39 _ (b37 : appc ⟨96, 3, true, 32⟩ (.sl (some none) (List.map eR3 y23)) (.sl (some none) [.agg [.int .u8 v36.K, .str v36.S, .int .i64 v36.At]])) (e38 : appv (.sl (some none) (List.map eR3 y23)) (.sl (some none) [.agg [.int .u8 v36.K, .str v36.S, .int .i64 v36.At]]) = .sl (some none) (List.map eR3 v39)) h => ?_
    simp only [go_sem, seval, b37, e38]
    apply cS h <;> intro hb h
    ·simp only [go_sem, seval]
     refine zBz (fun x => .tup [.str x.1, .int .i64 x.2]) h ?_
     first | rfl | simp only [go_sem, zAo, zAh, zAi, seval]
    refine zAF h fun v41 _ e40 h => ?_
    simp only [go_sem, seval, e40]
    exact zDx 0 (ih1 v39 v41 h) ⟨rfl, rfl, rfl, trivial⟩ rfl rfl rfl (by first | rfl | simp only [go_sem, ltF]) (by first | rfl | simp only [go_sem, zCu])
   clear h
   have h := hy23
   simp only [go_sem, seval]
   refine lpJ 65 fuel (fun q2 w => ∀ (v25 : (List rWd)) (v26 : Int), zBA v8 q2 v25 v26 = some y23 → w [(0, .sl none (List.map zAV l)), (4, .sl (some none) (List.map eR3 v25)), (5, .int .i64 v5), (6, .ptr 0 0), (7, .int .i64 v26)] [some [.str v8.Name, .str v8.Super, .sl none (List.map AV.str v8.Vars), .sl none (List.map zBT v8.Methods)]]) (fun w _ _ h => nomatch h) (fun q2 ih2 v25 v26 h => ?_) (fun L2 => ?_)
   ·unfold zBA at h
    apply rL
    simp only [go_sem, seval]
    apply cS h <;> intro hb h
    ·simp only [go_sem, seval]
     apply bK
     refine zAp zBT none .i64 ⟨26, 5, true, 112⟩ (fun _ => rfl) h fun v29 _ b27 e28 h => ?_
     refine zAb h fun v30 hv30 h => ?_
     simp only [go_sem, seval, b27, e28]
     refine cX (zKs hv30) ?_
     refine zAQ eR3 none ⟨96, 3, true, 32⟩ (fun _ => rfl) (by decide) rfl h fun v33 _ b31 e32 h => ?_
     refine zAF h fun v35 _ e34 h => ?_
     simp only [go_sem, seval, b31, e32, e34]
     exact zAc (ih2 v33 v35 h) ⟨rfl, rfl, rfl, rfl, rfl, trivial⟩
    simp only [go_sem, seval]
    cases h
    exact atJ (wkn Jy23 ⟨rfl, rfl, rfl, trivial⟩)
   exact zAc (L2 v22 0 h) ⟨rfl, rfl, rfl, rfl, rfl, trivial⟩
  simp only [go_sem, seval]
  exact atJ (wkn (JK3 v4 h) ⟨rfl, trivial⟩)
 exact zAc (L1 [] 0 h) ⟨rfl, rfl, rfl, trivial⟩
theorem zGu {l : (List rCl)} {r : Bool} (h : zCH l = some r) : zAe Tryz.prog 4 [.sl none (List.map zAV l)] [] (.bool r) [] := by
 refine aX hf4 ok4 zAg ?_
 dsimp only [Tryz.f4, nums, Option.getD, List.append]
 unfold zCH at h
 refine zAb h fun v1 hv1 h => ?_
 simp only [go_sem, seval]
 refine cX (zG7 hv1) ?_
 simp only [go_sem, seval]
 apply cS h <;> intro hb h
 ·refine zAb h fun v2 hv2 h => ?_
  simp only [go_sem, seval]
  refine cX (zHX hv2) ?_
  simp only [go_sem, seval]
  exact rS .bool h
 refine zAb h fun v3 hv3 h => ?_
 simp only [go_sem, seval]
 refine cX (zGV hv3) ?_
 refine zAb h fun v4 hv4 h => ?_
 simp only [go_sem, seval]
 refine cX (zGD hv4) ?_
 refine zAb h fun v5 hv5 h => ?_
 simp only [go_sem, seval]
 refine cX (zJs hv5) ?_
 simp only [go_sem, seval]
 refine zAb h fun y6 hy6 h => ?_
 refine rgJ 33 10000 (.inl rfl) (fun w => w [(2, .bool y6)] []) (runX 10000 ?_) (fun Jy6 => ?_)
 ·clear hy6
  simp only [go_sem, seval]
  exact rS .bool h
 clear h
 have h := hy6
 refine zAb h fun v8 hv8 h => ?_
 simp only [go_sem, seval]
 refine cX (zLp hv8) ?_
 simp only [go_sem, seval]
 apply grd_ <;> intro hb9
 ·have h := zAk hb9 h
  simp only [go_sem, seval]
  apply grd_ <;> intro hb10
  ·have h := zAk hb10 h
   refine zAb h fun v11 hv11 h => ?_
   simp only [go_sem, seval]
   refine cX (zHX hv11) ?_
   simp only [go_sem, seval]
   cases h
   exact atJ (wkn Jy6 ⟨rfl, trivial⟩)
  have h := zAj hb10 h
  simp only [go_sem, seval]
  cases h
  exact atJ (wkn Jy6 ⟨rfl, trivial⟩)
 have h := zAj hb9 h
 simp only [go_sem, seval]
 cases h
 exact atJ (wkn Jy6 ⟨rfl, trivial⟩)
end Go.Cq

