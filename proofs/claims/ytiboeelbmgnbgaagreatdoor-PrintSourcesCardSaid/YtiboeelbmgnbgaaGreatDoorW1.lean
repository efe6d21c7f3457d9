import Derived.Test.YtiboeelbmgnbgaaGreatDoorSh2
import Derived.Test.YtiboeelbmgnbgaaGreatDoorEnc
import Derived.Test.YtiboeelbmgnbgaaGreatDoorHan
set_option linter.unusedSectionVars false
set_option linter.unusedVariables false
set_option linter.unusedSimpArgs false
set_option linter.unnecessarySimpa false
set_option maxRecDepth 100000
set_option maxHeartbeats 4000000
namespace Go.Cq
open Go Go.Av Go.Proofs
variable [Lay] [SeatLay]
attribute [local irreducible] hold ex W Wr nd cndV rgO zM9 grdO grdV grdG zQc alcX stX nckX
theorem zC7 {l : (List Str)} {r : Bool} (h : zBo l = some r) : zAe Tryz.prog 52 [.sl none (List.map AV.str l)] [] (.bool r) [] := by
 refine aX hf52 ok52 zAg ?_
 dsimp only [Tryz.f52, nums, Option.getD, List.append]
 unfold zBo at h
 simp only [go_sem, seval]
 refine zBq h fun K2 hK2 h => ?_
 refine blkJ 23 10000 (fun w => K2 () = some r → w [(0, .sl none (List.map AV.str l))] []) (fun h => runX 10000 ?_) (fun JK2 => ?_)
 ·subst hK2
  dsimp only at h
  simp only [go_sem, seval]
  exact rS .bool h
 clear hK2
 simp only [go_sem, seval]
 refine lpJ 23 fuel (fun q1 w => ∀ (v3 : Int), zA4 l K2 q1 v3 = some r → w [(0, .sl none (List.map AV.str l)), (3, .int .i64 v3)] []) (fun w _ h => nomatch h) (fun q1 ih1 v3 h => ?_) (fun L1 => ?_)
 ·unfold zA4 at h
  apply rL
  simp only [go_sem, seval]
  refine rgJ 23 10000 (.inl rfl) (fun w => w [(0, .sl none (List.map AV.str l)), (3, .int .i64 v3), (11, .bool ((decide (v3 < (l.length : Int))) && (decide (v3 < 40))))] []) (runX 10000 ?_) (fun Jg4 => ?_)
  ·simp only [go_sem, seval]
   apply cS h <;> intro hb h
   ·simp only [go_sem, seval]
    apply bK
    refine zAp AV.str none .i64 ⟨9, 1, false, 16⟩ (fun _ => rfl) h fun v7 _ b5 e6 h => ?_
    simp only [go_sem, seval, b5, e6]
    apply cS h <;> intro hb h
    ·simp only [go_sem, seval]
     exact rS .bool h
    refine zAF h fun v9 _ e8 h => ?_
    simp only [go_sem, seval, e8]
    exact zAc (ih1 v9 h) ⟨rfl, rfl, trivial⟩
   simp only [go_sem, seval]
   exact atJ (wkn (JK2 h) ⟨rfl, trivial⟩)
  simp only [go_sem, seval]
  apply grd_ <;> intro hb10
  ·simp only [go_sem, seval]
   exact atJ (wkn Jg4 ⟨rfl, rfl, congrArg AV.bool (by first | rfl | (rw [hb10]; rfl) | (simp [hb10]; done) | simp_all), trivial⟩)
  simp only [go_sem, seval]
  exact atJ (wkn Jg4 ⟨rfl, rfl, congrArg AV.bool (by first | rfl | (rw [hb10]; rfl) | (simp [hb10]; done) | simp_all), trivial⟩)
 exact zAc (L1 0 h) ⟨rfl, rfl, trivial⟩
theorem zIO {m : rMt} {r : Bool} (h : zDw m = some r) : zAe Tryz.prog 13 [zBT m] [] (.bool r) [] := by
 refine aX hf13 ok13 zAg ?_
 dsimp only [Tryz.f13, nums, Option.getD, List.append]
 unfold zDw at h
 simp only [go_sem, seval]
 refine zAb h fun y1 hy1 h => ?_
 refine rgJ 58 10000 (.inl rfl) (fun w => w [(1, .ptr 0 0), (30, .bool y1)] [hR m]) (runX 10000 ?_) (fun Jy1 => ?_)
 ·clear hy1
  simp only [go_sem, seval]
  apply cS h <;> intro hb h
  ·simp only [go_sem, seval]
   exact rS .bool h
  simp only [go_sem, seval]
  refine zBq h fun K10 hK10 h => ?_
  refine blkJ 58 10000 (fun w => K10 () = some r → w [] [hR m]) (fun h => runX 10000 ?_) (fun JK10 => ?_)
  ·subst hK10
   dsimp only at h
   simp only [go_sem, seval]
   exact rS .bool h
  clear hK10
  simp only [go_sem, seval]
  refine lpJ 58 fuel (fun q1 w => ∀ (v11 : Int), zBf m K10 q1 v11 = some r → w [(1, .ptr 0 0), (3, .int .i64 v11)] [hR m]) (fun w _ h => nomatch h) (fun q1 ih1 v11 h => ?_) (fun L1 => ?_)
  ·unfold zBf at h
   apply rL
   simp only [go_sem, seval]
   apply cS h <;> intro hb h
   ·simp only [go_sem, seval]
    apply bK
    refine zAp zCk none .i64 ⟨78, 5, true, 80⟩ (fun _ => rfl) h fun v14 _ b12 e13 h => ?_
    simp only [go_sem, seval, b12, e13]
    refine zAb h fun y15 hy15 h => ?_
    refine rgJ 58 10000 (.inl rfl) (fun w => w [(1, .ptr 0 0), (3, .int .i64 v11), (57, .bool y15)] [hR m, hN v14.K v14.S v14.N v14.L v14.Kids]) (runX 10000 ?_) (fun Jy15 => ?_)
    ·clear hy15
     simp only [go_sem, seval]
     apply cS h <;> intro hb h
     ·simp only [go_sem, seval]
      exact rS .bool h
     refine zAF h fun v21 _ e20 h => ?_
     simp only [go_sem, seval, e20]
     exact zDx 1 (ih1 v21 h) ⟨rfl, rfl, trivial⟩ rfl rfl rfl (by first | rfl | simp only [go_sem, ltF]) (by first | rfl | simp only [go_sem, zCu])
    clear h
    have h := hy15
    simp only [go_sem, seval]
    apply grd_ <;> intro hb17
    ·have h := zAj hb17 h
     refine zAb h fun v18 hv18 h => ?_
     simp only [go_sem, seval]
     refine cX (zC7 hv18) ?_
     simp only [go_sem, seval]
     apply grd_ <;> intro hb19
     ·have h := zAj hb19 h
      simp only [go_sem, seval]
      cases h
      exact atJ (wkn Jy15 ⟨rfl, rfl, rfl, trivial⟩)
     have h := zAk hb19 h
     simp only [go_sem, seval]
     cases h
     exact atJ (wkn Jy15 ⟨rfl, rfl, rfl, trivial⟩)
    have h := zAk hb17 h
    simp only [go_sem, seval]
    cases h
    exact atJ (wkn Jy15 ⟨rfl, rfl, rfl, trivial⟩)
   simp only [go_sem, seval]
   exact atJ (wkn (JK10 h) trivial)
  exact zAc (L1 0 h) ⟨rfl, rfl, trivial⟩
 clear h
 have h := hy1
 simp only [go_sem, seval]
 apply grd_ <;> intro hb3
 ·have h := zAj hb3 h
  refine zAb h fun v4 hv4 h => ?_
  simp only [go_sem, seval]
  refine cX (zC7 hv4) ?_
  simp only [go_sem, seval]
  apply grd_ <;> intro hb5
  ·have h := zAj hb5 h
   refine zAb h fun v6 hv6 h => ?_
   simp only [go_sem, seval]
   refine cX (zC7 hv6) ?_
   simp only [go_sem, seval]
   apply grd_ <;> intro hb7
   ·have h := zAj hb7 h
    simp only [go_sem, seval]
    apply grd_ <;> intro hb8
    ·have h := zAj hb8 h
     simp only [go_sem, seval]
     cases h
     exact atJ (wkn Jy1 ⟨rfl, rfl, trivial⟩)
    have h := zAk hb8 h
    simp only [go_sem, seval]
    cases h
    exact atJ (wkn Jy1 ⟨rfl, rfl, trivial⟩)
   have h := zAk hb7 h
   simp only [go_sem, seval]
   cases h
   exact atJ (wkn Jy1 ⟨rfl, rfl, trivial⟩)
  have h := zAk hb5 h
  simp only [go_sem, seval]
  cases h
  exact atJ (wkn Jy1 ⟨rfl, rfl, trivial⟩)
 have h := zAk hb3 h
 simp only [go_sem, seval]
 cases h
 exact atJ (wkn Jy1 ⟨rfl, rfl, trivial⟩)
theorem zHh {slices : (List (List Str))} {r : (List Str)} (h : zCw slices = some r) : zAe Tryz.prog 63 [.sl none (List.map zCg slices)] [] (.sl none (List.map AV.str r)) [] := by
 refine aX hf63 ok63 zDb ?_
 dsimp only [Tryz.f63, nums, Option.getD, List.append]
 unfold zCw at h
 simp only [go_sem, seval]
 refine zAb h fun y1 hy1 h => ?_
 refine blkJ 36 10000 (fun w => w [(0, .sl none (List.map zCg slices)), (3, .int .i64 y1)] []) (runX 10000 ?_) (fun Jy1 => ?_)
 ·clear hy1
  refine zAb h fun v14 hv14 h => ?_
  simp only [go_sem, seval]
  refine cO (zJY hv14) ?_
  simp only [go_sem, seval]
  refine zAb h fun y15 hy15 h => ?_
  refine blkJ 36 10000 (fun w => w [(6, .sl (some (some (9, 1))) (List.map AV.str y15))] []) (runX 10000 ?_) (fun Jy15 => ?_)
  ·clear hy15
   simp only [go_sem, seval]
   exact rS (fun x => .sl none (List.map AV.str x)) h
  clear h
  have h := hy15
  simp only [go_sem, seval]
  refine lpJ 36 fuel (fun q2 w => ∀ (v17 : (List Str)) (v18 : Int), zAH slices q2 v17 v18 = some y15 → w [(6, .sl (some (some (9, 1))) (List.map AV.str v17)), (25, .sl none (List.map zCg slices)), (26, .int .i64 (slices.length : Int)), (27, .int .i64 v18)] []) (fun w _ _ h => nomatch h) (fun q2 ih2 v17 v18 h => ?_) (fun L2 => ?_)
  ·unfold zAH at h
   apply rL
   simp only [go_sem, seval]
   apply cS h <;> intro hb h
   ·simp only [go_sem, seval]
    apply bK
    refine zAp zCg none .i64 ⟨22, 1, false, 24⟩ (fun _ => rfl) h fun v21 _ b19 e20 h => ?_
    refine zNW (E := (9, 1)) AV.str none ⟨9, 1, false, 16⟩ (fun _ => rfl) (by decide) ⟨rfl, by first | exact .inl rfl | exact .inr rfl⟩ rfl h fun v24 _ b22 e23 h => ?_
    refine zAF h fun v26 _ e25 h => ?_
    simp only [go_sem, seval, b19, e20, b22, e23, e25]
    exact zAc (ih2 v24 v26 h) ⟨rfl, rfl, rfl, rfl, trivial⟩
   simp only [go_sem, seval]
   cases h
   exact atJ (wkn Jy15 ⟨rfl, trivial⟩)
  exact zAc (L2 v14 0 h) ⟨rfl, rfl, rfl, rfl, trivial⟩
 clear h
 have h := hy1
 simp only [go_sem, seval]
 refine lpJ 36 fuel (fun q1 w => ∀ (v3 : Int) (v4 : Int), zAJ slices q1 v3 v4 = some y1 → w [(0, .sl none (List.map zCg slices)), (3, .int .i64 v3), (9, .sl none (List.map zCg slices)), (10, .int .i64 (slices.length : Int)), (11, .int .i64 v4)] []) (fun w _ _ h => nomatch h) (fun q1 ih1 v3 v4 h => ?_) (fun L1 => ?_)
 ·unfold zAJ at h
  apply rL
  simp only [go_sem, seval]
  apply cS h <;> intro hb h
  ·simp only [go_sem, seval]
   apply bK
   refine zAp zCg none .i64 ⟨22, 1, false, 24⟩ (fun _ => rfl) h fun v7 _ b5 e6 h => ?_
   refine zAF h fun v9 _ e8 h => ?_
   simp only [go_sem, seval, b5, e6, e8]
   refine zAb h fun y10 hy10 h => ?_
   refine cndJ 36 10000 (fun w => w [(0, .sl none (List.map zCg slices)), (3, .int .i64 v9), (9, .sl none (List.map zCg slices)), (10, .int .i64 (slices.length : Int)), (11, .int .i64 v4)] []) (runX 10000 ?_) (fun Jy10 => ?_)
   ·clear hy10
    refine zAF h fun v13 _ e12 h => ?_
    simp only [go_sem, seval, e12]
    exact zAc (ih1 v9 v13 h) ⟨rfl, rfl, rfl, rfl, rfl, trivial⟩
   clear h
   have h := hy10
   apply cS h <;> intro hb h
   ·exact nomatch h
   simp only [go_sem, seval]
   cases h
   exact atJ (wkn Jy10 ⟨rfl, rfl, rfl, rfl, rfl, trivial⟩)
  simp only [go_sem, seval]
  cases h
  exact atJ (wkn Jy1 ⟨rfl, rfl, trivial⟩)
 exact zAc (L1 0 0 h) ⟨rfl, rfl, rfl, rfl, rfl, trivial⟩
theorem zHf {s : (List Str)} {p1_f : (Str → Option Bool)} (fv_p1_f : FuncId) (hf_p1_f : ∀ (a0 : Str) (z : Bool), p1_f a0 = some z → zAe Tryz.prog fv_p1_f [.str a0] [] (.bool z) []) {r : Int} (h : zC5 s p1_f = some r) : zAe Tryz.prog 185 [.sl none (List.map AV.str s), .fn (.func fv_p1_f) [] []] [] (.int .i64 r) [] := by
 refine aX hf185 ok185 zC8 ?_
 dsimp only [Tryz.f185, nums, Option.getD, List.append]
 unfold zC5 at h
 simp only [go_sem, seval]
 refine zBq h fun K2 hK2 h => ?_
 refine blkJ 19 10000 (fun w => K2 () = some r → w [] []) (fun h => runX 10000 ?_) (fun JK2 => ?_)
 ·subst hK2
  dsimp only at h
  simp only [go_sem, seval]
  exact rS (.int .i64) h
 clear hK2
 simp only [go_sem, seval]
 refine lpJ 19 fuel (fun q1 w => ∀ (v3 : Int), zAS s p1_f K2 q1 v3 = some r → w [(0, .sl none (List.map AV.str s)), (1, .fn (.func fv_p1_f) [] []), (7, .int .i64 (s.length : Int)), (8, .int .i64 v3)] []) (fun w _ h => nomatch h) (fun q1 ih1 v3 h => ?_) (fun L1 => ?_)
 ·unfold zAS at h
  apply rL
  simp only [go_sem, seval]
  apply cS h <;> intro hb h
  ·simp only [go_sem, seval]
   apply bK
   refine zAp AV.str none .i64 ⟨9, 1, false, 16⟩ (fun _ => rfl) h fun v6 _ b4 e5 h => ?_
   refine zAb h fun v7 hv7 h => ?_
   simp only [go_sem, seval, b4, e5]
   refine cX (hf_p1_f _ _ hv7) ?_
   simp only [go_sem, seval]
   apply cS h <;> intro hb h
   ·simp only [go_sem, seval]
    exact rS (.int .i64) h
   refine zAF h fun v9 _ e8 h => ?_
   simp only [go_sem, seval, e8]
   exact zAc (ih1 v9 h) ⟨rfl, rfl, rfl, rfl, trivial⟩
  simp only [go_sem, seval]
  exact atJ (wkn (JK2 h) trivial)
 exact zAc (L1 0 h) ⟨rfl, rfl, rfl, rfl, trivial⟩
theorem zEO {s : (List Str)} {p1_f : (Str → Option Bool)} (fv_p1_f : FuncId) (hf_p1_f : ∀ (a0 : Str) (z : Bool), p1_f a0 = some z → zAe Tryz.prog fv_p1_f [.str a0] [] (.bool z) []) {r : Bool} (h : zA1 s p1_f = some r) : zAe Tryz.prog 130 [.sl none (List.map AV.str s), .fn (.func fv_p1_f) [] []] [] (.bool r) [] := by
 refine aX hf130 ok130 zAg ?_
 dsimp only [Tryz.f130, nums, Option.getD, List.append]
 unfold zA1 at h
 refine zAb h fun v1 hv1 h => ?_
 simp only [go_sem, seval]
 refine cX (zHf fv_p1_f hf_p1_f hv1) ?_
 simp only [go_sem, seval]
 exact rS .bool h
theorem zB1 {s : Str} {suffix : Str} {r : Bool} (h : zAr s suffix = some r) : zAe Tryz.prog 218 [.str s, .str suffix] [] (.bool r) [] := by
 refine aX hf218 ok218 zAg ?_
 dsimp only [Tryz.f218, nums, Option.getD, List.append]
 unfold zAr at h
 simp only [go_sem, seval]
 refine zAb h fun y1 hy1 h => ?_
 refine rgJ 21 10000 (.inl rfl) (fun w => w [(4, .bool y1)] []) (runX 10000 ?_) (fun Jy1 => ?_)
 ·clear hy1
  simp only [go_sem, seval]
  exact rS .bool h
 clear h
 have h := hy1
 simp only [go_sem, seval]
 apply grd_ <;> intro hb3
 ·have h := zAk hb3 h
  refine zGs h fun v5 _ e4 h => ?_
  refine zH2 (some (.int .i64 v5)) none rfl rfl h fun v8 _ b6 e7 h => ?_
  simp only [go_sem, seval, e4, b6, e7]
  cases h
  exact atJ (wkn Jy1 ⟨rfl, trivial⟩)
 have h := zAj hb3 h
 simp only [go_sem, seval]
 cases h
 exact atJ (wkn Jy1 ⟨rfl, trivial⟩)
theorem zDn {s : Str} {suffix : Str} {r : Str} (h : zAK s suffix = some r) : zAe Tryz.prog 202 [.str s, .str suffix] [] (.str r) [] := by
 refine aX hf202 ok202 zKi ?_
 dsimp only [Tryz.f202, nums, Option.getD, List.append]
 unfold zAK at h
 refine zAb h fun v1 hv1 h => ?_
 simp only [go_sem, seval]
 refine cX (zB1 hv1) ?_
 simp only [go_sem, seval]
 apply cS h <;> intro hb h
 ·refine zGs h fun v3 _ e2 h => ?_
  refine zH2 none (some (.int .i64 v3)) rfl rfl h fun v6 _ b4 e5 h => ?_
  simp only [go_sem, seval, e2, b4, e5]
  exact rS .str h
 simp only [go_sem, seval]
 exact rS .str h
theorem zRe {s : Str} {suffix : Str} {r : Str} (h : sTSf s suffix = some r) : zAe Tryz.prog 163 [.str s, .str suffix] [] (.str r) [] := by
 refine aX hf163 ok163 zKi ?_
 dsimp only [Tryz.f163, nums, Option.getD, List.append]
 unfold sTSf at h
 refine zAb h fun v1 hv1 h => ?_
 simp only [go_sem, seval]
 refine cX (zDn hv1) ?_
 simp only [go_sem, seval]
 exact rS .str h
theorem zJw {s : (List Int)} {p1_f : (Int → Option Bool)} (fv_p1_f : FuncId) (hf_p1_f : ∀ (a0 : Int) (z : Bool), p1_f a0 = some z → zAe Tryz.prog fv_p1_f [.int .u8 a0] [] (.bool z) []) {r : Int} (h : zED s p1_f = some r) : zAe Tryz.prog 246 [.sl none (List.map (AV.int .u8) s), .fn (.func fv_p1_f) [] []] [] (.int .i64 r) [] := by
 refine aX hf246 ok246 zC8 ?_
 dsimp only [Tryz.f246, nums, Option.getD, List.append]
 unfold zED at h
 simp only [go_sem, seval]
 refine zBq h fun K2 hK2 h => ?_
 refine blkJ 19 10000 (fun w => K2 () = some r → w [] []) (fun h => runX 10000 ?_) (fun JK2 => ?_)
 ·subst hK2
  dsimp only at h
  simp only [go_sem, seval]
  exact rS (.int .i64) h
 clear hK2
 simp only [go_sem, seval]
 refine lpJ 19 fuel (fun q1 w => ∀ (v3 : Int), zBy s p1_f K2 q1 v3 = some r → w [(0, .sl none (List.map (AV.int .u8) s)), (1, .fn (.func fv_p1_f) [] []), (7, .int .i64 (s.length : Int)), (8, .int .i64 v3)] []) (fun w _ h => nomatch h) (fun q1 ih1 v3 h => ?_) (fun L1 => ?_)
 ·unfold zBy at h
  apply rL
  simp only [go_sem, seval]
  apply cS h <;> intro hb h
  ·simp only [go_sem, seval]
   apply bK
   refine zAp (AV.int .u8) none .i64 ⟨5, 1, false, 1⟩ (fun _ => rfl) h fun v6 _ b4 e5 h => ?_
   refine zAb h fun v7 hv7 h => ?_
   simp only [go_sem, seval, b4, e5]
   refine cX (hf_p1_f _ _ hv7) ?_
   simp only [go_sem, seval]
   apply cS h <;> intro hb h
   ·simp only [go_sem, seval]
    exact rS (.int .i64) h
   refine zAF h fun v9 _ e8 h => ?_
   simp only [go_sem, seval, e8]
   exact zAc (ih1 v9 h) ⟨rfl, rfl, rfl, rfl, trivial⟩
  simp only [go_sem, seval]
  exact atJ (wkn (JK2 h) trivial)
 exact zAc (L1 0 h) ⟨rfl, rfl, rfl, rfl, trivial⟩
theorem zJd {s : (List Int)} {p1_f : (Int → Option Bool)} (fv_p1_f : FuncId) (hf_p1_f : ∀ (a0 : Int) (z : Bool), p1_f a0 = some z → zAe Tryz.prog fv_p1_f [.int .u8 a0] [] (.bool z) []) {r : Bool} (h : zDW s p1_f = some r) : zAe Tryz.prog 208 [.sl none (List.map (AV.int .u8) s), .fn (.func fv_p1_f) [] []] [] (.bool r) [] := by
 refine aX hf208 ok208 zAg ?_
 dsimp only [Tryz.f208, nums, Option.getD, List.append]
 unfold zDW at h
 refine zAb h fun v1 hv1 h => ?_
 simp only [go_sem, seval]
 refine cX (zJw fv_p1_f hf_p1_f hv1) ?_
 simp only [go_sem, seval]
 exact rS .bool h
theorem zIQ {c : Int} {r : Bool} (h : zDt c = some r) : zAe Tryz.prog 210 [.int .u8 c] [] (.bool r) [] := by
 refine aX hf210 ok210 zAg ?_
 dsimp only [Tryz.f210, nums, Option.getD, List.append]
 unfold zDt at h
 simp only [go_sem, seval]
 refine rgJ 25 10000 (.inl rfl) (fun w => w [(2, .bool ((((decide ((97 : Int) ≤ c)) && (decide (c ≤ 122))) || ((decide ((65 : Int) ≤ c)) && (decide (c ≤ 90)))) || ((decide ((48 : Int) ≤ c)) && (decide (c ≤ 57)))))] []) (runX 10000 ?_) (fun Jg1 => ?_)
 ·simp only [go_sem, seval]
  exact rS .bool h
 simp only [go_sem, seval]
 apply grd_ <;> intro hb2
 ·simp only [go_sem, seval]
  apply grd_ <;> intro hb3
  ·simp only [go_sem, seval]
   apply grd_ <;> intro hb4
   ·simp only [go_sem, seval]
    apply grd_ <;> intro hb5
    ·simp only [go_sem, seval]
     apply grd_ <;> intro hb6
     ·simp only [go_sem, seval]
      exact atJ (wkn Jg1 ⟨congrArg AV.bool (by first | rfl | (rw [hb2, hb3, hb4, hb5, hb6]; rfl) | (simp [hb2, hb3, hb4, hb5, hb6]; done) | simp_all), trivial⟩)
     simp only [go_sem, seval]
     exact atJ (wkn Jg1 ⟨congrArg AV.bool (by first | rfl | (rw [hb2, hb3, hb4, hb5, hb6]; rfl) | (simp [hb2, hb3, hb4, hb5, hb6]; done) | simp_all), trivial⟩)
    simp only [go_sem, seval]
    exact atJ (wkn Jg1 ⟨congrArg AV.bool (by first | rfl | (rw [hb2, hb3, hb4, hb5]; rfl) | (simp [hb2, hb3, hb4, hb5]; done) | simp_all), trivial⟩)
   simp only [go_sem, seval]
   apply grd_ <;> intro hb7
   ·simp only [go_sem, seval]
    exact atJ (wkn Jg1 ⟨congrArg AV.bool (by first | rfl | (rw [hb2, hb3, hb4, hb7]; rfl) | (simp [hb2, hb3, hb4, hb7]; done) | simp_all), trivial⟩)
   simp only [go_sem, seval]
   exact atJ (wkn Jg1 ⟨congrArg AV.bool (by first | rfl | (rw [hb2, hb3, hb4, hb7]; rfl) | (simp [hb2, hb3, hb4, hb7]; done) | simp_all), trivial⟩)
  simp only [go_sem, seval]
  exact atJ (wkn Jg1 ⟨congrArg AV.bool (by first | rfl | (rw [hb2, hb3]; rfl) | (simp [hb2, hb3]; done) | simp_all), trivial⟩)
 simp only [go_sem, seval]
 apply grd_ <;> intro hb8
 ·simp only [go_sem, seval]
  apply grd_ <;> intro hb9
  ·simp only [go_sem, seval]
   apply grd_ <;> intro hb10
   ·simp only [go_sem, seval]
    exact atJ (wkn Jg1 ⟨congrArg AV.bool (by first | rfl | (rw [hb2, hb8, hb9, hb10]; rfl) | (simp [hb2, hb8, hb9, hb10]; done) | simp_all), trivial⟩)
   simp only [go_sem, seval]
   exact atJ (wkn Jg1 ⟨congrArg AV.bool (by first | rfl | (rw [hb2, hb8, hb9, hb10]; rfl) | (simp [hb2, hb8, hb9, hb10]; done) | simp_all), trivial⟩)
  simp only [go_sem, seval]
  exact atJ (wkn Jg1 ⟨congrArg AV.bool (by first | rfl | (rw [hb2, hb8, hb9]; rfl) | (simp [hb2, hb8, hb9]; done) | simp_all), trivial⟩)
 simp only [go_sem, seval]
 apply grd_ <;> intro hb11
 ·simp only [go_sem, seval]
  exact atJ (wkn Jg1 ⟨congrArg AV.bool (by first | rfl | (rw [hb2, hb8, hb11]; rfl) | (simp [hb2, hb8, hb11]; done) | simp_all), trivial⟩)
 simp only [go_sem, seval]
 exact atJ (wkn Jg1 ⟨congrArg AV.bool (by first | rfl | (rw [hb2, hb8, hb11]; rfl) | (simp [hb2, hb8, hb11]; done) | simp_all), trivial⟩)
theorem zIZ {c : Int} {r : Bool} (h : zDm c = some r) : zAe Tryz.prog 209 [.int .u8 c] [] (.bool r) [] := by
 refine aX hf209 ok209 zAg ?_
 dsimp only [Tryz.f209, nums, Option.getD, List.append]
 unfold zDm at h
 refine zAb h fun v1 hv1 h => ?_
 simp only [go_sem, seval]
 refine cX (zIQ hv1) ?_
 simp only [go_sem, seval]
 exact rS .bool h
theorem zG2 {s : Str} {r : Bool} (h : zDL s = some r) : zAe Tryz.prog 173 [.str s] [] (.bool r) [] := by
 refine aX hf173 ok173 zAg ?_
 dsimp only [Tryz.f173, nums, Option.getD, List.append]
 unfold zDL at h
 simp only [go_sem, seval]
 refine zAb h fun y1 hy1 h => ?_
 refine rgJ 19 10000 (.inl rfl) (fun w => w [(0, .str s), (14, .bool y1)] []) (runX 10000 ?_) (fun Jy1 => ?_)
 ·clear hy1
  simp only [go_sem, seval]
  apply cS h <;> intro hb h
  ·simp only [go_sem, seval]
   exact rS .bool h
  refine zAb h fun v10 hv10 h => ?_
  simp only [go_sem, seval, (zIE (P := Tryz.prog) (s := 9) (d := 148) (by rw [zJt]; rfl) (by rw [zJt]; rfl) s)]
  refine cX (zJd 209 (fun _ _ h => zIZ h) hv10) ?_
  simp only [go_sem, seval]
  exact rS .bool h
 clear h
 have h := hy1
 simp only [go_sem, seval]
 apply grd_ <;> intro hb3
 ·have h := zAj hb3 h
  refine zCN .i64 h fun v6 _ b4 e5 h => ?_
  simp only [go_sem, seval, b4, e5]
  apply grd_ <;> intro hb7
  ·have h := zAj hb7 h
   simp only [go_sem, seval, b4, e5]
   cases h
   exact atJ (wkn Jy1 ⟨rfl, rfl, trivial⟩)
  have h := zAk hb7 h
  simp only [go_sem, seval]
  cases h
  exact atJ (wkn Jy1 ⟨rfl, rfl, trivial⟩)
 have h := zAk hb3 h
 simp only [go_sem, seval]
 cases h
 exact atJ (wkn Jy1 ⟨rfl, rfl, trivial⟩)
theorem w_sHSf {s : Str} {suffix : Str} {r : Bool} (h : sHSf s suffix = some r) : zAe Tryz.prog 175 [.str s, .str suffix] [] (.bool r) [] := by
 refine aX hf175 ok175 zAg ?_
 dsimp only [Tryz.f175, nums, Option.getD, List.append]
 unfold sHSf at h
 refine zAb h fun v1 hv1 h => ?_
 simp only [go_sem, seval]
 refine cX (zB1 hv1) ?_
 simp only [go_sem, seval]
 exact rS .bool h
theorem zIe {s : Str} {r : Bool} (h : zCy s = some r) : zAe Tryz.prog 176 [.str s] [] (.bool r) [] := by
 refine aX hf176 ok176 zAg ?_
 dsimp only [Tryz.f176, nums, Option.getD, List.append]
 unfold zCy at h
 refine zAb h fun v1 hv1 h => ?_
 simp only [go_sem, seval]
 refine cX (zG2 hv1) ?_
 simp only [go_sem, seval]
 exact rS .bool h
theorem zGA {sel : Str} {r : (Int × Bool)} (h : zDj sel = some r) : zAe Tryz.prog 118 [.str sel] [] (.tup [.int .i64 r.1, .bool r.2]) [] := by
 refine aX hf118 ok118 zAC ?_
 dsimp only [Tryz.f118, nums, Option.getD, List.append]
 unfold zDj at h
 simp only [go_sem, seval]
 apply bK
 simp only [go_sem, seval]
 refine rgJ 41 10000 (.inl rfl) (fun w => w [(0, .str sel), (5, .bool ((sel == []) || (decide ((64 : Int) < (sel.length : Int)))))] []) (runX 10000 ?_) (fun Jg1 => ?_)
 ·simp only [go_sem, seval]
  apply cS h <;> intro hb h
  ·simp only [go_sem, seval]
   refine zBz (fun x => .tup [.int .i64 x.1, .bool x.2]) h ?_
   first | rfl | simp only [go_sem, zAo, zAh, zAi, seval]
  refine zAb h fun v2 hv2 h => ?_
  simp only [go_sem, seval]
  refine cX (zG2 hv2) ?_
  simp only [go_sem, seval]
  apply cS h <;> intro hb h
  ·simp only [go_sem, seval]
   refine zBz (fun x => .tup [.int .i64 x.1, .bool x.2]) h ?_
   first | rfl | simp only [go_sem, zAo, zAh, zAi, seval]
  simp only [go_sem, seval]
  refine zAb h fun y3 hy3 h => ?_
  refine rgJ 41 10000 (.inl rfl) (fun w => w [(0, .str sel), (16, .bool y3)] []) (runX 10000 ?_) (fun Jy3 => ?_)
  ·clear hy3
   simp only [go_sem, seval]
   apply cS h <;> intro hb h
   ·simp only [go_sem, seval]
    refine zBz (fun x => .tup [.int .i64 x.1, .bool x.2]) h ?_
    first | rfl | simp only [go_sem, zAo, zAh, zAi, seval]
   refine zAb h fun v7 hv7 h => ?_
   simp only [go_sem, seval]
   refine cX (w_sHSf hv7) ?_
   simp only [go_sem, seval]
   apply cS h <;> intro hb h
   ·simp only [go_sem, seval]
    refine zBz (fun x => .tup [.int .i64 x.1, .bool x.2]) h ?_
    first | rfl | simp only [go_sem, zAo, zAh, zAi, seval]
   refine zAb h fun v8 hv8 h => ?_
   simp only [go_sem, seval]
   refine cX (zRe hv8) ?_
   refine zAb h fun v9 hv9 h => ?_
   simp only [go_sem, seval]
   refine cX (zEv hv9) ?_
   simp only [go_sem, seval]
   refine zAb h fun y10 hy10 h => ?_
   refine rgJ 41 10000 (.inl rfl) (fun w => w [(4, .sl none (List.map AV.str v9)), (38, .bool y10)] []) (runX 10000 ?_) (fun Jy10 => ?_)
   ·clear hy10
    simp only [go_sem, seval]
    apply cS h <;> intro hb h
    ·simp only [go_sem, seval]
     refine zBz (fun x => .tup [.int .i64 x.1, .bool x.2]) h ?_
     first | rfl | simp only [go_sem, zAo, zAh, zAi, seval]
    simp only [go_sem, seval]
    refine zBz (fun x => .tup [.int .i64 x.1, .bool x.2]) h ?_
    first | rfl | simp only [go_sem, zAo, zAh, zAi, seval]
   clear h
   have h := hy10
   simp only [go_sem, seval]
   apply grd_ <;> intro hb12
   ·have h := zAj hb12 h
    refine zAb h fun v13 hv13 h => ?_
    simp only [go_sem, seval]
    refine cX (zEO 176 (fun _ _ h => zIe h) hv13) ?_
    simp only [go_sem, seval]
    cases h
    exact atJ (wkn Jy10 ⟨rfl, rfl, trivial⟩)
   have h := zAk hb12 h
   simp only [go_sem, seval]
   cases h
   exact atJ (wkn Jy10 ⟨rfl, rfl, trivial⟩)
  clear h
  have h := hy3
  refine zAb h fun v5 hv5 h => ?_
  simp only [go_sem, seval]
  refine cX (zCz hv5) ?_
  simp only [go_sem, seval]
  apply grd_ <;> intro hb6
  ·have h := zAk hb6 h
   simp only [go_sem, seval]
   cases h
   exact atJ (wkn Jy3 ⟨rfl, rfl, trivial⟩)
  have h := zAj hb6 h
  simp only [go_sem, seval]
  cases h
  exact atJ (wkn Jy3 ⟨rfl, rfl, trivial⟩)
 simp only [go_sem, seval]
 apply grd_ <;> intro hb14
 ·simp only [go_sem, seval]
  exact atJ (wkn Jg1 ⟨rfl, congrArg AV.bool (by first | rfl | (rw [hb14]; rfl) | (simp [hb14]; done) | simp_all), trivial⟩)
 simp only [go_sem, seval]
 exact atJ (wkn Jg1 ⟨rfl, congrArg AV.bool (by first | rfl | (rw [hb14]; rfl) | (simp [hb14]; done) | simp_all), trivial⟩)
theorem zFY {sel : Str} {n : Int} {r : Bool} (h : zDE sel n = some r) : zAe Tryz.prog 64 [.str sel, .int .i64 n] [] (.bool r) [] := by
 refine aX hf64 ok64 zAg ?_
 dsimp only [Tryz.f64, nums, Option.getD, List.append]
 unfold zDE at h
 refine zAb h fun v1 hv1 h => ?_
 simp only [go_sem, seval]
 refine cX (zGA hv1) ?_
 simp only [go_sem, seval]
 refine rgJ 18 10000 (.inl rfl) (fun w => w [(4, .bool (v1.2 && (decide (v1.1 = n))))] []) (runX 10000 ?_) (fun Jg2 => ?_)
 ·simp only [go_sem, seval]
  exact rS .bool h
 simp only [go_sem, seval]
 apply grd_ <;> intro hb3
 ·simp only [go_sem, seval]
  exact atJ (wkn Jg2 ⟨congrArg AV.bool (by first | rfl | (rw [hb3]; rfl) | (simp [hb3]; done) | simp_all), trivial⟩)
 simp only [go_sem, seval]
 exact atJ (wkn Jg2 ⟨congrArg AV.bool (by first | rfl | (rw [hb3]; rfl) | (simp [hb3]; done) | simp_all), trivial⟩)
theorem zD0 {s : (List Str)} {p1_v : Str} {r : Int} (h : zAY s p1_v = some r) : zAe Tryz.prog 177 [.sl none (List.map AV.str s), .str p1_v] [] (.int .i64 r) [] := by
 refine aX hf177 ok177 zC8 ?_
 dsimp only [Tryz.f177, nums, Option.getD, List.append]
 unfold zAY at h
 simp only [go_sem, seval]
 refine zBq h fun K2 hK2 h => ?_
 refine blkJ 19 10000 (fun w => K2 () = some r → w [] []) (fun h => runX 10000 ?_) (fun JK2 => ?_)
 ·subst hK2
  dsimp only at h
  simp only [go_sem, seval]
  exact rS (.int .i64) h
 clear hK2
 simp only [go_sem, seval]
 refine lpJ 19 fuel (fun q1 w => ∀ (v3 : Int), zAm s p1_v K2 q1 v3 = some r → w [(0, .sl none (List.map AV.str s)), (1, .str p1_v), (7, .int .i64 (s.length : Int)), (8, .int .i64 v3)] []) (fun w _ h => nomatch h) (fun q1 ih1 v3 h => ?_) (fun L1 => ?_)
 ·unfold zAm at h
  apply rL
  simp only [go_sem, seval]
  apply cS h <;> intro hb h
  ·simp only [go_sem, seval]
   apply bK
   refine zAp AV.str none .i64 ⟨9, 1, false, 16⟩ (fun _ => rfl) h fun v6 _ b4 e5 h => ?_
   simp only [go_sem, seval, b4, e5]
   apply cS h <;> intro hb h
   ·simp only [go_sem, seval]
    exact rS (.int .i64) h
   refine zAF h fun v8 _ e7 h => ?_
   simp only [go_sem, seval, e7]
   exact zAc (ih1 v8 h) ⟨rfl, rfl, rfl, rfl, trivial⟩
  simp only [go_sem, seval]
  exact atJ (wkn (JK2 h) trivial)
 exact zAc (L1 0 h) ⟨rfl, rfl, rfl, rfl, trivial⟩
theorem zB0 {s : (List Str)} {p1_v : Str} {r : Bool} (h : zAs s p1_v = some r) : zAe Tryz.prog 120 [.sl none (List.map AV.str s), .str p1_v] [] (.bool r) [] := by
 refine aX hf120 ok120 zAg ?_
 dsimp only [Tryz.f120, nums, Option.getD, List.append]
 unfold zAs at h
 refine zAb h fun v1 hv1 h => ?_
 simp only [go_sem, seval]
 refine cX (zD0 hv1) ?_
 simp only [go_sem, seval]
 exact rS .bool h
theorem zDA {s : Str} {c : Int} {r : Int} (h : zAy s c = some r) : zAe Tryz.prog 147 [.str s, .int .u8 c] [] (.int .i64 r) [] := by
 refine aX hf147 ok147 zC8 ?_
 dsimp only [Tryz.f147, nums, Option.getD, List.append]
 unfold zAy at h
 refine zAb h fun v1 hv1 h => ?_
 simp only [go_sem, seval]
 refine cX (zKo hv1) ?_
 simp only [go_sem, seval]
 exact rS (.int .i64) h
theorem zEq {s : Str} {c : Int} {r : Int} (h : strings_IndexByte s c = some r) : zAe Tryz.prog 100 [.str s, .int .u8 c] [] (.int .i64 r) [] := by
 refine aX hf100 ok100 zC8 ?_
 dsimp only [Tryz.f100, nums, Option.getD, List.append]
 unfold strings_IndexByte at h
 refine zAb h fun v1 hv1 h => ?_
 simp only [go_sem, seval]
 refine cX (zDA hv1) ?_
 simp only [go_sem, seval]
 exact rS (.int .i64) h
theorem zEH {s : Str} {first : Str} {r : Bool} (h : zCA s first = some r) : zAe Tryz.prog 129 [.str s, .str first] [] (.bool r) [] := by
 refine aX hf129 ok129 zAg ?_
 dsimp only [Tryz.f129, nums, Option.getD, List.append]
 unfold zCA at h
 simp only [go_sem, seval]
 refine zAb h fun y1 hy1 h => ?_
 refine rgJ 24 10000 (.inl rfl) (fun w => w [(4, .bool y1)] []) (runX 10000 ?_) (fun Jy1 => ?_)
 ·clear hy1
  simp only [go_sem, seval]
  exact rS .bool h
 clear h
 have h := hy1
 simp only [go_sem, seval]
 apply grd_ <;> intro hb3
 ·have h := zAk hb3 h
  simp only [go_sem, seval]
  apply grd_ <;> intro hb4
  ·have h := zAk hb4 h
   refine zCN .i64 h fun v7 _ b5 e6 h => ?_
   refine zAb h fun v8 hv8 h => ?_
   simp only [go_sem, seval, b5, e6]
   refine cX (zEq hv8) ?_
   simp only [go_sem, seval]
   apply grd_ <;> intro hb9
   ·have h := zAk hb9 h
    refine zAb h fun v10 hv10 h => ?_
    simp only [go_sem, seval]
    refine cX (zCz hv10) ?_
    simp only [go_sem, seval]
    cases h
    exact atJ (wkn Jy1 ⟨rfl, trivial⟩)
   have h := zAj hb9 h
   simp only [go_sem, seval]
   cases h
   exact atJ (wkn Jy1 ⟨rfl, trivial⟩)
  have h := zAj hb4 h
  simp only [go_sem, seval]
  cases h
  exact atJ (wkn Jy1 ⟨rfl, trivial⟩)
 have h := zAj hb3 h
 simp only [go_sem, seval]
 cases h
 exact atJ (wkn Jy1 ⟨rfl, trivial⟩)
theorem zDq {s : Str} {r : Bool} (h : zBI s = some r) : zAe Tryz.prog 119 [.str s] [] (.bool r) [] := by
 refine aX hf119 ok119 zAg ?_
 dsimp only [Tryz.f119, nums, Option.getD, List.append]
 unfold zBI at h
 simp only [go_sem, seval]
 refine zAb h fun y1 hy1 h => ?_
 refine rgJ 11 10000 (.inl rfl) (fun w => w [(2, .bool y1)] []) (runX 10000 ?_) (fun Jy1 => ?_)
 ·clear hy1
  simp only [go_sem, seval]
  exact rS .bool h
 clear h
 have h := hy1
 refine zAb h fun v3 hv3 h => ?_
 simp only [go_sem, seval]
 refine cX (zEH hv3) ?_
 simp only [go_sem, seval]
 apply grd_ <;> intro hb4
 ·have h := zAk hb4 h
  refine zAb h fun v5 hv5 h => ?_
  simp only [go_sem, seval]
  refine cX (zB0 hv5) ?_
  simp only [go_sem, seval]
  cases h
  exact atJ (wkn Jy1 ⟨rfl, trivial⟩)
 have h := zAj hb4 h
 simp only [go_sem, seval]
 cases h
 exact atJ (wkn Jy1 ⟨rfl, trivial⟩)
theorem zHp {l : (List Str)} {r : Bool} (h : zDJ l = some r) : zAe Tryz.prog 65 [.sl none (List.map AV.str l)] [] (.bool r) [] := by
 refine aX hf65 ok65 zAg ?_
 dsimp only [Tryz.f65, nums, Option.getD, List.append]
 unfold zDJ at h
 simp only [go_sem, seval]
 refine zBq h fun K2 hK2 h => ?_
 refine blkJ 23 10000 (fun w => K2 () = some r → w [] []) (fun h => runX 10000 ?_) (fun JK2 => ?_)
 ·subst hK2
  dsimp only at h
  simp only [go_sem, seval]
  exact rS .bool h
 clear hK2
 simp only [go_sem, seval]
 refine lpJ 23 fuel (fun q1 w => ∀ (v3 : Int), zBX l K2 q1 v3 = some r → w [(0, .sl none (List.map AV.str l)), (5, .sl none (List.map AV.str l)), (6, .int .i64 (l.length : Int)), (7, .int .i64 v3)] []) (fun w _ h => nomatch h) (fun q1 ih1 v3 h => ?_) (fun L1 => ?_)
 ·unfold zBX at h
  apply rL
  simp only [go_sem, seval]
  apply cS h <;> intro hb h
  ·simp only [go_sem, seval]
   apply bK
   refine zAp AV.str none .i64 ⟨9, 1, false, 16⟩ (fun _ => rfl) h fun v6 _ b4 e5 h => ?_
   simp only [go_sem, seval, b4, e5]
   refine zAb h fun y7 hy7 h => ?_
   refine rgJ 23 10000 (.inl rfl) (fun w => w [(0, .sl none (List.map AV.str l)), (5, .sl none (List.map AV.str l)), (6, .int .i64 (l.length : Int)), (7, .int .i64 v3), (21, .bool y7)] []) (runX 10000 ?_) (fun Jy7 => ?_)
   ·clear hy7
    simp only [go_sem, seval]
    apply cS h <;> intro hb h
    ·simp only [go_sem, seval]
     exact rS .bool h
    refine zAF h fun v16 _ e15 h => ?_
    simp only [go_sem, seval, e15]
    exact zAc (ih1 v16 h) ⟨rfl, rfl, rfl, rfl, trivial⟩
   clear h
   have h := hy7
   refine zAb h fun v9 hv9 h => ?_
   simp only [go_sem, seval]
   refine cX (zDq hv9) ?_
   simp only [go_sem, seval]
   apply grd_ <;> intro hb10
   ·have h := zAj hb10 h
    refine zGw AV.str none ⟨9, 1, false, 16⟩ (fun _ => rfl) none (some (.int .i64 v3)) rfl rfl h fun v13 _ b11 e12 h => ?_
    refine zAb h fun v14 hv14 h => ?_
    simp only [go_sem, seval, b11, e12]
    refine cX (zB0 hv14) ?_
    simp only [go_sem, seval]
    cases h
    exact atJ (wkn Jy7 ⟨rfl, rfl, rfl, rfl, rfl, trivial⟩)
   have h := zAk hb10 h
   simp only [go_sem, seval]
   cases h
   exact atJ (wkn Jy7 ⟨rfl, rfl, rfl, rfl, rfl, trivial⟩)
  simp only [go_sem, seval]
  exact atJ (wkn (JK2 h) trivial)
 exact zAc (L1 0 h) ⟨rfl, rfl, rfl, rfl, trivial⟩
theorem zCB {n : tNd} {text : Bool} {names : Bool} {kids : Bool} {r : Bool} (h : zCG n text names kids = some r) : zAe Tryz.prog 178 [zAu n, .bool text, .bool names, .bool kids] [] (.bool r) [] := by
 refine aX hf178 ok178 zAg ?_
 dsimp only [Tryz.f178, nums, Option.getD, List.append]
 unfold zCG at h
 simp only [go_sem, seval]
 refine rgJ 38 10000 (.inl rfl) (fun w => w [(8, .bool (((text || (n.S == [])) && (names || ((decide (n.N = 0)) && (decide ((n.L.length : Int) = 0))))) && (kids || (decide ((n.Kids.length : Int) = 0)))))] [hN n.K n.S n.N n.L n.Kids]) (runX 10000 ?_) (fun Jg1 => ?_)
 ·simp only [go_sem, seval]
  exact rS .bool h
 simp only [go_sem, seval]
 apply grd_ <;> intro hb2
 ·simp only [go_sem, seval]
  apply grd_ <;> intro hb3
  ·simp only [go_sem, seval]
   apply grd_ <;> intro hb4
   ·simp only [go_sem, seval]
    apply grd_ <;> intro hb5
    ·simp only [go_sem, seval]
     apply grd_ <;> intro hb6
     ·simp only [go_sem, seval]
      apply grd_ <;> intro hb7
      ·simp only [go_sem, seval]
       exact atJ (wkn Jg1 ⟨congrArg AV.bool (by first | rfl | (rw [hb2, hb3, hb4, hb5, hb6, hb7]; rfl) | (simp [hb2, hb3, hb4, hb5, hb6, hb7]; done) | simp_all), trivial⟩)
      simp only [go_sem, seval]
      exact atJ (wkn Jg1 ⟨congrArg AV.bool (by first | rfl | (rw [hb2, hb3, hb4, hb5, hb6, hb7]; rfl) | (simp [hb2, hb3, hb4, hb5, hb6, hb7]; done) | simp_all), trivial⟩)
     simp only [go_sem, seval]
     exact atJ (wkn Jg1 ⟨congrArg AV.bool (by first | rfl | (rw [hb2, hb3, hb4, hb5, hb6]; rfl) | (simp [hb2, hb3, hb4, hb5, hb6]; done) | simp_all), trivial⟩)
    simp only [go_sem, seval]
    exact atJ (wkn Jg1 ⟨congrArg AV.bool (by first | rfl | (rw [hb2, hb3, hb4, hb5]; rfl) | (simp [hb2, hb3, hb4, hb5]; done) | simp_all), trivial⟩)
   simp only [go_sem, seval]
   apply grd_ <;> intro hb8
   ·simp only [go_sem, seval]
    exact atJ (wkn Jg1 ⟨congrArg AV.bool (by first | rfl | (rw [hb2, hb3, hb4, hb8]; rfl) | (simp [hb2, hb3, hb4, hb8]; done) | simp_all), trivial⟩)
   simp only [go_sem, seval]
   exact atJ (wkn Jg1 ⟨congrArg AV.bool (by first | rfl | (rw [hb2, hb3, hb4, hb8]; rfl) | (simp [hb2, hb3, hb4, hb8]; done) | simp_all), trivial⟩)
  simp only [go_sem, seval]
  exact atJ (wkn Jg1 ⟨congrArg AV.bool (by first | rfl | (rw [hb2, hb3]; rfl) | (simp [hb2, hb3]; done) | simp_all), trivial⟩)
 simp only [go_sem, seval]
 apply grd_ <;> intro hb9
 ·simp only [go_sem, seval]
  apply grd_ <;> intro hb10
  ·simp only [go_sem, seval]
   apply grd_ <;> intro hb11
   ·simp only [go_sem, seval]
    apply grd_ <;> intro hb12
    ·simp only [go_sem, seval]
     exact atJ (wkn Jg1 ⟨congrArg AV.bool (by first | rfl | (rw [hb2, hb9, hb10, hb11, hb12]; rfl) | (simp [hb2, hb9, hb10, hb11, hb12]; done) | simp_all), trivial⟩)
    simp only [go_sem, seval]
    exact atJ (wkn Jg1 ⟨congrArg AV.bool (by first | rfl | (rw [hb2, hb9, hb10, hb11, hb12]; rfl) | (simp [hb2, hb9, hb10, hb11, hb12]; done) | simp_all), trivial⟩)
   simp only [go_sem, seval]
   exact atJ (wkn Jg1 ⟨congrArg AV.bool (by first | rfl | (rw [hb2, hb9, hb10, hb11]; rfl) | (simp [hb2, hb9, hb10, hb11]; done) | simp_all), trivial⟩)
  simp only [go_sem, seval]
  exact atJ (wkn Jg1 ⟨congrArg AV.bool (by first | rfl | (rw [hb2, hb9, hb10]; rfl) | (simp [hb2, hb9, hb10]; done) | simp_all), trivial⟩)
 simp only [go_sem, seval]
 apply grd_ <;> intro hb13
 ·simp only [go_sem, seval]
  exact atJ (wkn Jg1 ⟨congrArg AV.bool (by first | rfl | (rw [hb2, hb9, hb13]; rfl) | (simp [hb2, hb9, hb13]; done) | simp_all), trivial⟩)
 simp only [go_sem, seval]
 exact atJ (wkn Jg1 ⟨congrArg AV.bool (by first | rfl | (rw [hb2, hb9, hb13]; rfl) | (simp [hb2, hb9, hb13]; done) | simp_all), trivial⟩)
theorem zDB {s : Str} {prefix_ : Str} {r : Bool} (h : zAO s prefix_ = some r) : zAe Tryz.prog 281 [.str s, .str prefix_] [] (.bool r) [] := by
 refine aX hf281 ok281 zAg ?_
 dsimp only [Tryz.f281, nums, Option.getD, List.append]
 unfold zAO at h
 simp only [go_sem, seval]
 refine zAb h fun y1 hy1 h => ?_
 refine rgJ 18 10000 (.inl rfl) (fun w => w [(4, .bool y1)] []) (runX 10000 ?_) (fun Jy1 => ?_)
 ·clear hy1
  simp only [go_sem, seval]
  exact rS .bool h
 clear h
 have h := hy1
 simp only [go_sem, seval]
 apply grd_ <;> intro hb3
 ·have h := zAk hb3 h
  refine zH2 none (some (.int .i64 (prefix_.length : Int))) rfl rfl h fun v6 _ b4 e5 h => ?_
  simp only [go_sem, seval, b4, e5]
  cases h
  exact atJ (wkn Jy1 ⟨rfl, trivial⟩)
 have h := zAj hb3 h
 simp only [go_sem, seval]
 cases h
 exact atJ (wkn Jy1 ⟨rfl, trivial⟩)
theorem zDC {s : Str} {prefix_ : Str} {r : (Str × Bool)} (h : zAP s prefix_ = some r) : zAe Tryz.prog 267 [.str s, .str prefix_] [] (.tup [.str r.1, .bool r.2]) [] := by
 refine aX hf267 ok267 zAC ?_
 dsimp only [Tryz.f267, nums, Option.getD, List.append]
 unfold zAP at h
 refine zAb h fun v1 hv1 h => ?_
 simp only [go_sem, seval]
 refine cX (zDB hv1) ?_
 simp only [go_sem, seval]
 apply cS h <;> intro hb h
 ·simp only [go_sem, seval]
  refine zBz (fun x => .tup [.str x.1, .bool x.2]) h ?_
  first | rfl | simp only [go_sem, zAo, zAh, zAi, seval]
 refine zH2 (some (.int .i64 (prefix_.length : Int))) none rfl rfl h fun v4 _ b2 e3 h => ?_
 simp only [go_sem, seval, b2, e3]
 refine zBz (fun x => .tup [.str x.1, .bool x.2]) h ?_
 first | rfl | simp only [go_sem, zAo, zAh, zAi, seval]
theorem zEl {s : Str} {prefix_ : Str} {r : (Str × Bool)} (h : strings_CutPrefix s prefix_ = some r) : zAe Tryz.prog 244 [.str s, .str prefix_] [] (.tup [.str r.1, .bool r.2]) [] := by
 refine aX hf244 ok244 zAC ?_
 dsimp only [Tryz.f244, nums, Option.getD, List.append]
 unfold strings_CutPrefix at h
 refine zAb h fun v1 hv1 h => ?_
 simp only [go_sem, seval]
 refine cX (zDC hv1) ?_
 simp only [go_sem, seval]
 refine zBz (fun x => .tup [.str x.1, .bool x.2]) h ?_
 first | rfl | simp only [go_sem, zAo, zAh, zAi, seval]
theorem zJf {s : Str} {r : (Str × Bool × Bool)} (h : zDQ s = some r) : zAe Tryz.prog 250 [.str s] [] (.tup [.str r.1, .bool r.2.1, .bool r.2.2]) [] := by
 refine aX hf250 ok250 zAC ?_
 dsimp only [Tryz.f250, nums, Option.getD, List.append]
 unfold zDQ at h
 refine zAb h fun v1 hv1 h => ?_
 simp only [go_sem, seval]
 refine cX (zEl hv1) ?_
 simp only [go_sem, seval]
 refine zAb h fun y2 hy2 h => ?_
 refine rgJ 43 10000 (.inl rfl) (fun w => w [(5, .str v1.1), (6, .bool v1.2), (40, .bool y2)] []) (runX 10000 ?_) (fun Jy2 => ?_)
 ·clear hy2
  simp only [go_sem, seval]
  apply cS h <;> intro hb h
  ·simp only [go_sem, seval]
   refine zBz (fun x => .tup [.str x.1, .bool x.2.1, .bool x.2.2]) h ?_
   first | rfl | simp only [go_sem, zAo, zAh, zAi, seval]
  simp only [go_sem, seval]
  refine zBz (fun x => .tup [.str x.1, .bool x.2.1, .bool x.2.2]) h ?_
  first | rfl | simp only [go_sem, zAo, zAh, zAi, seval]
 clear h
 have h := hy2
 simp only [go_sem, seval]
 apply grd_ <;> intro hb4
 ·have h := zAj hb4 h
  simp only [go_sem, seval]
  apply grd_ <;> intro hb5
  ·have h := zAj hb5 h
   simp only [go_sem, seval]
   apply grd_ <;> intro hb6
   ·have h := zAk hb6 h
    refine zCN .i64 h fun v9 _ b7 e8 h => ?_
    simp only [go_sem, seval, b7, e8]
    apply grd_ <;> intro hb10
    ·have h := zAj hb10 h
     simp only [go_sem, seval]
     apply grd_ <;> intro hb11
     ·have h := zAk hb11 h
      simp only [go_sem, seval]
      apply grd_ <;> intro hb12
      ·have h := zAj hb12 h
       refine zAb h fun v13 hv13 h => ?_
       simp only [go_sem, seval]
       refine cX (zCz hv13) ?_
       simp only [go_sem, seval]
       cases h
       exact atJ (wkn Jy2 ⟨rfl, rfl, rfl, trivial⟩)
      have h := zAk hb12 h
      simp only [go_sem, seval]
      cases h
      exact atJ (wkn Jy2 ⟨rfl, rfl, rfl, trivial⟩)
     have h := zAj hb11 h
     refine zAb h fun v14 hv14 h => ?_
     simp only [go_sem, seval]
     refine cX (zCz hv14) ?_
     simp only [go_sem, seval]
     cases h
     exact atJ (wkn Jy2 ⟨rfl, rfl, rfl, trivial⟩)
    have h := zAk hb10 h
    simp only [go_sem, seval]
    cases h
    exact atJ (wkn Jy2 ⟨rfl, rfl, rfl, trivial⟩)
   have h := zAj hb6 h
   simp only [go_sem, seval]
   apply grd_ <;> intro hb15
   ·have h := zAk hb15 h
    simp only [go_sem, seval]
    apply grd_ <;> intro hb16
    ·have h := zAj hb16 h
     refine zAb h fun v17 hv17 h => ?_
     simp only [go_sem, seval]
     refine cX (zCz hv17) ?_
     simp only [go_sem, seval]
     cases h
     exact atJ (wkn Jy2 ⟨rfl, rfl, rfl, trivial⟩)
    have h := zAk hb16 h
    simp only [go_sem, seval]
    cases h
    exact atJ (wkn Jy2 ⟨rfl, rfl, rfl, trivial⟩)
   have h := zAj hb15 h
   refine zAb h fun v18 hv18 h => ?_
   simp only [go_sem, seval]
   refine cX (zCz hv18) ?_
   simp only [go_sem, seval]
   cases h
   exact atJ (wkn Jy2 ⟨rfl, rfl, rfl, trivial⟩)
  have h := zAk hb5 h
  simp only [go_sem, seval]
  cases h
  exact atJ (wkn Jy2 ⟨rfl, rfl, rfl, trivial⟩)
 have h := zAk hb4 h
 simp only [go_sem, seval]
 cases h
 exact atJ (wkn Jy2 ⟨rfl, rfl, rfl, trivial⟩)
theorem zMV {m : (List Int)} {r : (List Int)} (h : zHc m = some r) : zAe Tryz.prog 271 [.sl none (List.map (AV.int .u32) m)] [] (.sl none (List.map (AV.int .u32) r)) [] := by
 refine aX hf271 ok271 zDb ?_
 dsimp only [Tryz.f271, nums, Option.getD, List.append]
 unfold zHc at h
 simp only [go_sem, seval]
 refine zAb h fun y1 hy1 h => ?_
 refine blkJ 21 10000 (fun w => w [(0, .sl none (List.map (AV.int .u32) y1))] []) (runX 10000 ?_) (fun Jy1 => ?_)
 ·clear hy1
  simp only [go_sem, seval]
  exact rS (fun x => .sl none (List.map (AV.int .u32) x)) h
 clear h
 have h := hy1
 simp only [go_sem, seval]
 refine lpJ 21 fuel (fun q1 w => ∀ (v3 : (List Int)), zDk q1 v3 = some y1 → w [(0, .sl none (List.map (AV.int .u32) v3))] []) (fun w _ h => nomatch h) (fun q1 ih1 v3 h => ?_) (fun L1 => ?_)
 ·unfold zDk at h
  apply rL
  simp only [go_sem, seval]
  refine zAb h fun y4 hy4 h => ?_
  refine rgJ 21 10000 (.inl rfl) (fun w => w [(0, .sl none (List.map (AV.int .u32) v3)), (14, .bool y4)] []) (runX 10000 ?_) (fun Jy4 => ?_)
  ·clear hy4
   simp only [go_sem, seval]
   apply cS h <;> intro hb h
   ·simp only [go_sem, seval]
    apply bK
    refine zGs h fun v13 _ e12 h => ?_
    refine zGw (AV.int .u32) none ⟨272, 1, false, 4⟩ (fun _ => rfl) none (some (.int .i64 v13)) rfl rfl h fun v16 _ b14 e15 h => ?_
    simp only [go_sem, seval, e12, b14, e15]
    exact zAc (ih1 v16 h) ⟨rfl, trivial⟩
   simp only [go_sem, seval]
   cases h
   exact atJ (wkn Jy1 ⟨rfl, trivial⟩)
  clear h
  have h := hy4
  simp only [go_sem, seval]
  apply grd_ <;> intro hb6
  ·have h := zAk hb6 h
   refine zGs h fun v8 _ e7 h => ?_
   refine zAp (AV.int .u32) none .i64 ⟨272, 1, false, 4⟩ (fun _ => rfl) h fun v11 _ b9 e10 h => ?_
   simp only [go_sem, seval, e7, b9, e10]
   cases h
   exact atJ (wkn Jy4 ⟨rfl, rfl, trivial⟩)
  have h := zAj hb6 h
  simp only [go_sem, seval]
  cases h
  exact atJ (wkn Jy4 ⟨rfl, rfl, trivial⟩)
 exact zAc (L1 m h) ⟨rfl, trivial⟩
theorem zLC {neg : Bool} {m : (List Int)} {r : (large_Num × (Option Int))} (h : zGp neg m = some r) : zAe Tryz.prog 251 [.bool neg, .sl none (List.map (AV.int .u32) m)] [] (.tup [zCT r.1, encE 86 r.2]) [] := by
 refine aX hf251 ok251 zAC ?_
 dsimp only [Tryz.f251, nums, Option.getD, List.append]
 unfold zGp at h
 refine zAb h fun v1 hv1 h => ?_
 simp only [go_sem, seval]
 refine cX (zMV hv1) ?_
 simp only [go_sem, seval]
 apply cS h <;> intro hb h
 ·simp only [go_sem, seval]
  refine zBz (fun x => .tup [zCT x.1, encE 86 x.2]) h ?_
  first | rfl | simp only [go_sem, zAo, zAh, zAi, seval]
 simp only [go_sem, seval]
 refine zAb h fun y2 hy2 h => ?_
 refine rgJ 21 10000 (.inl rfl) (fun w => w [(4, .ptr 0 0), (5, .nilI)] [some [.bool y2, .sl none (List.map (AV.int .u32) v1)]]) (runX 10000 ?_) (fun Jy2 => ?_)
 ·clear hy2
  simp only [go_sem, seval]
  refine zBz (fun x => .tup [zCT x.1, encE 86 x.2]) h ?_
  first | rfl | simp only [go_sem, zAo, zAh, zAi, seval]
 clear h
 have h := hy2
 simp only [go_sem, seval]
 apply grd_ <;> intro hb4
 ·have h := zAk hb4 h
  simp only [go_sem, seval]
  cases h
  exact atJ (wkn Jy2 ⟨rfl, rfl, trivial⟩)
 have h := zAj hb4 h
 simp only [go_sem, seval]
 cases h
 exact atJ (wkn Jy2 ⟨rfl, rfl, trivial⟩)
theorem zKR {s : Str} {r : (large_Num × (Option Int))} (h : zFv s = some r) : zAe Tryz.prog 219 [.str s] [] (.tup [zCT r.1, encE 86 r.2]) [] := by
 refine aX hf219 ok219 zAC ?_
 dsimp only [Tryz.f219, nums, Option.getD, List.append]
 unfold zFv at h
 refine zAb h fun v1 hv1 h => ?_
 simp only [go_sem, seval]
 refine cX (zJf hv1) ?_
 simp only [go_sem, seval]
 apply cS h <;> intro hb h
 ·simp only [go_sem, seval]
  refine zBz (fun x => .tup [zCT x.1, encE 86 x.2]) h ?_
  first | rfl | simp only [go_sem, zAo, zAh, zAi, seval]
 simp only [go_sem, seval, (zIE (P := Tryz.prog) (s := 9) (d := 148) (by rw [zJt]; rfl) (by rw [zJt]; rfl) v1.1)]
 refine zNu 7 1 false rfl (by first | rfl | simp only [go_sem]) rfl ?_
 refine zAb h fun y2 hy2 h => ?_
 refine blkJ 66 10000 (fun w => w [(2, .ptr 0 0), (5, .bool v1.2.1), (7, .rs 1 0 y2.length 1 false false)] [some [.bool false, .sl (some none) []], some (List.map (AV.int .u32) y2)]) (runX 10000 ?_) (fun Jy2 => ?_)
 ·clear hy2
  simp only [go_sem, seval]
  refine mvF_ 10000 (AV.int .u32) zHr (v := y2) rfl rfl (by first | rfl | simp only [go_sem]) (by first | rfl | simp only [go_sem]) (by first | rfl | simp only [go_sem]) rfl rfl ?_
  refine zAb h fun v103 hv103 h => ?_
  simp only [go_sem, seval]
  refine cX (zLC hv103) ?_
  simp only [go_sem, seval]
  refine zBz (fun x => .tup [zCT x.1, encE 86 x.2]) h ?_
  first | rfl | simp only [go_sem, zAo, zAh, zAi, seval]
 clear h
 have h := hy2
 simp only [go_sem, seval]
 refine lpJ 66 fuel (fun q1 w => ∀ (v53 : Int) (v54 : (List Int)), zBn v1 q1 v53 v54 = some y2 → w [(2, .ptr 0 0), (5, .bool v1.2.1), (7, .rs 1 0 v54.length 1 false false), (24, .sl none (List.map (AV.int .u8) (zAx v1.1))), (25, .int .i64 ((zAx v1.1).length : Int)), (26, .int .i64 v53)] [some [.bool false, .sl (some none) []], some (List.map (AV.int .u32) v54)]) (fun w _ _ h => nomatch h) (fun q1 ih1 v53 v54 h => ?_) (fun L1 => ?_)
 ·unfold zBn at h
  apply rL
  simp only [go_sem, seval]
  apply cS h <;> intro hb h
  ·simp only [go_sem, seval]
   apply bK
   refine zAp (AV.int .u8) none .i64 ⟨5, 1, false, 1⟩ (fun _ => rfl) h fun v57 _ b55 e56 h => ?_
   simp only [go_sem, seval, b55, e56, (show intv .sub .u8 v57 48 = .int .u8 (IntKind.wrap .u8 (v57 - 48)) from rfl), (zOR (s := 5) (k := .u8) io274 (IntKind.wrap .u8 (v57 - 48)))]
   refine zAb h fun y58 hy58 h => ?_
   refine blkJ 66 10000 (fun w => w [(2, .ptr 0 0), (5, .bool v1.2.1), (7, .rs 1 0 y58.2.length 1 false false), (10, .int .u64 y58.1), (24, .sl none (List.map (AV.int .u8) (zAx v1.1))), (25, .int .i64 ((zAx v1.1).length : Int)), (26, .int .i64 v53)] [some [.bool false, .sl (some none) []], some (List.map (AV.int .u32) y58.2)]) (runX 10000 ?_) (fun Jy58 => ?_)
   ·clear hy58
    simp only [go_sem, seval]
    refine zAb h fun y95 hy95 h => ?_
    refine cndJ 66 10000 (fun w => w [(2, .ptr 0 0), (5, .bool v1.2.1), (7, .rs 1 0 y95.length 1 false false), (24, .sl none (List.map (AV.int .u8) (zAx v1.1))), (25, .int .i64 ((zAx v1.1).length : Int)), (26, .int .i64 v53)] [some [.bool false, .sl (some none) []], some (List.map (AV.int .u32) y95)]) (runX 10000 ?_) (fun Jy95 => ?_)
    ·clear hy95
     refine zAF h fun v102 _ e101 h => ?_
     simp only [go_sem, seval, e101]
     exact zAc (ih1 v102 y95 h) ⟨rfl, rfl, rfl, rfl, rfl, rfl, trivial⟩
    clear h
    have h := hy95
    apply cS h <;> intro hb h
    ·simp only [go_sem, seval, (zOR (s := 274) (k := .u64) io272 y58.1)]
     refine appB_s (AV.int .u32) (some none) ⟨272, 1, false, 4⟩ (fun _ => rfl) (by decide) rfl h fun v100 e97 e98 e99 h => ?_
     refine appB_ 10000 (AV.int .u32) zHr (v := y58.2) (ws := ([(IntKind.wrap .u32 y58.1)] : List Int)) rfl rfl rfl el175 rfl kd175 (by first | rfl | simp only [go_sem]) (by first | rfl | simp only [go_sem]) (by first | rfl | simp only [go_sem]) e97 e98 e99 (by first | rfl | simp only [go_sem]) rfl rfl ?_
     simp only [go_sem, seval]
     cases h
     exact atJ (wkn Jy95 ⟨rfl, rfl, rfl, rfl, rfl, rfl, trivial⟩)
    simp only [go_sem, seval]
    cases h
    exact atJ (wkn Jy95 ⟨rfl, rfl, rfl, rfl, rfl, rfl, trivial⟩)
   clear h
   have h := hy58
   simp only [go_sem, seval]
   refine lpJ 66 fuel (fun q3 w => ∀ (v77 : Int) (v78 : Int) (v79 : (List Int)), zBS v54 q3 v77 v78 v79 = some y58 → w [(2, .ptr 0 0), (5, .bool v1.2.1), (7, .rs 1 0 v79.length 1 false false), (10, .int .u64 v77), (24, .sl none (List.map (AV.int .u8) (zAx v1.1))), (25, .int .i64 ((zAx v1.1).length : Int)), (26, .int .i64 v53), (33, .rs 1 0 v79.length 1 false false), (34, .int .i64 (v54.length : Int)), (35, .int .i64 v78)] [some [.bool false, .sl (some none) []], some (List.map (AV.int .u32) v79)]) (fun w _ _ _ h => nomatch h) (fun q3 ih3 v77 v78 v79 h => ?_) (fun L3 => ?_)
   ·unfold zBS at h
    apply rL
    simp only [go_sem, seval]
    apply cS h <;> intro hb h
    ·simp only [go_sem, seval]
     apply bK
     refine bAt_s (AV.int .u32) .i64 ⟨272, 1, false, 4⟩ rfl 1 false false rfl h fun v86 _ e80 e81 e82 e83 e84 e85 h => ?_
     refine stB_s h fun v89 e87 e88 h => ?_
     refine shr_s h fun v92 _ b91 e90 h => ?_
     refine zAF h fun v94 _ e93 h => ?_
     simp only [go_sem, seval, e80, e81, e82, e83, e84, (zOR (s := 272) (k := .u32) io274 v86), (show intv .mul .u64 (IntKind.wrap .u64 v86) 10 = .int .u64 (IntKind.wrap .u64 ((IntKind.wrap .u64 v86) * 10)) from rfl), (show intv .add .u64 v77 (IntKind.wrap .u64 ((IntKind.wrap .u64 v86) * 10)) = .int .u64 (IntKind.wrap .u64 (v77 + (IntKind.wrap .u64 ((IntKind.wrap .u64 v86) * 10)))) from rfl), (zOR (s := 274) (k := .u64) io272 (IntKind.wrap .u64 (v77 + (IntKind.wrap .u64 ((IntKind.wrap .u64 v86) * 10))))), e85, e87, e90, Int.reduceLE, e93]
     exact zAc (ih3 v92 v94 v89 h) ⟨rfl, rfl, congrArg (fun n => AV.rs 1 0 n 1 false false) e88.symm, rfl, rfl, rfl, rfl, congrArg (fun n => AV.rs 1 0 n 1 false false) e88.symm, rfl, rfl, trivial⟩
    simp only [go_sem, seval]
    cases h
    exact atJ (wkn Jy58 ⟨rfl, rfl, rfl, rfl, rfl, rfl, rfl, trivial⟩)
   exact zAc (L3 (IntKind.wrap .u64 (IntKind.wrap .u8 (v57 - 48))) 0 v54 h) ⟨rfl, rfl, rfl, rfl, rfl, rfl, rfl, rfl, rfl, rfl, trivial⟩
  simp only [go_sem, seval]
  cases h
  exact atJ (wkn Jy2 ⟨rfl, rfl, rfl, trivial⟩)
 exact zAc (L1 0 [] h) ⟨rfl, rfl, rfl, rfl, rfl, rfl, trivial⟩
theorem zJ8 {s : Str} {r : Bool} (h : zEk s = some r) : zAe Tryz.prog 179 [.str s] [] (.bool r) [] := by
 refine aX hf179 ok179 zAg ?_
 dsimp only [Tryz.f179, nums, Option.getD, List.append]
 unfold zEk at h
 refine zAb h fun v1 hv1 h => ?_
 simp only [go_sem, seval]
 refine cX (zKR hv1) ?_
 simp only [go_sem, seval]
 exact rS .bool h
theorem zPh {n : tNd} {r : Bool} (h : zI4 n = some r) : zAe Tryz.prog 121 [zAu n] [] (.bool r) [] := by
 refine aX hf121 ok121 zAg ?_
 dsimp only [Tryz.f121, nums, Option.getD, List.append]
 unfold zI4 at h
 simp only [go_sem, seval]
 apply bK
 simp only [go_sem, seval]
 refine zAb h fun y1 hy1 h => ?_
 refine cndJ 145 10000 (fun w => w [(1, .ptr 0 0), (4, .int .u8 n.K), (5, .bool y1)] [hN n.K n.S n.N n.L n.Kids]) (runX 10000 ?_) (fun Jy1 => ?_)
 ·clear hy1
  simp only [go_sem, seval]
  apply cS h <;> intro hb h
  ·refine zAb h fun v9 hv9 h => ?_
   simp only [go_sem, seval]
   refine cX (zCB hv9) ?_
   simp only [go_sem, seval]
   exact rS .bool h
  simp only [go_sem, seval]
  apply cS h <;> intro hb h
  ·simp only [go_sem, seval]
   refine zAb h fun y10 hy10 h => ?_
   refine rgJ 145 10000 (.inl rfl) (fun w => w [(2, .bool y10)] [hN n.K n.S n.N n.L n.Kids]) (runX 10000 ?_) (fun Jy10 => ?_)
   ·clear hy10
    simp only [go_sem, seval]
    exact rS .bool h
   clear h
   have h := hy10
   refine zAb h fun v12 hv12 h => ?_
   simp only [go_sem, seval]
   refine cX (zCB hv12) ?_
   simp only [go_sem, seval]
   apply grd_ <;> intro hb13
   ·have h := zAk hb13 h
    refine zAb h fun v14 hv14 h => ?_
    simp only [go_sem, seval]
    refine cX (zJ8 hv14) ?_
    simp only [go_sem, seval]
    cases h
    exact atJ (wkn Jy10 ⟨rfl, trivial⟩)
   have h := zAj hb13 h
   simp only [go_sem, seval]
   cases h
   exact atJ (wkn Jy10 ⟨rfl, trivial⟩)
  simp only [go_sem, seval]
  apply cS h <;> intro hb h
  ·simp only [go_sem, seval]
   refine zAb h fun y15 hy15 h => ?_
   refine rgJ 145 10000 (.inl rfl) (fun w => w [(2, .bool y15)] [hN n.K n.S n.N n.L n.Kids]) (runX 10000 ?_) (fun Jy15 => ?_)
   ·clear hy15
    simp only [go_sem, seval]
    exact rS .bool h
   clear h
   have h := hy15
   refine zAb h fun v17 hv17 h => ?_
   simp only [go_sem, seval]
   refine cX (zCB hv17) ?_
   simp only [go_sem, seval]
   apply grd_ <;> intro hb18
   ·have h := zAk hb18 h
    simp only [go_sem, seval]
    cases h
    exact atJ (wkn Jy15 ⟨rfl, trivial⟩)
   have h := zAj hb18 h
   simp only [go_sem, seval]
   cases h
   exact atJ (wkn Jy15 ⟨rfl, trivial⟩)
  simp only [go_sem, seval]
  apply cS h <;> intro hb h
  ·simp only [go_sem, seval]
   refine zAb h fun y19 hy19 h => ?_
   refine rgJ 145 10000 (.inl rfl) (fun w => w [(2, .bool y19)] [hN n.K n.S n.N n.L n.Kids]) (runX 10000 ?_) (fun Jy19 => ?_)
   ·clear hy19
    simp only [go_sem, seval]
    exact rS .bool h
   clear h
   have h := hy19
   refine zAb h fun v21 hv21 h => ?_
   simp only [go_sem, seval]
   refine cX (zCB hv21) ?_
   simp only [go_sem, seval]
   apply grd_ <;> intro hb22
   ·have h := zAk hb22 h
    refine zAb h fun v23 hv23 h => ?_
    simp only [go_sem, seval]
    refine cX (zDq hv23) ?_
    simp only [go_sem, seval]
    apply grd_ <;> intro hb24
    ·have h := zAj hb24 h
     refine zAb h fun v25 hv25 h => ?_
     simp only [go_sem, seval]
     refine cX (zEH hv25) ?_
     simp only [go_sem, seval]
     cases h
     exact atJ (wkn Jy19 ⟨rfl, trivial⟩)
    have h := zAk hb24 h
    simp only [go_sem, seval]
    cases h
    exact atJ (wkn Jy19 ⟨rfl, trivial⟩)
   have h := zAj hb22 h
   simp only [go_sem, seval]
   cases h
   exact atJ (wkn Jy19 ⟨rfl, trivial⟩)
  simp only [go_sem, seval]
  apply cS h <;> intro hb h
  ·simp only [go_sem, seval]
   refine zAb h fun y26 hy26 h => ?_
   refine rgJ 145 10000 (.inl rfl) (fun w => w [(2, .bool y26)] [hN n.K n.S n.N n.L n.Kids]) (runX 10000 ?_) (fun Jy26 => ?_)
   ·clear hy26
    simp only [go_sem, seval]
    exact rS .bool h
   clear h
   have h := hy26
   refine zAb h fun v28 hv28 h => ?_
   simp only [go_sem, seval]
   refine cX (zCB hv28) ?_
   simp only [go_sem, seval]
   apply grd_ <;> intro hb29
   ·have h := zAk hb29 h
    refine zAb h fun v30 hv30 h => ?_
    simp only [go_sem, seval]
    refine cX (zDq hv30) ?_
    simp only [go_sem, seval]
    apply grd_ <;> intro hb31
    ·have h := zAk hb31 h
     simp only [go_sem, seval]
     cases h
     exact atJ (wkn Jy26 ⟨rfl, trivial⟩)
    have h := zAj hb31 h
    simp only [go_sem, seval]
    cases h
    exact atJ (wkn Jy26 ⟨rfl, trivial⟩)
   have h := zAj hb29 h
   simp only [go_sem, seval]
   cases h
   exact atJ (wkn Jy26 ⟨rfl, trivial⟩)
  simp only [go_sem, seval]
  apply cS h <;> intro hb h
  ·simp only [go_sem, seval]
   refine zAb h fun y32 hy32 h => ?_
   refine rgJ 145 10000 (.inl rfl) (fun w => w [(2, .bool y32)] [hN n.K n.S n.N n.L n.Kids]) (runX 10000 ?_) (fun Jy32 => ?_)
   ·clear hy32
    simp only [go_sem, seval]
    exact rS .bool h
   clear h
   have h := hy32
   refine zAb h fun v34 hv34 h => ?_
   simp only [go_sem, seval]
   refine cX (zCB hv34) ?_
   simp only [go_sem, seval]
   apply grd_ <;> intro hb35
   ·have h := zAk hb35 h
    refine zGs h fun v37 _ e36 h => ?_
    refine zAb h fun v38 hv38 h => ?_
    simp only [go_sem, seval, e36]
    refine cX (zFY hv38) ?_
    simp only [go_sem, seval]
    cases h
    exact atJ (wkn Jy32 ⟨rfl, trivial⟩)
   have h := zAj hb35 h
   simp only [go_sem, seval]
   cases h
   exact atJ (wkn Jy32 ⟨rfl, trivial⟩)
  simp only [go_sem, seval]
  apply cS h <;> intro hb h
  ·simp only [go_sem, seval]
   refine zAb h fun y39 hy39 h => ?_
   refine rgJ 145 10000 (.inl rfl) (fun w => w [(2, .bool y39)] [hN n.K n.S n.N n.L n.Kids]) (runX 10000 ?_) (fun Jy39 => ?_)
   ·clear hy39
    simp only [go_sem, seval]
    exact rS .bool h
   clear h
   have h := hy39
   refine zAb h fun v41 hv41 h => ?_
   simp only [go_sem, seval]
   refine cX (zCB hv41) ?_
   simp only [go_sem, seval]
   apply grd_ <;> intro hb42
   ·have h := zAk hb42 h
    simp only [go_sem, seval]
    apply grd_ <;> intro hb43
    ·have h := zAk hb43 h
     simp only [go_sem, seval]
     cases h
     exact atJ (wkn Jy39 ⟨rfl, trivial⟩)
    have h := zAj hb43 h
    simp only [go_sem, seval]
    cases h
    exact atJ (wkn Jy39 ⟨rfl, trivial⟩)
   have h := zAj hb42 h
   simp only [go_sem, seval]
   cases h
   exact atJ (wkn Jy39 ⟨rfl, trivial⟩)
  simp only [go_sem, seval]
  apply cS h <;> intro hb h
  ·simp only [go_sem, seval]
   refine zAb h fun y44 hy44 h => ?_
   refine rgJ 145 10000 (.inl rfl) (fun w => w [(2, .bool y44)] [hN n.K n.S n.N n.L n.Kids]) (runX 10000 ?_) (fun Jy44 => ?_)
   ·clear hy44
    simp only [go_sem, seval]
    exact rS .bool h
   clear h
   have h := hy44
   refine zAb h fun v46 hv46 h => ?_
   simp only [go_sem, seval]
   refine cX (zCB hv46) ?_
   simp only [go_sem, seval]
   apply grd_ <;> intro hb47
   ·have h := zAk hb47 h
    refine zAb h fun v48 hv48 h => ?_
    simp only [go_sem, seval]
    refine cX (zFY hv48) ?_
    simp only [go_sem, seval]
    cases h
    exact atJ (wkn Jy44 ⟨rfl, trivial⟩)
   have h := zAj hb47 h
   simp only [go_sem, seval]
   cases h
   exact atJ (wkn Jy44 ⟨rfl, trivial⟩)
  simp only [go_sem, seval]
  apply cS h <;> intro hb h
  ·simp only [go_sem, seval]
   refine zAb h fun y49 hy49 h => ?_
   refine rgJ 145 10000 (.inl rfl) (fun w => w [(2, .bool y49)] [hN n.K n.S n.N n.L n.Kids]) (runX 10000 ?_) (fun Jy49 => ?_)
   ·clear hy49
    simp only [go_sem, seval]
    exact rS .bool h
   clear h
   have h := hy49
   refine zAb h fun v51 hv51 h => ?_
   simp only [go_sem, seval]
   refine cX (zCB hv51) ?_
   simp only [go_sem, seval]
   apply grd_ <;> intro hb52
   ·have h := zAk hb52 h
    simp only [go_sem, seval]
    apply grd_ <;> intro hb53
    ·have h := zAk hb53 h
     simp only [go_sem, seval]
     apply grd_ <;> intro hb54
     ·have h := zAk hb54 h
      simp only [go_sem, seval]
      apply grd_ <;> intro hb55
      ·have h := zAk hb55 h
       simp only [go_sem, seval]
       apply grd_ <;> intro hb56
       ·have h := zAk hb56 h
        refine zAb h fun v57 hv57 h => ?_
        simp only [go_sem, seval]
        refine cX (zHp hv57) ?_
        simp only [go_sem, seval]
        cases h
        exact atJ (wkn Jy49 ⟨rfl, trivial⟩)
       have h := zAj hb56 h
       simp only [go_sem, seval]
       cases h
       exact atJ (wkn Jy49 ⟨rfl, trivial⟩)
      have h := zAj hb55 h
      simp only [go_sem, seval]
      cases h
      exact atJ (wkn Jy49 ⟨rfl, trivial⟩)
     have h := zAj hb54 h
     simp only [go_sem, seval]
     cases h
     exact atJ (wkn Jy49 ⟨rfl, trivial⟩)
    have h := zAj hb53 h
    simp only [go_sem, seval]
    cases h
    exact atJ (wkn Jy49 ⟨rfl, trivial⟩)
   have h := zAj hb52 h
   simp only [go_sem, seval]
   cases h
   exact atJ (wkn Jy49 ⟨rfl, trivial⟩)
  simp only [go_sem, seval]
  apply cS h <;> intro hb h
  ·simp only [go_sem, seval]
   refine zAb h fun y58 hy58 h => ?_
   refine rgJ 145 10000 (.inl rfl) (fun w => w [(2, .bool y58)] [hN n.K n.S n.N n.L n.Kids]) (runX 10000 ?_) (fun Jy58 => ?_)
   ·clear hy58
    simp only [go_sem, seval]
    exact rS .bool h
   clear h
   have h := hy58
   refine zAb h fun v60 hv60 h => ?_
   simp only [go_sem, seval]
   refine cX (zCB hv60) ?_
   simp only [go_sem, seval]
   apply grd_ <;> intro hb61
   ·have h := zAk hb61 h
    simp only [go_sem, seval]
    cases h
    exact atJ (wkn Jy58 ⟨rfl, trivial⟩)
   have h := zAj hb61 h
   simp only [go_sem, seval]
   cases h
   exact atJ (wkn Jy58 ⟨rfl, trivial⟩)
  simp only [go_sem, seval]
  exact rS .bool h
 clear h
 have h := hy1
 apply cS h <;> intro hb h
 ·simp only [go_sem, seval]
  cases h
  exact atJ (wkn Jy1 ⟨rfl, rfl, rfl, trivial⟩)
 simp only [go_sem, seval]
 refine zAb h fun y3 hy3 h => ?_
 refine cndJ 145 10000 (fun w => w [(1, .ptr 0 0), (4, .int .u8 n.K), (5, .bool y3)] [hN n.K n.S n.N n.L n.Kids]) (runX 10000 ?_) (fun Jy3 => ?_)
 ·clear hy3
  simp only [go_sem, seval]
  cases h
  exact atJ (wkn Jy1 ⟨rfl, rfl, rfl, trivial⟩)
 clear h
 have h := hy3
 apply cS h <;> intro hb h
 ·simp only [go_sem, seval]
  cases h
  exact atJ (wkn Jy3 ⟨rfl, rfl, rfl, trivial⟩)
 simp only [go_sem, seval]
 refine zAb h fun y5 hy5 h => ?_
 refine cndJ 145 10000 (fun w => w [(1, .ptr 0 0), (4, .int .u8 n.K), (5, .bool y5)] [hN n.K n.S n.N n.L n.Kids]) (runX 10000 ?_) (fun Jy5 => ?_)
 ·clear hy5
  simp only [go_sem, seval]
  cases h
  exact atJ (wkn Jy3 ⟨rfl, rfl, rfl, trivial⟩)
 clear h
 have h := hy5
 apply cS h <;> intro hb h
 ·simp only [go_sem, seval]
  cases h
  exact atJ (wkn Jy5 ⟨rfl, rfl, rfl, trivial⟩)
 simp only [go_sem, seval]
 refine zAb h fun y7 hy7 h => ?_
 refine cndJ 145 10000 (fun w => w [(1, .ptr 0 0), (4, .int .u8 n.K), (5, .bool y7)] [hN n.K n.S n.N n.L n.Kids]) (runX 10000 ?_) (fun Jy7 => ?_)
 ·clear hy7
  simp only [go_sem, seval]
  cases h
  exact atJ (wkn Jy5 ⟨rfl, rfl, rfl, trivial⟩)
 clear h
 have h := hy7
 apply cS h <;> intro hb h
 ·simp only [go_sem, seval]
  cases h
  exact atJ (wkn Jy7 ⟨rfl, rfl, rfl, trivial⟩)
 simp only [go_sem, seval]
 cases h
 exact atJ (wkn Jy7 ⟨rfl, rfl, rfl, trivial⟩)
theorem zKc {k : Int} {super : Bool} {msg : Bool} {up : Bool} {r : Bool} (h : zEp k super msg up = some r) : zAe Tryz.prog 122 [.int .u8 k, .bool super, .bool msg, .bool up] [] (.bool r) [] := by
 refine aX hf122 ok122 zAg ?_
 dsimp only [Tryz.f122, nums, Option.getD, List.append]
 unfold zEp at h
 simp only [go_sem, seval]
 apply bK
 simp only [go_sem, seval]
 apply cS h <;> intro hb h
 ·simp only [go_sem, seval]
  exact rS .bool h
 simp only [go_sem, seval]
 apply cS h <;> intro hb h
 ·simp only [go_sem, seval]
  exact rS .bool h
 simp only [go_sem, seval]
 apply cS h <;> intro hb h
 ·simp only [go_sem, seval]
  exact rS .bool h
 simp only [go_sem, seval]
 exact rS .bool h
theorem zLD {n : tNd} {i : Int} {r : (Bool × Bool × Bool)} (h : zFj n i = some r) : zAe Tryz.prog 123 [zAu n, .int .i64 i] [] (.tup [.bool r.1, .bool r.2.1, .bool r.2.2]) [] := by
 refine aX hf123 ok123 zAC ?_
 dsimp only [Tryz.f123, nums, Option.getD, List.append]
 unfold zFj at h
 simp only [go_sem, seval]
 apply bK
 simp only [go_sem, seval]
 apply cS h <;> intro hb h
 ·simp only [go_sem, seval]
  refine zBz (fun x => .tup [.bool x.1, .bool x.2.1, .bool x.2.2]) h ?_
  first | rfl | simp only [go_sem, zAo, zAh, zAi, seval]
 simp only [go_sem, seval]
 apply cS h <;> intro hb h
 ·simp only [go_sem, seval]
  refine zBz (fun x => .tup [.bool x.1, .bool x.2.1, .bool x.2.2]) h ?_
  first | rfl | simp only [go_sem, zAo, zAh, zAi, seval]
 simp only [go_sem, seval]
 apply cS h <;> intro hb h
 ·simp only [go_sem, seval]
  refine rg_ 10000 (.inr ⟨[], by kernel_rfl, by kernel_rfl, by rfl⟩) ?_
  refine zGs h fun v2 _ e1 h => ?_
  simp only [go_sem, seval, e1]
  refine zBz (fun x => .tup [.bool x.1, .bool x.2.1, .bool x.2.2]) h ?_
  first | rfl | simp only [go_sem, zAo, zAh, zAi, seval]
 simp only [go_sem, seval]
 refine zBz (fun x => .tup [.bool x.1, .bool x.2.1, .bool x.2.2]) h ?_
 first | rfl | simp only [go_sem, zAo, zAh, zAi, seval]
def zNr (rec : R_tWc) : Prop := (∀ (p0_w : tree_walk) (i : Int) (above : Int) (super : Bool) (msg : Bool) (up : Bool) (r : (Bool × tree_walk)), rec.tWc p0_w i above super msg up = some r → zAe Tryz.prog 66 [.ptr 0 0, .int .i64 i, .int .i64 above, .bool super, .bool msg, .bool up] [some [.sl none (List.map zAu p0_w.l), .int .i64 p0_w.next]] (.bool r.1) [some [.sl none (List.map zAu r.2.l), .int .i64 r.2.next]])
theorem w_tWc_b {rec : R_tWc} (hrec : zNr rec) {p0_w : tree_walk} {i : Int} {above : Int} {super : Bool} {msg : Bool} {up : Bool} {r : (Bool × tree_walk)} (h : zQI rec p0_w i above super msg up = some r) : zAe Tryz.prog 66 [.ptr 0 0, .int .i64 i, .int .i64 above, .bool super, .bool msg, .bool up] [some [.sl none (List.map zAu p0_w.l), .int .i64 p0_w.next]] (.bool r.1) [some [.sl none (List.map zAu r.2.l), .int .i64 r.2.next]] := by
 refine zCO 10000 hf66 ok66 (by first | rfl | simp only [go_sem]) zAg rfl (by first | rfl | simp only [go_sem, zCu]) ?_
 dsimp only [Tryz.f66, nums, Option.getD, List.append]
 unfold zQI at h
 simp only [go_sem, seval]
 refine zAb h fun y1 hy1 h => ?_
 refine rgJ 115 10000 (.inl rfl) (fun w => w [(0, .ptr 0 0), (1, .int .i64 i), (2, .int .i64 above), (63, .bool y1)] [some [.sl none (List.map zAu p0_w.l), .int .i64 p0_w.next]]) (runX 10000 ?_) (fun Jy1 => ?_)
 ·clear hy1
  simp only [go_sem, seval]
  apply cS h <;> intro hb h
  ·simp only [go_sem, seval]
   refine zCL (fun x => .bool x.1) (fun x => [some [.sl none (List.map zAu x.2.l), .int .i64 x.2.next]]) h ?_ ?_
   ·first | rfl | simp only [go_sem, zAo, zAh, zAi, seval]
   first | rfl | simp only [go_sem, zAo, zAh, zAi, seval]
  refine zAp zAu none .i64 ⟨59, 5, true, 80⟩ (fun _ => rfl) h fun v16 _ b14 e15 h => ?_
  simp only [go_sem, seval, b14, e15]
  refine zBq h fun K18 hK18 h => ?_
  refine blkJ 115 10000 (fun w => ∀ (v46 : tree_walk), K18 v46 = some r → w [(0, .ptr 0 0), (1, .int .i64 i)] [some [.sl none (List.map zAu v46.l), .int .i64 v46.next], hN v16.K v16.S v16.N v16.L v16.Kids]) (fun v46 h => runX 10000 ?_) (fun JK18 => ?_)
  ·subst hK18
   dsimp only at h
   refine zAF h fun v48 _ e47 h => ?_
   refine zGs h fun v50 _ e49 h => ?_
   simp only [go_sem, seval, e47, e49]
   refine zCL (fun x => .bool x.1) (fun x => [some [.sl none (List.map zAu x.2.l), .int .i64 x.2.next]]) h ?_ ?_
   ·first | rfl | simp only [go_sem, zAo, zAh, zAi, seval]
   first | rfl | simp only [go_sem, zAo, zAh, zAi, seval]
  clear hK18
  simp only [go_sem, seval]
  refine lpJ 115 fuel (fun q1 w => ∀ (v32 : Int) (v33 : tree_walk), zIL i above rec v16 K18 q1 v32 v33 = some r → w [(0, .ptr 0 0), (1, .int .i64 i), (2, .int .i64 above), (13, .ptr 1 0), (72, .sl none (List.map (AV.int .i64) v16.Kids)), (73, .int .i64 (v16.Kids.length : Int)), (74, .int .i64 v32)] [some [.sl none (List.map zAu v33.l), .int .i64 v33.next], hN v16.K v16.S v16.N v16.L v16.Kids]) (fun w _ _ h => nomatch h) (fun q1 ih1 v32 v33 h => ?_) (fun L1 => ?_)
  ·unfold zIL at h
   apply rL
   simp only [go_sem, seval]
   apply cS h <;> intro hb h
   ·simp only [go_sem, seval]
    apply bK
    refine zAp (AV.int .i64) none .i64 ⟨3, 1, false, 8⟩ (fun _ => rfl) h fun v36 _ b34 e35 h => ?_
    refine zAb h fun v37 hv37 h => ?_
    simp only [go_sem, seval, b34, e35]
    refine cX (zLD hv37) ?_
    simp only [go_sem, seval]
    refine zAb h fun y38 hy38 h => ?_
    refine rgJ 115 10000 (.inl rfl) (fun w => w [(0, .ptr 0 0), (1, .int .i64 i), (2, .int .i64 above), (13, .ptr 1 0), (72, .sl none (List.map (AV.int .i64) v16.Kids)), (73, .int .i64 (v16.Kids.length : Int)), (74, .int .i64 v32), (99, .bool y38.1)] [some [.sl none (List.map zAu y38.2.l), .int .i64 y38.2.next], hN v16.K v16.S v16.N v16.L v16.Kids]) (runX 10000 ?_) (fun Jy38 => ?_)
    ·clear hy38
     simp only [go_sem, seval]
     apply cS h <;> intro hb h
     ·simp only [go_sem, seval]
      refine zCL (fun x => .bool x.1) (fun x => [some [.sl none (List.map zAu x.2.l), .int .i64 x.2.next]]) h ?_ ?_
      ·first | rfl | simp only [go_sem, zAo, zAh, zAi, seval]
      first | rfl | simp only [go_sem, zAo, zAh, zAi, seval]
     refine zAF h fun v45 _ e44 h => ?_
     simp only [go_sem, seval, e44]
     exact zAc (ih1 v45 y38.2 h) ⟨rfl, rfl, rfl, rfl, rfl, rfl, rfl, trivial⟩
    clear h
    have h := hy38
    simp only [go_sem, seval]
    apply grd_ <;> intro hb40
    ·have h := zAj hb40 h
     refine zAF h fun v42 _ e41 h => ?_
     refine zAb h fun v43 hv43 h => ?_
     simp only [go_sem, seval, e41]
     refine cH [0] (hrec _ _ _ _ _ _ _ hv43) ?_
     simp only [go_sem, seval]
     cases h
     exact atJ (wkn Jy38 ⟨rfl, rfl, rfl, rfl, rfl, rfl, rfl, rfl, trivial⟩)
    have h := zAk hb40 h
    simp only [go_sem, seval]
    cases h
    exact atJ (wkn Jy38 ⟨rfl, rfl, rfl, rfl, rfl, rfl, rfl, rfl, trivial⟩)
   simp only [go_sem, seval]
   exact atJ (wkn (JK18 v33 h) ⟨rfl, rfl, trivial⟩)
  exact zAc (L1 0 p0_w h) ⟨rfl, rfl, rfl, rfl, rfl, rfl, rfl, trivial⟩
 clear h
 have h := hy1
 simp only [go_sem, seval]
 apply grd_ <;> intro hb3
 ·have h := zAj hb3 h
  simp only [go_sem, seval]
  apply grd_ <;> intro hb4
  ·have h := zAj hb4 h
   simp only [go_sem, seval]
   apply grd_ <;> intro hb5
   ·have h := zAj hb5 h
    refine zAp zAu none .i64 ⟨59, 5, true, 80⟩ (fun _ => rfl) h fun v8 _ b6 e7 h => ?_
    refine zAb h fun v9 hv9 h => ?_
    simp only [go_sem, seval, b6, e7]
    refine cX (zPh hv9) ?_
    simp only [go_sem, seval]
    apply grd_ <;> intro hb10
    ·have h := zAj hb10 h
     refine zAb h fun v13 hv13 h => ?_
     simp only [go_sem, seval, b6, e7]
     refine cX (zKc hv13) ?_
     simp only [go_sem, seval]
     cases h
     exact atJ (wkn Jy1 ⟨rfl, rfl, rfl, rfl, trivial⟩)
    have h := zAk hb10 h
    simp only [go_sem, seval]
    cases h
    exact atJ (wkn Jy1 ⟨rfl, rfl, rfl, rfl, trivial⟩)
   have h := zAk hb5 h
   simp only [go_sem, seval]
   cases h
   exact atJ (wkn Jy1 ⟨rfl, rfl, rfl, rfl, trivial⟩)
  have h := zAk hb4 h
  simp only [go_sem, seval]
  cases h
  exact atJ (wkn Jy1 ⟨rfl, rfl, rfl, rfl, trivial⟩)
 have h := zAk hb3 h
 simp only [go_sem, seval]
 cases h
 exact atJ (wkn Jy1 ⟨rfl, rfl, rfl, rfl, trivial⟩)
theorem zL5 : ∀ n, zNr (zHH n)
 | 0 => (fun _ _ _ _ _ _ _ h => nomatch h)
 | n+1 => fun _ _ _ _ _ _ _ h => w_tWc_b (zL5 n) h
theorem w_tWc {p0_w : tree_walk} {i : Int} {above : Int} {super : Bool} {msg : Bool} {up : Bool} {r : (Bool × tree_walk)} (h : tWc p0_w i above super msg up = some r) : zAe Tryz.prog 66 [.ptr 0 0, .int .i64 i, .int .i64 above, .bool super, .bool msg, .bool up] [some [.sl none (List.map zAu p0_w.l), .int .i64 p0_w.next]] (.bool r.1) [some [.sl none (List.map zAu r.2.l), .int .i64 r.2.next]] := (zL5 fuel) _ _ _ _ _ _ _ h
theorem zHQ {m : tMt} {r : (Option Int)} (h : zCC m = some r) : zAe Tryz.prog 26 [zA5 m] [] (encE 86 r) [] := by
 refine aX hf26 ok26 zLU ?_
 dsimp only [Tryz.f26, nums, Option.getD, List.append]
 unfold zCC at h
 refine zAb h fun v1 hv1 h => ?_
 simp only [go_sem, seval]
 refine cX (zHh hv1) ?_
 simp only [go_sem, seval]
 refine zAb h fun y2 hy2 h => ?_
 refine rgJ 76 10000 (.inl rfl) (fun w => w [(1, .ptr 0 0), (41, .bool y2)] [hM m]) (runX 10000 ?_) (fun Jy2 => ?_)
 ·clear hy2
  simp only [go_sem, seval]
  apply cS h <;> intro hb h
  ·simp only [go_sem, seval]
   exact rS (fun x => encE 86 x) h
  simp only [go_sem, seval]
  refine zBq h fun K11 hK11 h => ?_
  refine blkJ 76 10000 (fun w => ∀ (v31 : tree_walk), K11 v31 = some r → w [(1, .ptr 0 0), (4, .ptr 1 0)] [hM m, some [.sl none (List.map zAu v31.l), .int .i64 v31.next]]) (fun v31 h => runX 10000 ?_) (fun JK11 => ?_)
  ·subst hK11
   dsimp only at h
   simp only [go_sem, seval]
   refine rg_ 10000 (.inr ⟨[], by kernel_rfl, by kernel_rfl, by rfl⟩) ?_
   simp only [go_sem, seval]
   apply cS h <;> intro hb h
   ·simp only [go_sem, seval]
    exact rS (fun x => encE 86 x) h
   simp only [go_sem, seval]
   exact rS (fun x => encE 86 x) h
  clear hK11
  simp only [go_sem, seval]
  refine lpJ 76 fuel (fun q1 w => ∀ (v21 : Int) (v22 : tree_walk), zCr m K11 q1 v21 v22 = some r → w [(1, .ptr 0 0), (4, .ptr 1 0), (48, .sl none (List.map (AV.int .i64) m.Body)), (49, .int .i64 (m.Body.length : Int)), (50, .int .i64 v21)] [hM m, some [.sl none (List.map zAu v22.l), .int .i64 v22.next]]) (fun w _ _ h => nomatch h) (fun q1 ih1 v21 v22 h => ?_) (fun L1 => ?_)
  ·unfold zCr at h
   apply rL
   simp only [go_sem, seval]
   apply cS h <;> intro hb h
   ·simp only [go_sem, seval]
    apply bK
    refine zAp (AV.int .i64) none .i64 ⟨3, 1, false, 8⟩ (fun _ => rfl) h fun v25 _ b23 e24 h => ?_
    refine zGs h fun v27 _ e26 h => ?_
    refine zAb h fun v28 hv28 h => ?_
    simp only [go_sem, seval, b23, e24, e26]
    refine cH [1] (w_tWc hv28) ?_
    simp only [go_sem, seval]
    apply cS h <;> intro hb h
    ·simp only [go_sem, seval]
     exact rS (fun x => encE 86 x) h
    refine zAF h fun v30 _ e29 h => ?_
    simp only [go_sem, seval, e29]
    exact zAc (ih1 v30 v28.2 h) ⟨rfl, rfl, rfl, rfl, rfl, trivial⟩
   simp only [go_sem, seval]
   exact atJ (wkn (JK11 v22 h) ⟨rfl, rfl, trivial⟩)
  exact zAc (L1 0 (tree_walk.mk m.Nodes 0) h) ⟨rfl, rfl, rfl, rfl, rfl, trivial⟩
 clear h
 have h := hy2
 refine zAb h fun v4 hv4 h => ?_
 simp only [go_sem, seval]
 refine cX (zFY hv4) ?_
 simp only [go_sem, seval]
 apply grd_ <;> intro hb5
 ·have h := zAj hb5 h
  simp only [go_sem, seval]
  apply grd_ <;> intro hb6
  ·have h := zAj hb6 h
   refine zAb h fun v7 hv7 h => ?_
   simp only [go_sem, seval]
   refine cX (zHp hv7) ?_
   simp only [go_sem, seval]
   apply grd_ <;> intro hb8
   ·have h := zAj hb8 h
    simp only [go_sem, seval]
    apply grd_ <;> intro hb9
    ·have h := zAj hb9 h
     simp only [go_sem, seval]
     cases h
     exact atJ (wkn Jy2 ⟨rfl, rfl, trivial⟩)
    have h := zAk hb9 h
    simp only [go_sem, seval]
    cases h
    exact atJ (wkn Jy2 ⟨rfl, rfl, trivial⟩)
   have h := zAk hb8 h
   simp only [go_sem, seval]
   cases h
   exact atJ (wkn Jy2 ⟨rfl, rfl, trivial⟩)
  have h := zAk hb6 h
  simp only [go_sem, seval]
  cases h
  exact atJ (wkn Jy2 ⟨rfl, rfl, trivial⟩)
 have h := zAk hb5 h
 simp only [go_sem, seval]
 cases h
 exact atJ (wkn Jy2 ⟨rfl, rfl, trivial⟩)
theorem zHL {s : Str} {is : (Int → Option Bool)} (fv_is : FuncId) (hf_is : ∀ (a0 : Int) (z : Bool), is a0 = some z → zAe Tryz.prog fv_is [.int .u8 a0] [] (.bool z) []) {r : Int} (h : zFA s is = some r) : zAe Tryz.prog 151 [.str s, .fn (.func fv_is) [] []] [] (.int .i64 r) [] := by
 refine aX hf151 ok151 zC8 ?_
 dsimp only [Tryz.f151, nums, Option.getD, List.append]
 unfold zFA at h
 simp only [go_sem, seval]
 refine zAb h fun y1 hy1 h => ?_
 refine blkJ 20 10000 (fun w => w [(5, .int .i64 y1)] []) (runX 10000 ?_) (fun Jy1 => ?_)
 ·clear hy1
  simp only [go_sem, seval]
  exact rS (.int .i64) h
 clear h
 have h := hy1
 simp only [go_sem, seval]
 refine lpJ 20 fuel (fun q1 w => ∀ (v3 : Int), zCP s is q1 v3 = some y1 → w [(0, .str s), (1, .fn (.func fv_is) [] []), (5, .int .i64 v3)] []) (fun w _ h => nomatch h) (fun q1 ih1 v3 h => ?_) (fun L1 => ?_)
 ·unfold zCP at h
  apply rL
  simp only [go_sem, seval]
  refine zAb h fun y4 hy4 h => ?_
  refine rgJ 20 10000 (.inl rfl) (fun w => w [(0, .str s), (1, .fn (.func fv_is) [] []), (5, .int .i64 v3), (16, .bool y4)] []) (runX 10000 ?_) (fun Jy4 => ?_)
  ·clear hy4
   simp only [go_sem, seval]
   apply cS h <;> intro hb h
   ·simp only [go_sem, seval]
    apply bK
    refine zAF h fun v12 _ e11 h => ?_
    simp only [go_sem, seval, e11]
    exact zAc (ih1 v12 h) ⟨rfl, rfl, rfl, trivial⟩
   simp only [go_sem, seval]
   cases h
   exact atJ (wkn Jy1 ⟨rfl, trivial⟩)
  clear h
  have h := hy4
  simp only [go_sem, seval]
  apply grd_ <;> intro hb6
  ·have h := zAk hb6 h
   refine zCN .i64 h fun v9 _ b7 e8 h => ?_
   refine zAb h fun v10 hv10 h => ?_
   simp only [go_sem, seval, b7, e8]
   refine cX (hf_is _ _ hv10) ?_
   simp only [go_sem, seval]
   cases h
   exact atJ (wkn Jy4 ⟨rfl, rfl, rfl, rfl, trivial⟩)
  have h := zAj hb6 h
  simp only [go_sem, seval]
  cases h
  exact atJ (wkn Jy4 ⟨rfl, rfl, rfl, rfl, trivial⟩)
 exact zAc (L1 0 h) ⟨rfl, rfl, rfl, trivial⟩
theorem zPk {c : Int} {r : Bool} (h : zI7 c = some r) : zAe Tryz.prog 152 [.int .u8 c] [] (.bool r) [] := by
 refine aX hf152 ok152 zAg ?_
 dsimp only [Tryz.f152, nums, Option.getD, List.append]
 unfold zI7 at h
 refine zAb h fun v1 hv1 h => ?_
 simp only [go_sem, seval]
 refine cX (zEq hv1) ?_
 simp only [go_sem, seval]
 exact rS .bool h
theorem zHZ {c : Int} {r : Bool} (h : zEd c = some r) : zAe Tryz.prog 148 [.int .u8 c] [] (.bool r) [] := by
 refine aX hf148 ok148 zAg ?_
 dsimp only [Tryz.f148, nums, Option.getD, List.append]
 unfold zEd at h
 simp only [go_sem, seval]
 refine rgJ 17 10000 (.inl rfl) (fun w => w [(2, .bool (((decide ((97 : Int) ≤ c)) && (decide (c ≤ 122))) || ((decide ((65 : Int) ≤ c)) && (decide (c ≤ 90)))))] []) (runX 10000 ?_) (fun Jg1 => ?_)
 ·simp only [go_sem, seval]
  exact rS .bool h
 simp only [go_sem, seval]
 apply grd_ <;> intro hb2
 ·simp only [go_sem, seval]
  apply grd_ <;> intro hb3
  ·simp only [go_sem, seval]
   apply grd_ <;> intro hb4
   ·simp only [go_sem, seval]
    exact atJ (wkn Jg1 ⟨congrArg AV.bool (by first | rfl | (rw [hb2, hb3, hb4]; rfl) | (simp [hb2, hb3, hb4]; done) | simp_all), trivial⟩)
   simp only [go_sem, seval]
   exact atJ (wkn Jg1 ⟨congrArg AV.bool (by first | rfl | (rw [hb2, hb3, hb4]; rfl) | (simp [hb2, hb3, hb4]; done) | simp_all), trivial⟩)
  simp only [go_sem, seval]
  exact atJ (wkn Jg1 ⟨congrArg AV.bool (by first | rfl | (rw [hb2, hb3]; rfl) | (simp [hb2, hb3]; done) | simp_all), trivial⟩)
 simp only [go_sem, seval]
 apply grd_ <;> intro hb5
 ·simp only [go_sem, seval]
  exact atJ (wkn Jg1 ⟨congrArg AV.bool (by first | rfl | (rw [hb2, hb5]; rfl) | (simp [hb2, hb5]; done) | simp_all), trivial⟩)
 simp only [go_sem, seval]
 exact atJ (wkn Jg1 ⟨congrArg AV.bool (by first | rfl | (rw [hb2, hb5]; rfl) | (simp [hb2, hb5]; done) | simp_all), trivial⟩)
theorem zI9 {c : Int} {r : Bool} (h : zFa c = some r) : zAe Tryz.prog 150 [.int .u8 c] [] (.bool r) [] := by
 refine aX hf150 ok150 zAg ?_
 dsimp only [Tryz.f150, nums, Option.getD, List.append]
 unfold zFa at h
 simp only [go_sem, seval]
 refine rgJ 9 10000 (.inl rfl) (fun w => w [(2, .bool ((decide ((48 : Int) ≤ c)) && (decide (c ≤ 57))))] []) (runX 10000 ?_) (fun Jg1 => ?_)
 ·simp only [go_sem, seval]
  exact rS .bool h
 simp only [go_sem, seval]
 apply grd_ <;> intro hb2
 ·simp only [go_sem, seval]
  exact atJ (wkn Jg1 ⟨congrArg AV.bool (by first | rfl | (rw [hb2]; rfl) | (simp [hb2]; done) | simp_all), trivial⟩)
 simp only [go_sem, seval]
 exact atJ (wkn Jg1 ⟨congrArg AV.bool (by first | rfl | (rw [hb2]; rfl) | (simp [hb2]; done) | simp_all), trivial⟩)
theorem zLt {c : Int} {r : Bool} (h : zEX c = some r) : zAe Tryz.prog 196 [.int .u8 c] [] (.bool r) [] := by
 refine aX hf196 ok196 zAg ?_
 dsimp only [Tryz.f196, nums, Option.getD, List.append]
 unfold zEX at h
 simp only [go_sem, seval]
 refine zAb h fun y1 hy1 h => ?_
 refine rgJ 9 10000 (.inl rfl) (fun w => w [(2, .bool y1)] []) (runX 10000 ?_) (fun Jy1 => ?_)
 ·clear hy1
  simp only [go_sem, seval]
  exact rS .bool h
 clear h
 have h := hy1
 refine zAb h fun v3 hv3 h => ?_
 simp only [go_sem, seval]
 refine cX (zI9 hv3) ?_
 simp only [go_sem, seval]
 apply grd_ <;> intro hb4
 ·have h := zAj hb4 h
  refine zAb h fun v5 hv5 h => ?_
  simp only [go_sem, seval]
  refine cX (zHZ hv5) ?_
  simp only [go_sem, seval]
  cases h
  exact atJ (wkn Jy1 ⟨rfl, trivial⟩)
 have h := zAk hb4 h
 simp only [go_sem, seval]
 cases h
 exact atJ (wkn Jy1 ⟨rfl, trivial⟩)
theorem zML {s : Str} {r : Bool} (h : zGd s = some r) : zAe Tryz.prog 155 [.str s] [] (.bool r) [] := by
 refine aX hf155 ok155 zAg ?_
 dsimp only [Tryz.f155, nums, Option.getD, List.append]
 unfold zGd at h
 simp only [go_sem, seval]
 refine zAb h fun y1 hy1 h => ?_
 refine rgJ 22 10000 (.inl rfl) (fun w => w [(2, .bool y1)] []) (runX 10000 ?_) (fun Jy1 => ?_)
 ·clear hy1
  simp only [go_sem, seval]
  exact rS .bool h
 clear h
 have h := hy1
 simp only [go_sem, seval]
 apply grd_ <;> intro hb3
 ·have h := zAk hb3 h
  simp only [go_sem, seval]
  apply grd_ <;> intro hb4
  ·have h := zAk hb4 h
   refine zCN .i64 h fun v7 _ b5 e6 h => ?_
   refine zAb h fun v8 hv8 h => ?_
   simp only [go_sem, seval, b5, e6]
   refine cX (zHZ hv8) ?_
   simp only [go_sem, seval]
   apply grd_ <;> intro hb9
   ·have h := zAk hb9 h
    refine zAb h fun v10 hv10 h => ?_
    simp only [go_sem, seval]
    refine cX (zHL 196 (fun _ _ h => zLt h) hv10) ?_
    simp only [go_sem, seval]
    cases h
    exact atJ (wkn Jy1 ⟨rfl, trivial⟩)
   have h := zAj hb9 h
   simp only [go_sem, seval]
   cases h
   exact atJ (wkn Jy1 ⟨rfl, trivial⟩)
  have h := zAj hb4 h
  simp only [go_sem, seval]
  cases h
  exact atJ (wkn Jy1 ⟨rfl, trivial⟩)
 have h := zAj hb3 h
 simp only [go_sem, seval]
 cases h
 exact atJ (wkn Jy1 ⟨rfl, trivial⟩)
theorem zLz {s : Str} {r : Bool} (h : zFc s = some r) : zAe Tryz.prog 156 [.str s] [] (.bool r) [] := by
 refine aX hf156 ok156 zAg ?_
 dsimp only [Tryz.f156, nums, Option.getD, List.append]
 unfold zFc at h
 simp only [go_sem, seval]
 refine zAb h fun y1 hy1 h => ?_
 refine rgJ 27 10000 (.inl rfl) (fun w => w [(2, .bool y1)] []) (runX 10000 ?_) (fun Jy1 => ?_)
 ·clear hy1
  simp only [go_sem, seval]
  exact rS .bool h
 clear h
 have h := hy1
 simp only [go_sem, seval]
 apply grd_ <;> intro hb3
 ·have h := zAk hb3 h
  simp only [go_sem, seval]
  apply grd_ <;> intro hb4
  ·have h := zAk hb4 h
   refine zAb h fun v5 hv5 h => ?_
   simp only [go_sem, seval]
   refine cX (zHL 150 (fun _ _ h => zI9 h) hv5) ?_
   simp only [go_sem, seval]
   apply grd_ <;> intro hb6
   ·have h := zAk hb6 h
    refine zCN .i64 h fun v9 _ b7 e8 h => ?_
    simp only [go_sem, seval, b7, e8]
    apply grd_ <;> intro hb10
    ·have h := zAj hb10 h
     simp only [go_sem, seval]
     cases h
     exact atJ (wkn Jy1 ⟨rfl, trivial⟩)
    have h := zAk hb10 h
    simp only [go_sem, seval]
    cases h
    exact atJ (wkn Jy1 ⟨rfl, trivial⟩)
   have h := zAj hb6 h
   simp only [go_sem, seval]
   cases h
   exact atJ (wkn Jy1 ⟨rfl, trivial⟩)
  have h := zAj hb4 h
  simp only [go_sem, seval]
  cases h
  exact atJ (wkn Jy1 ⟨rfl, trivial⟩)
 have h := zAj hb3 h
 simp only [go_sem, seval]
 cases h
 exact atJ (wkn Jy1 ⟨rfl, trivial⟩)
theorem zP1 {p0_w : lWd} {r : Bool} (h : zIP p0_w = some r) : zAe Tryz.prog 102 [zAv p0_w] [] (.bool r) [] := by
 refine aX hf102 ok102 zAg ?_
 dsimp only [Tryz.f102, nums, Option.getD, List.append]
 unfold zIP at h
 simp only [go_sem, seval]
 apply cS h <;> intro hb h
 ·simp only [go_sem, seval]
  exact rS .bool h
 simp only [go_sem, seval]
 apply bK
 simp only [go_sem, seval]
 refine zAb h fun y1 hy1 h => ?_
 refine cndJ 54 10000 (fun w => w [(1, .ptr 0 0), (7, .int .u8 p0_w.K), (8, .bool y1)] [some [.int .u8 p0_w.K, .str p0_w.S, .int .i64 p0_w.At]]) (runX 10000 ?_) (fun Jy1 => ?_)
 ·clear hy1
  simp only [go_sem, seval]
  apply cS h <;> intro hb h
  ·refine zAb h fun v5 hv5 h => ?_
   simp only [go_sem, seval]
   refine cX (zML hv5) ?_
   simp only [go_sem, seval]
   exact rS .bool h
  simp only [go_sem, seval]
  apply cS h <;> intro hb h
  ·simp only [go_sem, seval]
   refine zAb h fun y6 hy6 h => ?_
   refine rgJ 54 10000 (.inr ⟨[], by kernel_rfl, by kernel_rfl, by rfl⟩) (fun w => w [(2, .bool y6)] [some [.int .u8 p0_w.K, .str p0_w.S, .int .i64 p0_w.At]]) (runX 10000 ?_) (fun Jy6 => ?_)
   ·clear hy6
    simp only [go_sem, seval]
    exact rS .bool h
   clear h
   have h := hy6
   simp only [go_sem, seval]
   apply grd_ <;> intro hb8
   ·have h := zAk hb8 h
    simp only [go_sem, seval]
    apply grd_ <;> intro hb9
    ·have h := zAk hb9 h
     refine zAb h fun v10 hv10 h => ?_
     simp only [go_sem, seval]
     refine cX (zHL 152 (fun _ _ h => zPk h) hv10) ?_
     simp only [go_sem, seval]
     cases h
     exact atJ (wkn Jy6 ⟨rfl, trivial⟩)
    have h := zAj hb9 h
    simp only [go_sem, seval]
    cases h
    exact atJ (wkn Jy6 ⟨rfl, trivial⟩)
   have h := zAj hb8 h
   simp only [go_sem, seval]
   cases h
   exact atJ (wkn Jy6 ⟨rfl, trivial⟩)
  simp only [go_sem, seval]
  apply cS h <;> intro hb h
  ·refine zAb h fun v11 hv11 h => ?_
   simp only [go_sem, seval]
   refine cX (zLz hv11) ?_
   simp only [go_sem, seval]
   exact rS .bool h
  simp only [go_sem, seval]
  apply cS h <;> intro hb h
  ·simp only [go_sem, seval]
   exact rS .bool h
  simp only [go_sem, seval]
  refine rgJ 54 10000 (.inl rfl) (fun w => w [(2, .bool ((decide (p0_w.K ≤ 16)) && (p0_w.S == [])))] [some [.int .u8 p0_w.K, .str p0_w.S, .int .i64 p0_w.At]]) (runX 10000 ?_) (fun Jg12 => ?_)
  ·simp only [go_sem, seval]
   exact rS .bool h
  simp only [go_sem, seval]
  apply grd_ <;> intro hb13
  ·simp only [go_sem, seval]
   exact atJ (wkn Jg12 ⟨congrArg AV.bool (by first | rfl | (rw [hb13]; rfl) | (simp [hb13]; done) | simp_all), trivial⟩)
  simp only [go_sem, seval]
  exact atJ (wkn Jg12 ⟨congrArg AV.bool (by first | rfl | (rw [hb13]; rfl) | (simp [hb13]; done) | simp_all), trivial⟩)
 clear h
 have h := hy1
 apply cS h <;> intro hb h
 ·simp only [go_sem, seval]
  cases h
  exact atJ (wkn Jy1 ⟨rfl, rfl, rfl, trivial⟩)
 simp only [go_sem, seval]
 refine zAb h fun y3 hy3 h => ?_
 refine cndJ 54 10000 (fun w => w [(1, .ptr 0 0), (7, .int .u8 p0_w.K), (8, .bool y3)] [some [.int .u8 p0_w.K, .str p0_w.S, .int .i64 p0_w.At]]) (runX 10000 ?_) (fun Jy3 => ?_)
 ·clear hy3
  simp only [go_sem, seval]
  cases h
  exact atJ (wkn Jy1 ⟨rfl, rfl, rfl, trivial⟩)
 clear h
 have h := hy3
 apply cS h <;> intro hb h
 ·simp only [go_sem, seval]
  cases h
  exact atJ (wkn Jy3 ⟨rfl, rfl, rfl, trivial⟩)
 simp only [go_sem, seval]
 cases h
 exact atJ (wkn Jy3 ⟨rfl, rfl, rfl, trivial⟩)
theorem zMZ {p0_w : lWd} {r : Str} (h : zF4 p0_w = some r) : zAe Tryz.prog 103 [zAv p0_w] [] (.str r) [] := by
 refine aX hf103 ok103 zKi ?_
 dsimp only [Tryz.f103, nums, Option.getD, List.append]
 unfold zF4 at h
 simp only [go_sem, seval]
 apply bK
 simp only [go_sem, seval]
 apply cS h <;> intro hb h
 ·refine cat_s h fun v3 _ (b1 : p0_w.S.length + 1 ≤ maxB) e2 h => ?_
  simp only [go_sem, seval, b1, e2]
  exact rS .str h
 simp only [go_sem, seval]
 apply cS h <;> intro hb h
 ·refine cat_s h fun v6 _ (b4 : 1 + p0_w.S.length ≤ maxB) e5 h => ?_
  simp only [go_sem, seval, b4, e5]
  exact rS .str h
 simp only [go_sem, seval]
 apply cS h <;> intro hb h
 ·refine zAb h fun v7 hv7 h => ?_
  simp only [go_sem, seval]
  refine cX (zGt hv7) ?_
  refine cat_s h fun v10 _ (b8 : 1 + v7.length ≤ maxB) e9 h => ?_
  refine cat_s h fun v13 _ (b11 : v10.length + 1 ≤ maxB) e12 h => ?_
  simp only [go_sem, seval, b8, e9, b11, e12]
  exact rS .str h
 simp only [go_sem, seval]
 apply cS h <;> intro hb h
 ·simp only [go_sem, seval]
  exact rS .str h
 simp only [go_sem, seval]
 refine zAb h fun y14 hy14 h => ?_
 refine cndJ 38 10000 (fun w => w [(1, .ptr 0 0), (24, .bool y14)] [some [.int .u8 p0_w.K, .str p0_w.S, .int .i64 p0_w.At]]) (runX 10000 ?_) (fun Jy14 => ?_)
 ·clear hy14
  simp only [go_sem, seval]
  apply cS h <;> intro hb h
  ·simp only [go_sem, seval]
   exact rS .str h
  refine zH2 (some (.int .u8 (IntKind.wrap .u8 (p0_w.K - 7)))) (some (.int .u8 (IntKind.wrap .u8 ((IntKind.wrap .u8 (p0_w.K - 7)) + 1)))) rfl rfl h fun v20 _ b18 e19 h => ?_
  simp only [go_sem, seval, (show intv .sub .u8 p0_w.K 7 = .int .u8 (IntKind.wrap .u8 (p0_w.K - 7)) from rfl), (show intv .sub .u8 p0_w.K 7 = .int .u8 (IntKind.wrap .u8 (p0_w.K - 7)) from rfl), (show intv .add .u8 (IntKind.wrap .u8 (p0_w.K - 7)) 1 = .int .u8 (IntKind.wrap .u8 ((IntKind.wrap .u8 (p0_w.K - 7)) + 1)) from rfl), b18, e19]
  exact rS .str h
 clear h
 have h := hy14
 apply cS h <;> intro hb h
 ·simp only [go_sem, seval]
  cases h
  exact atJ (wkn Jy14 ⟨rfl, rfl, trivial⟩)
 simp only [go_sem, seval]
 refine zAb h fun y16 hy16 h => ?_
 refine cndJ 38 10000 (fun w => w [(1, .ptr 0 0), (24, .bool y16)] [some [.int .u8 p0_w.K, .str p0_w.S, .int .i64 p0_w.At]]) (runX 10000 ?_) (fun Jy16 => ?_)
 ·clear hy16
  simp only [go_sem, seval]
  cases h
  exact atJ (wkn Jy14 ⟨rfl, rfl, trivial⟩)
 clear h
 have h := hy16
 apply cS h <;> intro hb h
 ·simp only [go_sem, seval]
  cases h
  exact atJ (wkn Jy16 ⟨rfl, rfl, trivial⟩)
 simp only [go_sem, seval]
 cases h
 exact atJ (wkn Jy16 ⟨rfl, rfl, trivial⟩)
theorem zJS {l : (List lWd)} {r : (Str × (Option Int))} (h : zD4 l = some r) : zAe Tryz.prog 51 [.sl none (List.map zAv l)] [] (.tup [.str r.1, encE 86 r.2]) [] := by
 refine aX hf51 ok51 zAC ?_
 dsimp only [Tryz.f51, nums, Option.getD, List.append]
 unfold zD4 at h
 simp only [go_sem, seval]
 refine zBq h fun K2 hK2 h => ?_
 refine blkJ 45 10000 (fun w => K2 () = some r → w [(0, .sl none (List.map zAv l))] []) (fun h => runX 10000 ?_) (fun JK2 => ?_)
 ·subst hK2
  dsimp only at h
  simp only [go_sem, seval]
  refine zBq h fun K11 hK11 h => ?_
  refine blkJ 45 10000 (fun w => ∀ (v28 : (List Str)), K11 v28 = some r → w [(7, .sl (some none) (List.map AV.str v28))] []) (fun v28 h => runX 10000 ?_) (fun JK11 => ?_)
  ·subst hK11
   dsimp only at h
   refine zAb h fun v29 hv29 h => ?_
   simp only [go_sem, seval]
   refine cX (zJq hv29) ?_
   simp only [go_sem, seval]
   refine zBz (fun x => .tup [.str x.1, encE 86 x.2]) h ?_
   first | rfl | simp only [go_sem, zAo, zAh, zAi, seval]
  clear hK11
  simp only [go_sem, seval]
  refine lpJ 45 fuel (fun q2 w => ∀ (v12 : Int) (v13 : (List Str)) (v14 : Int), zDd l K11 q2 v12 v13 v14 = some r → w [(6, .int .i64 v12), (7, .sl (some none) (List.map AV.str v13)), (22, .sl none (List.map zAv l)), (23, .int .i64 (l.length : Int)), (24, .int .i64 v14)] []) (fun w _ _ _ h => nomatch h) (fun q2 ih2 v12 v13 v14 h => ?_) (fun L2 => ?_)
  ·unfold zDd at h
   apply rL
   simp only [go_sem, seval]
   apply cS h <;> intro hb h
   ·simp only [go_sem, seval]
    apply bK
    refine zAp zAv none .i64 ⟨74, 3, true, 32⟩ (fun _ => rfl) h fun v17 _ b15 e16 h => ?_
    refine zAb h fun v18 hv18 h => ?_
    simp only [go_sem, seval, b15, e16]
    refine cX (zMZ hv18) ?_
    refine zAF h fun v20 _ e19 h => ?_
    refine zAF h fun v22 _ e21 h => ?_
    simp only [go_sem, seval, e19, e21]
    apply cS h <;> intro hb h
    ·simp only [go_sem, seval]
     refine zBz (fun x => .tup [.str x.1, encE 86 x.2]) h ?_
     first | rfl | simp only [go_sem, zAo, zAh, zAi, seval]
    refine zAQ AV.str (some none) ⟨9, 1, false, 16⟩ (fun _ => rfl) (by decide) rfl h fun v25 _ (b23 : appc ⟨9, 1, false, 16⟩ (.sl (some none) (List.map AV.str v13)) (.sl (some none) [.str v18])) (e24 : appv (.sl (some none) (List.map AV.str v13)) (.sl (some none) [.str v18]) = .sl (some none) (List.map AV.str v25)) h => ?_
    refine zAF h fun v27 _ e26 h => ?_
    simp only [go_sem, seval, b23, e24, e26]
    exact zDx 0 (ih2 v22 v25 v27 h) ⟨rfl, rfl, rfl, rfl, rfl, trivial⟩ rfl rfl rfl (by first | rfl | simp only [go_sem, ltF]) (by first | rfl | simp only [go_sem, zCu])
   simp only [go_sem, seval]
   exact atJ (wkn (JK11 v13 h) ⟨rfl, trivial⟩)
  exact zAc (L2 0 [] 0 h) ⟨rfl, rfl, rfl, rfl, rfl, trivial⟩
 clear hK2
 simp only [go_sem, seval]
 refine lpJ 45 fuel (fun q1 w => ∀ (v3 : Int), zBU l K2 q1 v3 = some r → w [(0, .sl none (List.map zAv l)), (11, .sl none (List.map zAv l)), (12, .int .i64 (l.length : Int)), (13, .int .i64 v3)] []) (fun w _ h => nomatch h) (fun q1 ih1 v3 h => ?_) (fun L1 => ?_)
 ·unfold zBU at h
  apply rL
  simp only [go_sem, seval]
  apply cS h <;> intro hb h
  ·simp only [go_sem, seval]
   apply bK
   refine zAp zAv none .i64 ⟨74, 3, true, 32⟩ (fun _ => rfl) h fun v6 _ b4 e5 h => ?_
   refine zAb h fun v7 hv7 h => ?_
   simp only [go_sem, seval, b4, e5]
   refine cX (zP1 hv7) ?_
   simp only [go_sem, seval]
   apply cS h <;> intro hb h
   ·simp only [go_sem, seval]
    refine zBz (fun x => .tup [.str x.1, encE 86 x.2]) h ?_
    first | rfl | simp only [go_sem, zAo, zAh, zAi, seval]
   refine zAF h fun v9 _ e8 h => ?_
   simp only [go_sem, seval, e8]
   exact zDx 0 (ih1 v9 h) ⟨rfl, rfl, rfl, rfl, trivial⟩ rfl rfl rfl (by first | rfl | simp only [go_sem, ltF]) (by first | rfl | simp only [go_sem, zCu])
  simp only [go_sem, seval]
  exact atJ (wkn (JK2 h) ⟨rfl, trivial⟩)
 exact zAc (L1 0 h) ⟨rfl, rfl, rfl, rfl, trivial⟩
theorem zAZ {p0_w : pwr} {k : Int} {s : Str} {r : pwr} (h : zAR p0_w k s = some r) : zAe Tryz.prog 57 [.ptr 0 0, .int .u8 k, .str s] [hW p0_w] (.tup []) [hW r] := by
 refine zCO 10000 hf57 ok57 (by first | rfl | simp only [go_sem]) zAC rfl (by first | rfl | simp only [go_sem, zCu]) ?_
 dsimp only [Tryz.f57, nums, Option.getD, List.append]
 unfold zAR at h
 refine zAQ zAv (some none) ⟨74, 3, true, 32⟩ (fun _ => rfl) (by decide) rfl h fun v3 _ (b1 : appc ⟨74, 3, true, 32⟩ (.sl (some none) (List.map zAv p0_w.l)) (.sl (some none) [.agg [.int .u8 k, .str s, .int .i64 0]])) (e2 : appv (.sl (some none) (List.map zAv p0_w.l)) (.sl (some none) [.agg [.int .u8 k, .str s, .int .i64 0]]) = .sl (some none) (List.map zAv v3)) h => ?_
 simp only [go_sem, seval, b1, e2]
 refine zEo (zCL (fun x => .tup []) (fun x => [hW x]) h ?_ ?_)
 ·first | rfl | simp only [go_sem, zAo, zAh, zAi, seval]
 first | rfl | simp only [go_sem, zAo, zAh, zAi, seval]
theorem zFB {p0_w : pwr} {k : Int} {s : Str} {r : pwr} (h : zAR p0_w k s = some r) : zAe Tryz.prog 57 [.ptr 0 0, .int .u8 k, .str s] [hT p0_w] (.tup []) [hT r] := by
 refine zCO 10000 hf57 ok57 (by first | rfl | simp only [go_sem]) zAC rfl (by first | rfl | simp only [go_sem, zCu]) ?_
 dsimp only [Tryz.f57, nums, Option.getD, List.append]
 unfold zAR at h
 refine zNW (E := (74, 3)) zAv (some none) ⟨74, 3, true, 32⟩ (fun _ => rfl) (by decide) ⟨rfl, by first | exact .inl rfl | exact .inr rfl⟩ rfl h fun v3 _ (b1 : appc ⟨74, 3, true, 32⟩ (.sl (some (some (74, 3))) (List.map zAv p0_w.l)) (.sl (some none) [.agg [.int .u8 k, .str s, .int .i64 0]])) (e2 : appv (.sl (some (some (74, 3))) (List.map zAv p0_w.l)) (.sl (some none) [.agg [.int .u8 k, .str s, .int .i64 0]]) = .sl (some (some (74, 3))) (List.map zAv v3)) h => ?_
 simp only [go_sem, seval, b1, e2]
 refine zEo (zCL (fun x => .tup []) (fun x => [hT x]) h ?_ ?_)
 ·first | rfl | simp only [go_sem, zAo, zAh, zAi, seval]
 first | rfl | simp only [go_sem, zAo, zAh, zAi, seval]
theorem zB5 {p0_w : pwr} {kinds : (List Int)} {r : pwr} (h : zBP p0_w kinds = some r) : zAe Tryz.prog 59 [.ptr 0 0, .sl none (List.map (AV.int .u8) kinds)] [hW p0_w] (.tup []) [hW r] := by
 refine zCO 10000 hf59 ok59 (by first | rfl | simp only [go_sem]) zAC rfl (by first | rfl | simp only [go_sem, zCu]) ?_
 dsimp only [Tryz.f59, nums, Option.getD, List.append]
 unfold zBP at h
 simp only [go_sem, seval]
 refine zAb h fun y1 hy1 h => ?_
 refine blkJ 24 10000 (fun w => w [] [some [.str p0_w.m.Sel, .sl none (List.map AV.str p0_w.m.Args), .sl none (List.map AV.str p0_w.m.Temps), .sl none (List.map zAu p0_w.m.Nodes), .sl none (List.map (AV.int .i64) p0_w.m.Body), .sl (some none) (List.map zAv y1)]]) (runX 10000 ?_) (fun Jy1 => ?_)
 ·clear hy1
  simp only [go_sem, seval]
  refine zEo (zCL (fun x => .tup []) (fun x => [hW x]) h ?_ ?_)
  ·first | rfl | simp only [go_sem, zAo, zAh, zAi, seval]
  first | rfl | simp only [go_sem, zAo, zAh, zAi, seval]
 clear h
 have h := hy1
 simp only [go_sem, seval]
 refine lpJ 24 fuel (fun q1 w => ∀ (v12 : Int) (v13 : (List lWd)), zCV kinds q1 v12 v13 = some y1 → w [(0, .ptr 0 0), (6, .sl none (List.map (AV.int .u8) kinds)), (7, .int .i64 (kinds.length : Int)), (8, .int .i64 v12)] [some [.str p0_w.m.Sel, .sl none (List.map AV.str p0_w.m.Args), .sl none (List.map AV.str p0_w.m.Temps), .sl none (List.map zAu p0_w.m.Nodes), .sl none (List.map (AV.int .i64) p0_w.m.Body), .sl (some none) (List.map zAv v13)]]) (fun w _ _ h => nomatch h) (fun q1 ih1 v12 v13 h => ?_) (fun L1 => ?_)
 ·unfold zCV at h
  apply rL
  simp only [go_sem, seval]
  apply cS h <;> intro hb h
  ·simp only [go_sem, seval]
   apply bK
   refine zAp (AV.int .u8) none .i64 ⟨5, 1, false, 1⟩ (fun _ => rfl) h fun v16 _ b14 e15 h => ?_
   refine zAQ zAv (some none) ⟨74, 3, true, 32⟩ (fun _ => rfl) (by decide) rfl h fun v19 _ (b17 : appc ⟨74, 3, true, 32⟩ (.sl (some none) (List.map zAv v13)) (.sl (some none) [.agg [.int .u8 v16, .str [], .int .i64 0]])) (e18 : appv (.sl (some none) (List.map zAv v13)) (.sl (some none) [.agg [.int .u8 v16, .str [], .int .i64 0]]) = .sl (some none) (List.map zAv v19)) h => ?_
   refine zAF h fun v21 _ e20 h => ?_
   simp only [go_sem, seval, b14, e15, b17, e18, e20]
   exact zAc (ih1 v21 v19 h) ⟨rfl, rfl, rfl, rfl, trivial⟩
  simp only [go_sem, seval]
  cases h
  exact atJ (wkn Jy1 trivial)
 exact zAc (L1 0 p0_w.l h) ⟨rfl, rfl, rfl, rfl, trivial⟩
theorem zGm {p0_w : pwr} {kinds : (List Int)} {r : pwr} (h : zBP p0_w kinds = some r) : zAe Tryz.prog 59 [.ptr 0 0, .sl none (List.map (AV.int .u8) kinds)] [hT p0_w] (.tup []) [hT r] := by
 refine zCO 10000 hf59 ok59 (by first | rfl | simp only [go_sem]) zAC rfl (by first | rfl | simp only [go_sem, zCu]) ?_
 dsimp only [Tryz.f59, nums, Option.getD, List.append]
 unfold zBP at h
 simp only [go_sem, seval]
 refine zAb h fun y1 hy1 h => ?_
 refine blkJ 24 10000 (fun w => w [] [some [.str p0_w.m.Sel, .sl none (List.map AV.str p0_w.m.Args), .sl none (List.map AV.str p0_w.m.Temps), .sl none (List.map zAu p0_w.m.Nodes), .sl none (List.map (AV.int .i64) p0_w.m.Body), .sl (some (some (74, 3))) (List.map zAv y1)]]) (runX 10000 ?_) (fun Jy1 => ?_)
 ·clear hy1
  simp only [go_sem, seval]
  refine zEo (zCL (fun x => .tup []) (fun x => [hT x]) h ?_ ?_)
  ·first | rfl | simp only [go_sem, zAo, zAh, zAi, seval]
  first | rfl | simp only [go_sem, zAo, zAh, zAi, seval]
 clear h
 have h := hy1
 simp only [go_sem, seval]
 refine lpJ 24 fuel (fun q1 w => ∀ (v12 : Int) (v13 : (List lWd)), zCV kinds q1 v12 v13 = some y1 → w [(0, .ptr 0 0), (6, .sl none (List.map (AV.int .u8) kinds)), (7, .int .i64 (kinds.length : Int)), (8, .int .i64 v12)] [some [.str p0_w.m.Sel, .sl none (List.map AV.str p0_w.m.Args), .sl none (List.map AV.str p0_w.m.Temps), .sl none (List.map zAu p0_w.m.Nodes), .sl none (List.map (AV.int .i64) p0_w.m.Body), .sl (some (some (74, 3))) (List.map zAv v13)]]) (fun w _ _ h => nomatch h) (fun q1 ih1 v12 v13 h => ?_) (fun L1 => ?_)
 ·unfold zCV at h
  apply rL
  simp only [go_sem, seval]
  apply cS h <;> intro hb h
  ·simp only [go_sem, seval]
   apply bK
   refine zAp (AV.int .u8) none .i64 ⟨5, 1, false, 1⟩ (fun _ => rfl) h fun v16 _ b14 e15 h => ?_
   refine zNW (E := (74, 3)) zAv (some none) ⟨74, 3, true, 32⟩ (fun _ => rfl) (by decide) ⟨rfl, by first | exact .inl rfl | exact .inr rfl⟩ rfl h fun v19 _ (b17 : appc ⟨74, 3, true, 32⟩ (.sl (some (some (74, 3))) (List.map zAv v13)) (.sl (some none) [.agg [.int .u8 v16, .str [], .int .i64 0]])) (e18 : appv (.sl (some (some (74, 3))) (List.map zAv v13)) (.sl (some none) [.agg [.int .u8 v16, .str [], .int .i64 0]]) = .sl (some (some (74, 3))) (List.map zAv v19)) h => ?_
   refine zAF h fun v21 _ e20 h => ?_
   simp only [go_sem, seval, b14, e15, b17, e18, e20]
   exact zAc (ih1 v21 v19 h) ⟨rfl, rfl, rfl, rfl, trivial⟩
  simp only [go_sem, seval]
  cases h
  exact atJ (wkn Jy1 trivial)
 exact zAc (L1 0 p0_w.l h) ⟨rfl, rfl, rfl, rfl, trivial⟩
theorem zJF {p0_w : pwr} {l : (List Str)} {r : pwr} (h : zD8 p0_w l = some r) : zAe Tryz.prog 58 [.ptr 0 0, .sl none (List.map AV.str l)] [hW p0_w] (.tup []) [hW r] := by
 refine zCO 10000 hf58 ok58 (by first | rfl | simp only [go_sem]) zAC rfl (by first | rfl | simp only [go_sem, zCu]) ?_
 dsimp only [Tryz.f58, nums, Option.getD, List.append]
 unfold zD8 at h
 simp only [go_sem, seval]
 apply cS h <;> intro hb h
 ·simp only [go_sem, seval]
  refine zCL (fun x => .tup []) (fun x => [hW x]) h ?_ ?_
  ·first | rfl | simp only [go_sem, zAo, zAh, zAi, seval]
  first | rfl | simp only [go_sem, zAo, zAh, zAi, seval]
 refine zAb h fun v1 hv1 h => ?_
 simp only [go_sem, seval]
 refine cH [0] (zB5 hv1) ?_
 simp only [go_sem, seval]
 refine zAb h fun y2 hy2 h => ?_
 refine blkJ 25 10000 (fun w => w [(0, .ptr 0 0)] [hW y2]) (runX 10000 ?_) (fun Jy2 => ?_)
 ·clear hy2
  refine zAb h fun v19 hv19 h => ?_
  simp only [go_sem, seval]
  refine cH [0] (zB5 hv19) ?_
  simp only [go_sem, seval]
  refine zEo (zCL (fun x => .tup []) (fun x => [hW x]) h ?_ ?_)
  ·first | rfl | simp only [go_sem, zAo, zAh, zAi, seval]
  first | rfl | simp only [go_sem, zAo, zAh, zAi, seval]
 clear h
 have h := hy2
 simp only [go_sem, seval]
 refine lpJ 25 fuel (fun q1 w => ∀ (v11 : Int) (v12 : pwr), zCm l q1 v11 v12 = some y2 → w [(0, .ptr 0 0), (12, .sl none (List.map AV.str l)), (13, .int .i64 (l.length : Int)), (14, .int .i64 v11)] [hW v12]) (fun w _ _ h => nomatch h) (fun q1 ih1 v11 v12 h => ?_) (fun L1 => ?_)
 ·unfold zCm at h
  apply rL
  simp only [go_sem, seval]
  apply cS h <;> intro hb h
  ·simp only [go_sem, seval]
   apply bK
   refine zAp AV.str none .i64 ⟨9, 1, false, 16⟩ (fun _ => rfl) h fun v15 _ b13 e14 h => ?_
   refine zAb h fun v16 hv16 h => ?_
   simp only [go_sem, seval, b13, e14]
   refine cH [0] (zAZ hv16) ?_
   refine zAF h fun v18 _ e17 h => ?_
   simp only [go_sem, seval, e17]
   exact zAc (ih1 v18 v16 h) ⟨rfl, rfl, rfl, rfl, trivial⟩
  simp only [go_sem, seval]
  cases h
  exact atJ (wkn Jy2 ⟨rfl, trivial⟩)
 exact zAc (L1 0 v1 h) ⟨rfl, rfl, rfl, rfl, trivial⟩
theorem zMu {p0_w : pwr} {l : (List Str)} {r : pwr} (h : zD8 p0_w l = some r) : zAe Tryz.prog 58 [.ptr 0 0, .sl none (List.map AV.str l)] [hT p0_w] (.tup []) [hT r] := by
 refine zCO 10000 hf58 ok58 (by first | rfl | simp only [go_sem]) zAC rfl (by first | rfl | simp only [go_sem, zCu]) ?_
 dsimp only [Tryz.f58, nums, Option.getD, List.append]
 unfold zD8 at h
 simp only [go_sem, seval]
 apply cS h <;> intro hb h
 ·simp only [go_sem, seval]
  refine zCL (fun x => .tup []) (fun x => [hT x]) h ?_ ?_
  ·first | rfl | simp only [go_sem, zAo, zAh, zAi, seval]
  first | rfl | simp only [go_sem, zAo, zAh, zAi, seval]
 refine zAb h fun v1 hv1 h => ?_
 simp only [go_sem, seval]
 refine cH [0] (zGm hv1) ?_
 simp only [go_sem, seval]
 refine zAb h fun y2 hy2 h => ?_
 refine blkJ 25 10000 (fun w => w [(0, .ptr 0 0)] [hT y2]) (runX 10000 ?_) (fun Jy2 => ?_)
 ·clear hy2
  refine zAb h fun v19 hv19 h => ?_
  simp only [go_sem, seval]
  refine cH [0] (zGm hv19) ?_
  simp only [go_sem, seval]
  refine zEo (zCL (fun x => .tup []) (fun x => [hT x]) h ?_ ?_)
  ·first | rfl | simp only [go_sem, zAo, zAh, zAi, seval]
  first | rfl | simp only [go_sem, zAo, zAh, zAi, seval]
 clear h
 have h := hy2
 simp only [go_sem, seval]
 refine lpJ 25 fuel (fun q1 w => ∀ (v11 : Int) (v12 : pwr), zCm l q1 v11 v12 = some y2 → w [(0, .ptr 0 0), (12, .sl none (List.map AV.str l)), (13, .int .i64 (l.length : Int)), (14, .int .i64 v11)] [hT v12]) (fun w _ _ h => nomatch h) (fun q1 ih1 v11 v12 h => ?_) (fun L1 => ?_)
 ·unfold zCm at h
  apply rL
  simp only [go_sem, seval]
  apply cS h <;> intro hb h
  ·simp only [go_sem, seval]
   apply bK
   refine zAp AV.str none .i64 ⟨9, 1, false, 16⟩ (fun _ => rfl) h fun v15 _ b13 e14 h => ?_
   refine zAb h fun v16 hv16 h => ?_
   simp only [go_sem, seval, b13, e14]
   refine cH [0] (zFB hv16) ?_
   refine zAF h fun v18 _ e17 h => ?_
   simp only [go_sem, seval, e17]
   exact zAc (ih1 v18 v16 h) ⟨rfl, rfl, rfl, rfl, trivial⟩
  simp only [go_sem, seval]
  cases h
  exact atJ (wkn Jy2 ⟨rfl, trivial⟩)
 exact zAc (L1 0 v1 h) ⟨rfl, rfl, rfl, rfl, trivial⟩
theorem zEL {sel : Str} {r : Int} (h : zCU sel = some r) : zAe Tryz.prog 161 [.str sel] [] (.int .i64 r) [] := by
 refine aX hf161 ok161 zC8 ?_
 dsimp only [Tryz.f161, nums, Option.getD, List.append]
 unfold zCU at h
 refine zAb h fun v1 hv1 h => ?_
 simp only [go_sem, seval]
 refine cX (zGA hv1) ?_
 simp only [go_sem, seval]
 apply bK
 simp only [go_sem, seval]
 apply cS h <;> intro hb h
 ·simp only [go_sem, seval]
  exact rS (.int .i64) h
 refine zAb h fun v2 hv2 h => ?_
 simp only [go_sem, seval]
 refine cX (w_sHSf hv2) ?_
 simp only [go_sem, seval]
 apply cS h <;> intro hb h
 ·simp only [go_sem, seval]
  exact rS (.int .i64) h
 simp only [go_sem, seval]
 exact rS (.int .i64) h
theorem zKK {p0_w : pwr} {r : pwr} (h : zEw p0_w = some r) : zAe Tryz.prog 105 [.ptr 0 0] [hW p0_w] (.tup []) [hW r] := by
 refine zCO 10000 hf105 ok105 (by first | rfl | simp only [go_sem]) zAC rfl (by first | rfl | simp only [go_sem, zCu]) ?_
 dsimp only [Tryz.f105, nums, Option.getD, List.append]
 unfold zEw at h
 refine zAb h fun v1 hv1 h => ?_
 simp only [go_sem, seval]
 refine cX (zEL hv1) ?_
 simp only [go_sem, seval]
 apply bK
 simp only [go_sem, seval]
 refine zAb h fun y2 hy2 h => ?_
 refine cndJ 64 10000 (fun w => w [] [hW y2]) (runX 10000 ?_) (fun Jy2 => ?_)
 ·clear hy2
  simp only [go_sem, seval]
  refine zEo (zCL (fun x => .tup []) (fun x => [hW x]) h ?_ ?_)
  ·first | rfl | simp only [go_sem, zAo, zAh, zAi, seval]
  first | rfl | simp only [go_sem, zAo, zAh, zAi, seval]
 clear h
 have h := hy2
 apply cS h <;> intro hb h
 ·refine zAb h fun v4 hv4 h => ?_
  simp only [go_sem, seval]
  refine cH [0] (zAZ hv4) ?_
  simp only [go_sem, seval]
  cases h
  exact atJ (wkn Jy2 trivial)
 simp only [go_sem, seval]
 refine zAb h fun y5 hy5 h => ?_
 refine cndJ 64 10000 (fun w => w [] [hW y5]) (runX 10000 ?_) (fun Jy5 => ?_)
 ·clear hy5
  simp only [go_sem, seval]
  cases h
  exact atJ (wkn Jy2 trivial)
 clear h
 have h := hy5
 apply cS h <;> intro hb h
 ·refine zAb h fun v7 hv7 h => ?_
  simp only [go_sem, seval]
  refine cH [0] (zAZ hv7) ?_
  refine zAp AV.str none .i64 ⟨9, 1, false, 16⟩ (fun _ => rfl) h fun v10 _ b8 e9 h => ?_
  refine zAb h fun v11 hv11 h => ?_
  simp only [go_sem, seval, b8, e9]
  refine cH [0] (zAZ hv11) ?_
  simp only [go_sem, seval]
  cases h
  exact atJ (wkn Jy5 trivial)
 refine zAb h fun v12 hv12 h => ?_
 simp only [go_sem, seval]
 refine cX (zRe hv12) ?_
 refine zAb h fun v13 hv13 h => ?_
 simp only [go_sem, seval]
 refine cX (zEv hv13) ?_
 simp only [go_sem, seval]
 refine zAb h fun y14 hy14 h => ?_
 refine blkJ 64 10000 (fun w => w [] [hW y14]) (runX 10000 ?_) (fun Jy14 => ?_)
 ·clear hy14
  simp only [go_sem, seval]
  cases h
  exact atJ (wkn Jy5 trivial)
 clear h
 have h := hy14
 simp only [go_sem, seval]
 refine lpJ 64 fuel (fun q1 w => ∀ (v27 : Int) (v28 : pwr), zBR v13 q1 v27 v28 = some y14 → w [(0, .ptr 0 0), (16, .sl none (List.map AV.str v13)), (17, .int .i64 (v13.length : Int)), (18, .int .i64 v27)] [hW v28]) (fun w _ _ h => nomatch h) (fun q1 ih1 v27 v28 h => ?_) (fun L1 => ?_)
 ·unfold zBR at h
  apply rL
  simp only [go_sem, seval]
  apply cS h <;> intro hb h
  ·simp only [go_sem, seval]
   apply bK
   refine zAp AV.str none .i64 ⟨9, 1, false, 16⟩ (fun _ => rfl) h fun v31 _ b29 e30 h => ?_
   refine zAb h fun v32 hv32 h => ?_
   simp only [go_sem, seval, b29, e30]
   refine cH [0] (zAZ hv32) ?_
   refine zAp AV.str none .i64 ⟨9, 1, false, 16⟩ (fun _ => rfl) h fun v35 _ b33 e34 h => ?_
   refine zAb h fun v36 hv36 h => ?_
   simp only [go_sem, seval, b33, e34]
   refine cH [0] (zAZ hv36) ?_
   refine zAF h fun v38 _ e37 h => ?_
   simp only [go_sem, seval, e37]
   exact zAc (ih1 v38 v36 h) ⟨rfl, rfl, rfl, rfl, trivial⟩
  simp only [go_sem, seval]
  cases h
  exact atJ (wkn Jy14 trivial)
 exact zAc (L1 0 p0_w h) ⟨rfl, rfl, rfl, rfl, trivial⟩
theorem zL3 {p0_w : pwr} {s : Str} {r : pwr} (h : zE1 p0_w s = some r) : zAe Tryz.prog 203 [.ptr 0 0, .str s] [hW p0_w] (.tup []) [hW r] := by
 refine zCO 10000 hf203 ok203 (by first | rfl | simp only [go_sem]) zAC rfl (by first | rfl | simp only [go_sem, zCu]) ?_
 dsimp only [Tryz.f203, nums, Option.getD, List.append]
 unfold zE1 at h
 refine zAb h fun v1 hv1 h => ?_
 simp only [go_sem, seval]
 refine cX (zEl hv1) ?_
 simp only [go_sem, seval]
 refine zAb h fun y2 hy2 h => ?_
 refine cndJ 17 10000 (fun w => w [(0, .ptr 0 0), (4, .str v1.1)] [hW y2]) (runX 10000 ?_) (fun Jy2 => ?_)
 ·clear hy2
  refine zAb h fun v5 hv5 h => ?_
  simp only [go_sem, seval]
  refine cH [0] (zAZ hv5) ?_
  simp only [go_sem, seval]
  refine zEo (zCL (fun x => .tup []) (fun x => [hW x]) h ?_ ?_)
  ·first | rfl | simp only [go_sem, zAo, zAh, zAi, seval]
  first | rfl | simp only [go_sem, zAo, zAh, zAi, seval]
 clear h
 have h := hy2
 apply cS h <;> intro hb h
 ·refine zAb h fun v4 hv4 h => ?_
  simp only [go_sem, seval]
  refine cH [0] (zAZ hv4) ?_
  simp only [go_sem, seval]
  cases h
  exact atJ (wkn Jy2 ⟨rfl, rfl, trivial⟩)
 simp only [go_sem, seval]
 cases h
 exact atJ (wkn Jy2 ⟨rfl, rfl, trivial⟩)
theorem zLe {p0_w : pwr} {i : Int} {least : Int} {r : (Bool × pwr)} (h : zE7 p0_w i least = some r) : zAe Tryz.prog 268 [.ptr 0 0, .int .i64 i, .int .i64 least] [hW p0_w] (.bool r.1) [hW r.2] := by
 refine zCO 10000 hf268 ok268 (by first | rfl | simp only [go_sem]) zAg rfl (by first | rfl | simp only [go_sem, zCu]) ?_
 dsimp only [Tryz.f268, nums, Option.getD, List.append]
 unfold zE7 at h
 refine zAp zAu none .i64 ⟨59, 5, true, 80⟩ (fun _ => rfl) h fun v3 _ b1 e2 h => ?_
 simp only [go_sem, seval, b1, e2]
 refine zAb h fun y4 hy4 h => ?_
 refine rgJ 36 10000 (.inl rfl) (fun w => w [(6, .bool y4)] [hW p0_w, hN v3.K v3.S v3.N v3.L v3.Kids]) (runX 10000 ?_) (fun Jy4 => ?_)
 ·clear hy4
  simp only [go_sem, seval]
  refine zCL (fun x => .bool x.1) (fun x => [hW x.2]) h ?_ ?_
  ·first | rfl | simp only [go_sem, zAo, zAh, zAi, seval]
  first | rfl | simp only [go_sem, zAo, zAh, zAi, seval]
 clear h
 have h := hy4
 simp only [go_sem, seval]
 apply grd_ <;> intro hb6
 ·have h := zAj hb6 h
  simp only [go_sem, seval]
  apply grd_ <;> intro hb7
  ·have h := zAj hb7 h
   simp only [go_sem, seval]
   apply grd_ <;> intro hb8
   ·have h := zAk hb8 h
    refine zAb h fun v9 hv9 h => ?_
    simp only [go_sem, seval]
    refine cX (zEL hv9) ?_
    simp only [go_sem, seval]
    cases h
    exact atJ (wkn Jy4 ⟨rfl, trivial⟩)
   have h := zAj hb8 h
   simp only [go_sem, seval]
   cases h
   exact atJ (wkn Jy4 ⟨rfl, trivial⟩)
  have h := zAk hb7 h
  simp only [go_sem, seval]
  cases h
  exact atJ (wkn Jy4 ⟨rfl, trivial⟩)
 have h := zAk hb6 h
 simp only [go_sem, seval]
 cases h
 exact atJ (wkn Jy4 ⟨rfl, trivial⟩)
def zBs (rec : R_pwr_stmts) : Prop := (∀ (p0_w : pwr) (l : (List Int)) (r : pwr), rec.pwr_stmts p0_w l = some r → zAe Tryz.prog 106 [.ptr 0 0, .sl none (List.map (AV.int .i64) l)] [hW p0_w] (.tup []) [hW r]) ∧ (∀ (p0_w : pwr) (i : Int) (r : pwr), rec.pwr_node p0_w i = some r → zAe Tryz.prog 164 [.ptr 0 0, .int .i64 i] [hW p0_w] (.tup []) [hW r]) ∧ (∀ (p0_w : pwr) (i : Int) (sel : Str) (r : pwr), rec.pwr_to p0_w i sel = some r → zAe Tryz.prog 204 [.ptr 0 0, .int .i64 i, .str sel] [hW p0_w] (.tup []) [hW r]) ∧ (∀ (p0_w : pwr) (sel : Str) (kids : (List Int)) (r : pwr), rec.pwr_message p0_w sel kids = some r → zAe Tryz.prog 205 [.ptr 0 0, .str sel, .sl none (List.map (AV.int .i64) kids)] [hW p0_w] (.tup []) [hW r]) ∧ (∀ (p0_w : pwr) (n : tNd) (r : pwr), rec.pwr_cascade p0_w n = some r → zAe Tryz.prog 206 [.ptr 0 0, zAu n] [hW p0_w] (.tup []) [hW r]) ∧ (∀ (p0_w : pwr) (n : tNd) (r : pwr), rec.pwr_block p0_w n = some r → zAe Tryz.prog 207 [.ptr 0 0, zAu n] [hW p0_w] (.tup []) [hW r]) ∧ (∀ (p0_w : pwr) (i : Int) (least : Int) (r : pwr), rec.pwr_kid p0_w i least = some r → zAe Tryz.prog 245 [.ptr 0 0, .int .i64 i, .int .i64 least] [hW p0_w] (.tup []) [hW r])
theorem zKd {rec : R_pwr_stmts} (hrec : zBs rec) {p0_w : pwr} {l : (List Int)} {r : pwr} (h : zEr rec p0_w l = some r) : zAe Tryz.prog 106 [.ptr 0 0, .sl none (List.map (AV.int .i64) l)] [hW p0_w] (.tup []) [hW r] := by
 refine zCO 10000 hf106 ok106 (by first | rfl | simp only [go_sem]) zAC rfl (by first | rfl | simp only [go_sem, zCu]) ?_
 dsimp only [Tryz.f106, nums, Option.getD, List.append]
 unfold zEr at h
 simp only [go_sem, seval]
 refine zAb h fun y1 hy1 h => ?_
 refine blkJ 22 10000 (fun w => w [] [hW y1]) (runX 10000 ?_) (fun Jy1 => ?_)
 ·clear hy1
  simp only [go_sem, seval]
  refine zEo (zCL (fun x => .tup []) (fun x => [hW x]) h ?_ ?_)
  ·first | rfl | simp only [go_sem, zAo, zAh, zAi, seval]
  first | rfl | simp only [go_sem, zAo, zAh, zAi, seval]
 clear h
 have h := hy1
 simp only [go_sem, seval]
 refine lpJ 22 fuel (fun q1 w => ∀ (v13 : Int) (v14 : pwr), zB7 l rec q1 v13 v14 = some y1 → w [(0, .ptr 0 0), (6, .sl none (List.map (AV.int .i64) l)), (7, .int .i64 (l.length : Int)), (8, .int .i64 v13)] [hW v14]) (fun w _ _ h => nomatch h) (fun q1 ih1 v13 v14 h => ?_) (fun L1 => ?_)
 ·unfold zB7 at h
  apply rL
  simp only [go_sem, seval]
  apply cS h <;> intro hb h
  ·simp only [go_sem, seval]
   apply bK
   refine zAp (AV.int .i64) none .i64 ⟨3, 1, false, 8⟩ (fun _ => rfl) h fun v17 _ b15 e16 h => ?_
   simp only [go_sem, seval, b15, e16]
   refine zAb h fun y18 hy18 h => ?_
   refine cndJ 22 10000 (fun w => w [(0, .ptr 0 0), (5, .int .i64 v17), (6, .sl none (List.map (AV.int .i64) l)), (7, .int .i64 (l.length : Int)), (8, .int .i64 v13)] [hW y18]) (runX 10000 ?_) (fun Jy18 => ?_)
   ·clear hy18
    refine zAb h fun v21 hv21 h => ?_
    simp only [go_sem, seval]
    refine cH [0] (hrec.2.1 _ _ _ hv21) ?_
    refine zAF h fun v23 _ e22 h => ?_
    simp only [go_sem, seval, e22]
    exact zAc (ih1 v23 v21 h) ⟨rfl, rfl, rfl, rfl, trivial⟩
   clear h
   have h := hy18
   apply cS h <;> intro hb h
   ·refine zAb h fun v20 hv20 h => ?_
    simp only [go_sem, seval]
    refine cH [0] (zB5 hv20) ?_
    simp only [go_sem, seval]
    cases h
    exact atJ (wkn Jy18 ⟨rfl, rfl, rfl, rfl, rfl, trivial⟩)
   simp only [go_sem, seval]
   cases h
   exact atJ (wkn Jy18 ⟨rfl, rfl, rfl, rfl, rfl, trivial⟩)
  simp only [go_sem, seval]
  cases h
  exact atJ (wkn Jy1 trivial)
 exact zAc (L1 0 p0_w h) ⟨rfl, rfl, rfl, rfl, trivial⟩
theorem zLc {rec : R_pwr_stmts} (hrec : zBs rec) {p0_w : pwr} {i : Int} {r : pwr} (h : zEb rec p0_w i = some r) : zAe Tryz.prog 164 [.ptr 0 0, .int .i64 i] [hW p0_w] (.tup []) [hW r] := by
 refine zCO 10000 hf164 ok164 (by first | rfl | simp only [go_sem]) zAC rfl (by first | rfl | simp only [go_sem, zCu]) ?_
 dsimp only [Tryz.f164, nums, Option.getD, List.append]
 unfold zEb at h
 refine zAp zAu none .i64 ⟨59, 5, true, 80⟩ (fun _ => rfl) h fun v3 _ b1 e2 h => ?_
 simp only [go_sem, seval, b1, e2]
 apply bK
 simp only [go_sem, seval]
 refine zAb h fun y4 hy4 h => ?_
 refine cndJ 92 10000 (fun w => w [] [hW y4, hN v3.K v3.S v3.N v3.L v3.Kids]) (runX 10000 ?_) (fun Jy4 => ?_)
 ·clear hy4
  simp only [go_sem, seval]
  refine zEo (zCL (fun x => .tup []) (fun x => [hW x]) h ?_ ?_)
  ·first | rfl | simp only [go_sem, zAo, zAh, zAi, seval]
  first | rfl | simp only [go_sem, zAo, zAh, zAi, seval]
 clear h
 have h := hy4
 apply cS h <;> intro hb h
 ·refine zAb h fun v6 hv6 h => ?_
  simp only [go_sem, seval]
  refine cH [0] (zL3 hv6) ?_
  simp only [go_sem, seval]
  cases h
  exact atJ (wkn Jy4 trivial)
 simp only [go_sem, seval]
 refine zAb h fun y7 hy7 h => ?_
 refine cndJ 92 10000 (fun w => w [] [hW y7, hN v3.K v3.S v3.N v3.L v3.Kids]) (runX 10000 ?_) (fun Jy7 => ?_)
 ·clear hy7
  simp only [go_sem, seval]
  cases h
  exact atJ (wkn Jy4 trivial)
 clear h
 have h := hy7
 apply cS h <;> intro hb h
 ·refine zAb h fun v9 hv9 h => ?_
  simp only [go_sem, seval]
  refine cH [0] (zAZ hv9) ?_
  simp only [go_sem, seval]
  cases h
  exact atJ (wkn Jy7 trivial)
 simp only [go_sem, seval]
 refine zAb h fun y10 hy10 h => ?_
 refine cndJ 92 10000 (fun w => w [] [hW y10, hN v3.K v3.S v3.N v3.L v3.Kids]) (runX 10000 ?_) (fun Jy10 => ?_)
 ·clear hy10
  simp only [go_sem, seval]
  cases h
  exact atJ (wkn Jy7 trivial)
 clear h
 have h := hy10
 apply cS h <;> intro hb h
 ·refine zAb h fun v12 hv12 h => ?_
  simp only [go_sem, seval]
  refine cH [0] (zAZ hv12) ?_
  simp only [go_sem, seval]
  cases h
  exact atJ (wkn Jy10 trivial)
 simp only [go_sem, seval]
 refine zAb h fun y13 hy13 h => ?_
 refine cndJ 92 10000 (fun w => w [] [hW y13, hN v3.K v3.S v3.N v3.L v3.Kids]) (runX 10000 ?_) (fun Jy13 => ?_)
 ·clear hy13
  simp only [go_sem, seval]
  cases h
  exact atJ (wkn Jy10 trivial)
 clear h
 have h := hy13
 apply cS h <;> intro hb h
 ·refine zAb h fun v15 hv15 h => ?_
  simp only [go_sem, seval]
  refine cH [0] (zAZ hv15) ?_
  refine zAb h fun v16 hv16 h => ?_
  simp only [go_sem, seval]
  refine cH [0] (zB5 hv16) ?_
  refine zAp (AV.int .i64) none .i64 ⟨3, 1, false, 8⟩ (fun _ => rfl) h fun v19 _ b17 e18 h => ?_
  refine zAb h fun v20 hv20 h => ?_
  simp only [go_sem, seval, b17, e18]
  refine cH [0] (hrec.2.1 _ _ _ hv20) ?_
  simp only [go_sem, seval]
  cases h
  exact atJ (wkn Jy13 trivial)
 simp only [go_sem, seval]
 refine zAb h fun y21 hy21 h => ?_
 refine cndJ 92 10000 (fun w => w [] [hW y21, hN v3.K v3.S v3.N v3.L v3.Kids]) (runX 10000 ?_) (fun Jy21 => ?_)
 ·clear hy21
  simp only [go_sem, seval]
  cases h
  exact atJ (wkn Jy13 trivial)
 clear h
 have h := hy21
 apply cS h <;> intro hb h
 ·simp only [go_sem, seval]
  refine rg_ 10000 (.inr ⟨[], by kernel_rfl, by kernel_rfl, by rfl⟩) ?_
  refine zAp (AV.int .i64) none .i64 ⟨3, 1, false, 8⟩ (fun _ => rfl) h fun v25 _ b23 e24 h => ?_
  refine zAb h fun v26 hv26 h => ?_
  simp only [go_sem, seval, b23, e24]
  refine zMW 10000 [0] (by kernel_rfl) (hrec.2.2.1 _ _ _ _ hv26) (by first | rfl | simp only [go_sem]) (by first | rfl | simp only [go_sem]) (by first | rfl | simp only [go_sem]) ?_
  simp only [go_sem, seval]
  refine rg_ 10000 (.inr ⟨[], by kernel_rfl, by kernel_rfl, by rfl⟩) ?_
  refine zGw (AV.int .i64) none ⟨3, 1, false, 8⟩ (fun _ => rfl) (some (.int .i64 1)) none rfl rfl h fun v29 _ b27 e28 h => ?_
  refine zAb h fun v30 hv30 h => ?_
  simp only [go_sem, seval, b27, e28]
  refine zMW 10000 [0] (by kernel_rfl) (hrec.2.2.2.1 _ _ _ _ hv30) (by first | rfl | simp only [go_sem]) (by first | rfl | simp only [go_sem]) (by first | rfl | simp only [go_sem]) ?_
  simp only [go_sem, seval]
  cases h
  exact atJ (wkn Jy21 trivial)
 simp only [go_sem, seval]
 refine zAb h fun y31 hy31 h => ?_
 refine cndJ 92 10000 (fun w => w [] [hW y31, hN v3.K v3.S v3.N v3.L v3.Kids]) (runX 10000 ?_) (fun Jy31 => ?_)
 ·clear hy31
  simp only [go_sem, seval]
  cases h
  exact atJ (wkn Jy21 trivial)
 clear h
 have h := hy31
 apply cS h <;> intro hb h
 ·refine zAb h fun v33 hv33 h => ?_
  simp only [go_sem, seval]
  refine cH [0] (hrec.2.2.2.2.1 _ _ _ hv33) ?_
  simp only [go_sem, seval]
  cases h
  exact atJ (wkn Jy31 trivial)
 simp only [go_sem, seval]
 refine zAb h fun y34 hy34 h => ?_
 refine cndJ 92 10000 (fun w => w [] [hW y34, hN v3.K v3.S v3.N v3.L v3.Kids]) (runX 10000 ?_) (fun Jy34 => ?_)
 ·clear hy34
  simp only [go_sem, seval]
  cases h
  exact atJ (wkn Jy31 trivial)
 clear h
 have h := hy34
 apply cS h <;> intro hb h
 ·refine zAb h fun v36 hv36 h => ?_
  simp only [go_sem, seval]
  refine cH [0] (hrec.2.2.2.2.2.1 _ _ _ hv36) ?_
  simp only [go_sem, seval]
  cases h
  exact atJ (wkn Jy34 trivial)
 simp only [go_sem, seval]
 refine zAb h fun y37 hy37 h => ?_
 refine cndJ 92 10000 (fun w => w [] [hW y37, hN v3.K v3.S v3.N v3.L v3.Kids]) (runX 10000 ?_) (fun Jy37 => ?_)
 ·clear hy37
  simp only [go_sem, seval]
  cases h
  exact atJ (wkn Jy34 trivial)
 clear h
 have h := hy37
 apply cS h <;> intro hb h
 ·refine zAb h fun v39 hv39 h => ?_
  simp only [go_sem, seval]
  refine cH [0] (zB5 hv39) ?_
  refine zAp (AV.int .i64) none .i64 ⟨3, 1, false, 8⟩ (fun _ => rfl) h fun v42 _ b40 e41 h => ?_
  refine zAb h fun v43 hv43 h => ?_
  simp only [go_sem, seval, b40, e41]
  refine cH [0] (hrec.2.1 _ _ _ hv43) ?_
  simp only [go_sem, seval]
  cases h
  exact atJ (wkn Jy37 trivial)
 refine aIdx_s AV.str (fun _ => rfl) .u8 (n := 5) rfl h fun v46 _ (b44 : zQJ 5 (.agg [.str [115, 101, 108, 102], .str [115, 117, 112, 101, 114], .str [110, 105, 108], .str [116, 114, 117, 101], .str [102, 97, 108, 115, 101]]) (.int .u8 v3.K)) (e45 : zO4 (.agg [.str [115, 101, 108, 102], .str [115, 117, 112, 101, 114], .str [110, 105, 108], .str [116, 114, 117, 101], .str [102, 97, 108, 115, 101]]) (.int .u8 v3.K) = AV.str v46) h => ?_
 refine zAb h fun v47 hv47 h => ?_
 simp only [go_sem, seval, b44, e45]
 refine cH [0] (zAZ hv47) ?_
 simp only [go_sem, seval]
 cases h
 exact atJ (wkn Jy37 trivial)
theorem zOV {rec : R_pwr_stmts} (hrec : zBs rec) {p0_w : pwr} {i : Int} {sel : Str} {r : pwr} (h : zHn rec p0_w i sel = some r) : zAe Tryz.prog 204 [.ptr 0 0, .int .i64 i, .str sel] [hW p0_w] (.tup []) [hW r] := by
 refine zCO 10000 hf204 ok204 (by first | rfl | simp only [go_sem]) zAC rfl (by first | rfl | simp only [go_sem, zCu]) ?_
 dsimp only [Tryz.f204, nums, Option.getD, List.append]
 unfold zHn at h
 refine zAb h fun v1 hv1 h => ?_
 simp only [go_sem, seval]
 refine cX (zEL hv1) ?_
 refine zAb h fun v2 hv2 h => ?_
 simp only [go_sem, seval, (mxv_e .i64 2 v1)]
 refine cH [0] (hrec.2.2.2.2.2.2 _ _ _ _ hv2) ?_
 simp only [go_sem, seval]
 refine zEo (zCL (fun x => .tup []) (fun x => [hW x]) h ?_ ?_)
 ·first | rfl | simp only [go_sem, zAo, zAh, zAi, seval]
 first | rfl | simp only [go_sem, zAo, zAh, zAi, seval]
theorem zIt {rec : R_pwr_stmts} (hrec : zBs rec) {p0_w : pwr} {sel : Str} {kids : (List Int)} {r : pwr} (h : zDs rec p0_w sel kids = some r) : zAe Tryz.prog 205 [.ptr 0 0, .str sel, .sl none (List.map (AV.int .i64) kids)] [hW p0_w] (.tup []) [hW r] := by
 refine zCO 10000 hf205 ok205 (by first | rfl | simp only [go_sem]) zAC rfl (by first | rfl | simp only [go_sem, zCu]) ?_
 dsimp only [Tryz.f205, nums, Option.getD, List.append]
 unfold zDs at h
 refine zAb h fun v1 hv1 h => ?_
 simp only [go_sem, seval]
 refine cX (zEL hv1) ?_
 simp only [go_sem, seval]
 apply bK
 simp only [go_sem, seval]
 refine zAb h fun y2 hy2 h => ?_
 refine cndJ 44 10000 (fun w => w [] [hW y2]) (runX 10000 ?_) (fun Jy2 => ?_)
 ·clear hy2
  simp only [go_sem, seval]
  refine zEo (zCL (fun x => .tup []) (fun x => [hW x]) h ?_ ?_)
  ·first | rfl | simp only [go_sem, zAo, zAh, zAi, seval]
  first | rfl | simp only [go_sem, zAo, zAh, zAi, seval]
 clear h
 have h := hy2
 apply cS h <;> intro hb h
 ·refine zAb h fun v4 hv4 h => ?_
  simp only [go_sem, seval]
  refine cH [0] (zAZ hv4) ?_
  simp only [go_sem, seval]
  cases h
  exact atJ (wkn Jy2 trivial)
 simp only [go_sem, seval]
 refine zAb h fun y5 hy5 h => ?_
 refine cndJ 44 10000 (fun w => w [] [hW y5]) (runX 10000 ?_) (fun Jy5 => ?_)
 ·clear hy5
  simp only [go_sem, seval]
  cases h
  exact atJ (wkn Jy2 trivial)
 clear h
 have h := hy5
 apply cS h <;> intro hb h
 ·refine zAb h fun v7 hv7 h => ?_
  simp only [go_sem, seval]
  refine cH [0] (zAZ hv7) ?_
  refine zAp (AV.int .i64) none .i64 ⟨3, 1, false, 8⟩ (fun _ => rfl) h fun v10 _ b8 e9 h => ?_
  refine zAb h fun v11 hv11 h => ?_
  simp only [go_sem, seval, b8, e9]
  refine cH [0] (hrec.2.2.2.2.2.2 _ _ _ _ hv11) ?_
  simp only [go_sem, seval]
  cases h
  exact atJ (wkn Jy5 trivial)
 refine zAb h fun v12 hv12 h => ?_
 simp only [go_sem, seval]
 refine cX (zRe hv12) ?_
 refine zAb h fun v13 hv13 h => ?_
 simp only [go_sem, seval]
 refine cX (zEv hv13) ?_
 simp only [go_sem, seval]
 refine zAb h fun y14 hy14 h => ?_
 refine blkJ 44 10000 (fun w => w [] [hW y14]) (runX 10000 ?_) (fun Jy14 => ?_)
 ·clear hy14
  simp only [go_sem, seval]
  cases h
  exact atJ (wkn Jy5 trivial)
 clear h
 have h := hy14
 simp only [go_sem, seval]
 refine lpJ 44 fuel (fun q1 w => ∀ (v27 : Int) (v28 : pwr), zBY kids rec v13 q1 v27 v28 = some y14 → w [(0, .ptr 0 0), (2, .sl none (List.map (AV.int .i64) kids)), (12, .sl none (List.map AV.str v13)), (13, .int .i64 (v13.length : Int)), (14, .int .i64 v27)] [hW v28]) (fun w _ _ h => nomatch h) (fun q1 ih1 v27 v28 h => ?_) (fun L1 => ?_)
 ·unfold zBY at h
  apply rL
  simp only [go_sem, seval]
  apply cS h <;> intro hb h
  ·simp only [go_sem, seval]
   apply bK
   refine zAp AV.str none .i64 ⟨9, 1, false, 16⟩ (fun _ => rfl) h fun v31 _ b29 e30 h => ?_
   refine zAb h fun v32 hv32 h => ?_
   simp only [go_sem, seval, b29, e30]
   refine cH [0] (zAZ hv32) ?_
   refine zAp (AV.int .i64) none .i64 ⟨3, 1, false, 8⟩ (fun _ => rfl) h fun v35 _ b33 e34 h => ?_
   refine zAb h fun v36 hv36 h => ?_
   simp only [go_sem, seval, b33, e34]
   refine cH [0] (hrec.2.2.2.2.2.2 _ _ _ _ hv36) ?_
   refine zAF h fun v38 _ e37 h => ?_
   simp only [go_sem, seval, e37]
   exact zAc (ih1 v38 v36 h) ⟨rfl, rfl, rfl, rfl, rfl, trivial⟩
  simp only [go_sem, seval]
  cases h
  exact atJ (wkn Jy14 trivial)
 exact zAc (L1 0 p0_w h) ⟨rfl, rfl, rfl, rfl, rfl, trivial⟩
theorem zIG {rec : R_pwr_stmts} (hrec : zBs rec) {p0_w : pwr} {n : tNd} {r : pwr} (h : zDr rec p0_w n = some r) : zAe Tryz.prog 206 [.ptr 0 0, zAu n] [hW p0_w] (.tup []) [hW r] := by
 refine zCO 10000 hf206 ok206 (by first | rfl | simp only [go_sem]) zAC rfl (by first | rfl | simp only [go_sem, zCu]) ?_
 dsimp only [Tryz.f206, nums, Option.getD, List.append]
 unfold zDr at h
 refine zGw (AV.int .i64) none ⟨3, 1, false, 8⟩ (fun _ => rfl) (some (.int .i64 1)) none rfl rfl h fun v3 _ b1 e2 h => ?_
 simp only [go_sem, seval, b1, e2]
 refine zAb h fun y4 hy4 h => ?_
 refine blkJ 44 10000 (fun w => w [] [hW y4, hN n.K n.S n.N n.L n.Kids]) (runX 10000 ?_) (fun Jy4 => ?_)
 ·clear hy4
  simp only [go_sem, seval]
  refine zEo (zCL (fun x => .tup []) (fun x => [hW x]) h ?_ ?_)
  ·first | rfl | simp only [go_sem, zAo, zAh, zAi, seval]
  first | rfl | simp only [go_sem, zAo, zAh, zAi, seval]
 clear h
 have h := hy4
 simp only [go_sem, seval]
 refine lpJ 44 fuel (fun q1 w => ∀ (v23 : Int) (v24 : pwr), zBk n rec v3 q1 v23 v24 = some y4 → w [(0, .ptr 0 0), (3, .ptr 1 0), (9, .sl none (List.map (AV.int .i64) v3)), (10, .int .i64 (v3.length : Int)), (11, .int .i64 v23)] [hW v24, hN n.K n.S n.N n.L n.Kids]) (fun w _ _ h => nomatch h) (fun q1 ih1 v23 v24 h => ?_) (fun L1 => ?_)
 ·unfold zBk at h
  apply rL
  simp only [go_sem, seval]
  apply cS h <;> intro hb h
  ·simp only [go_sem, seval]
   apply bK
   refine zAp (AV.int .i64) none .i64 ⟨3, 1, false, 8⟩ (fun _ => rfl) h fun v27 _ b25 e26 h => ?_
   refine zAp zAu none .i64 ⟨59, 5, true, 80⟩ (fun _ => rfl) h fun v30 _ b28 e29 h => ?_
   simp only [go_sem, seval, b25, e26, b28, e29]
   refine zAb h fun y31 hy31 h => ?_
   refine cndJ 44 10000 (fun w => w [(0, .ptr 0 0), (3, .ptr 1 0), (6, .ptr 2 0), (9, .sl none (List.map (AV.int .i64) v3)), (10, .int .i64 (v3.length : Int)), (11, .int .i64 v23)] [hW y31, hN n.K n.S n.N n.L n.Kids, hN v30.K v30.S v30.N v30.L v30.Kids]) (runX 10000 ?_) (fun Jy31 => ?_)
   ·clear hy31
    refine zAb h fun v38 hv38 h => ?_
    simp only [go_sem, seval]
    refine cH [0] (hrec.2.2.2.1 _ _ _ _ hv38) ?_
    refine zAF h fun v40 _ e39 h => ?_
    simp only [go_sem, seval, e39]
    exact zDx 2 (ih1 v40 v38 h) ⟨rfl, rfl, rfl, rfl, rfl, trivial⟩ rfl rfl rfl (by first | rfl | simp only [go_sem, ltF]) (by first | rfl | simp only [go_sem, zCu])
   clear h
   have h := hy31
   apply cS h <;> intro hb h
   ·simp only [go_sem, seval]
    refine rg_ 10000 (.inr ⟨[], by kernel_rfl, by kernel_rfl, by rfl⟩) ?_
    refine zAp (AV.int .i64) none .i64 ⟨3, 1, false, 8⟩ (fun _ => rfl) h fun v35 _ b33 e34 h => ?_
    refine zAb h fun v36 hv36 h => ?_
    simp only [go_sem, seval, b33, e34]
    refine zMW 10000 [0] (by kernel_rfl) (hrec.2.2.1 _ _ _ _ hv36) (by first | rfl | simp only [go_sem]) (by first | rfl | simp only [go_sem]) (by first | rfl | simp only [go_sem]) ?_
    simp only [go_sem, seval]
    cases h
    exact atJ (wkn Jy31 ⟨rfl, rfl, rfl, rfl, rfl, rfl, trivial⟩)
   refine zAb h fun v37 hv37 h => ?_
   simp only [go_sem, seval]
   refine cH [0] (zB5 hv37) ?_
   simp only [go_sem, seval]
   cases h
   exact atJ (wkn Jy31 ⟨rfl, rfl, rfl, rfl, rfl, rfl, trivial⟩)
  simp only [go_sem, seval]
  cases h
  exact atJ (wkn Jy4 trivial)
 exact zAc (L1 0 p0_w h) ⟨rfl, rfl, rfl, rfl, rfl, trivial⟩
theorem zJ4 {rec : R_pwr_stmts} (hrec : zBs rec) {p0_w : pwr} {n : tNd} {r : pwr} (h : zEj rec p0_w n = some r) : zAe Tryz.prog 207 [.ptr 0 0, zAu n] [hW p0_w] (.tup []) [hW r] := by
 refine zCO 10000 hf207 ok207 (by first | rfl | simp only [go_sem]) zAC rfl (by first | rfl | simp only [go_sem, zCu]) ?_
 dsimp only [Tryz.f207, nums, Option.getD, List.append]
 unfold zEj at h
 refine zAb h fun v1 hv1 h => ?_
 simp only [go_sem, seval]
 refine cH [0] (zB5 hv1) ?_
 refine zGw AV.str none ⟨9, 1, false, 16⟩ (fun _ => rfl) none (some (.int .i64 n.N)) rfl rfl h fun v4 _ b2 e3 h => ?_
 simp only [go_sem, seval, b2, e3]
 refine zAb h fun y5 hy5 h => ?_
 refine blkJ 43 10000 (fun w => w [(0, .ptr 0 0), (3, .ptr 1 0)] [hW y5, hN n.K n.S n.N n.L n.Kids]) (runX 10000 ?_) (fun Jy5 => ?_)
 ·clear hy5
  simp only [go_sem, seval]
  refine zAb h fun y22 hy22 h => ?_
  refine cndJ 43 10000 (fun w => w [(0, .ptr 0 0), (3, .ptr 1 0)] [hW y22, hN n.K n.S n.N n.L n.Kids]) (runX 10000 ?_) (fun Jy22 => ?_)
  ·clear hy22
   refine zGw AV.str none ⟨9, 1, false, 16⟩ (fun _ => rfl) (some (.int .i64 n.N)) none rfl rfl h fun v27 _ b25 e26 h => ?_
   refine zAb h fun v28 hv28 h => ?_
   simp only [go_sem, seval, b25, e26]
   refine cH [0] (zJF hv28) ?_
   refine zAb h fun v29 hv29 h => ?_
   simp only [go_sem, seval]
   refine cH [0] (hrec.1 _ _ _ hv29) ?_
   refine zAb h fun v30 hv30 h => ?_
   simp only [go_sem, seval]
   refine cH [0] (zB5 hv30) ?_
   simp only [go_sem, seval]
   refine zEo (zCL (fun x => .tup []) (fun x => [hW x]) h ?_ ?_)
   ·first | rfl | simp only [go_sem, zAo, zAh, zAi, seval]
   first | rfl | simp only [go_sem, zAo, zAh, zAi, seval]
  clear h
  have h := hy22
  apply cS h <;> intro hb h
  ·refine zAb h fun v24 hv24 h => ?_
   simp only [go_sem, seval]
   refine cH [0] (zB5 hv24) ?_
   simp only [go_sem, seval]
   cases h
   exact atJ (wkn Jy22 ⟨rfl, rfl, trivial⟩)
  simp only [go_sem, seval]
  cases h
  exact atJ (wkn Jy22 ⟨rfl, rfl, trivial⟩)
 clear h
 have h := hy5
 simp only [go_sem, seval]
 refine lpJ 43 fuel (fun q1 w => ∀ (v14 : Int) (v15 : pwr), zCK v4 q1 v14 v15 = some y5 → w [(0, .ptr 0 0), (3, .ptr 1 0), (13, .sl none (List.map AV.str v4)), (14, .int .i64 (v4.length : Int)), (15, .int .i64 v14)] [hW v15, hN n.K n.S n.N n.L n.Kids]) (fun w _ _ h => nomatch h) (fun q1 ih1 v14 v15 h => ?_) (fun L1 => ?_)
 ·unfold zCK at h
  apply rL
  simp only [go_sem, seval]
  apply cS h <;> intro hb h
  ·simp only [go_sem, seval]
   apply bK
   refine zAp AV.str none .i64 ⟨9, 1, false, 16⟩ (fun _ => rfl) h fun v18 _ b16 e17 h => ?_
   refine zAb h fun v19 hv19 h => ?_
   simp only [go_sem, seval, b16, e17]
   refine cH [0] (zAZ hv19) ?_
   refine zAF h fun v21 _ e20 h => ?_
   simp only [go_sem, seval, e20]
   exact zAc (ih1 v21 v19 h) ⟨rfl, rfl, rfl, rfl, rfl, trivial⟩
  simp only [go_sem, seval]
  cases h
  exact atJ (wkn Jy5 ⟨rfl, rfl, trivial⟩)
 exact zAc (L1 0 v1 h) ⟨rfl, rfl, rfl, rfl, rfl, trivial⟩
theorem zMC {rec : R_pwr_stmts} (hrec : zBs rec) {p0_w : pwr} {i : Int} {least : Int} {r : pwr} (h : zFX rec p0_w i least = some r) : zAe Tryz.prog 245 [.ptr 0 0, .int .i64 i, .int .i64 least] [hW p0_w] (.tup []) [hW r] := by
 refine zCO 10000 hf245 ok245 (by first | rfl | simp only [go_sem]) zAC rfl (by first | rfl | simp only [go_sem, zCu]) ?_
 dsimp only [Tryz.f245, nums, Option.getD, List.append]
 unfold zFX at h
 refine zAb h fun v1 hv1 h => ?_
 simp only [go_sem, seval]
 refine cH [0] (zLe hv1) ?_
 simp only [go_sem, seval]
 apply cS h <;> intro hb h
 ·refine zAb h fun v2 hv2 h => ?_
  simp only [go_sem, seval]
  refine cH [0] (hrec.2.1 _ _ _ hv2) ?_
  simp only [go_sem, seval]
  refine zCL (fun x => .tup []) (fun x => [hW x]) h ?_ ?_
  ·first | rfl | simp only [go_sem, zAo, zAh, zAi, seval]
  first | rfl | simp only [go_sem, zAo, zAh, zAi, seval]
 refine zAb h fun v3 hv3 h => ?_
 simp only [go_sem, seval]
 refine cH [0] (zB5 hv3) ?_
 refine zAb h fun v4 hv4 h => ?_
 simp only [go_sem, seval]
 refine cH [0] (hrec.2.1 _ _ _ hv4) ?_
 refine zAb h fun v5 hv5 h => ?_
 simp only [go_sem, seval]
 refine cH [0] (zB5 hv5) ?_
 simp only [go_sem, seval]
 refine zEo (zCL (fun x => .tup []) (fun x => [hW x]) h ?_ ?_)
 ·first | rfl | simp only [go_sem, zAo, zAh, zAi, seval]
 first | rfl | simp only [go_sem, zAo, zAh, zAi, seval]
theorem zA8 : ∀ n, zBs (zAw n)
 | 0 => ⟨(fun _ _ _ h => nomatch h), (fun _ _ _ h => nomatch h), (fun _ _ _ _ h => nomatch h), (fun _ _ _ _ h => nomatch h), (fun _ _ _ h => nomatch h), (fun _ _ _ h => nomatch h), (fun _ _ _ _ h => nomatch h)⟩
 | n+1 => ⟨fun _ _ _ h => zKd (zA8 n) h, fun _ _ _ h => zLc (zA8 n) h, fun _ _ _ _ h => zOV (zA8 n) h, fun _ _ _ _ h => zIt (zA8 n) h, fun _ _ _ h => zIG (zA8 n) h, fun _ _ _ h => zJ4 (zA8 n) h, fun _ _ _ _ h => zMC (zA8 n) h⟩
theorem zMq {p0_w : pwr} {l : (List Int)} {r : pwr} (h : pwr_stmts p0_w l = some r) : zAe Tryz.prog 106 [.ptr 0 0, .sl none (List.map (AV.int .i64) l)] [hW p0_w] (.tup []) [hW r] := (zA8 fuel).1 _ _ _ h
theorem zG4 {m : tMt} {r : (List lWd)} (h : zDK m = some r) : zAe Tryz.prog 53 [zA5 m] [] (.sl none (List.map zAv r)) [] := by
 refine aX hf53 ok53 zDb ?_
 dsimp only [Tryz.f53, nums, Option.getD, List.append]
 unfold zDK at h
 refine zAb h fun v1 hv1 h => ?_
 simp only [go_sem, seval]
 refine cH [1] (zKK hv1) ?_
 refine zAb h fun v2 hv2 h => ?_
 simp only [go_sem, seval]
 refine cH [1] (zB5 hv2) ?_
 refine zAb h fun v3 hv3 h => ?_
 simp only [go_sem, seval]
 refine cH [1] (zJF hv3) ?_
 refine zAb h fun v4 hv4 h => ?_
 simp only [go_sem, seval]
 refine cH [1] (zMq hv4) ?_
 refine zAb h fun v5 hv5 h => ?_
 simp only [go_sem, seval]
 refine cH [1] (zB5 hv5) ?_
 simp only [go_sem, seval]
 exact rS (fun x => .sl none (List.map zAv x)) h
theorem zGC {m : tMt} {r : (Str × (Option Int))} (h : zEI m = some r) : zAe Tryz.prog 15 [zA5 m] [] (.tup [.str r.1, encE 86 r.2]) [] := by
 refine aX hf15 ok15 zAC ?_
 dsimp only [Tryz.f15, nums, Option.getD, List.append]
 unfold zEI at h
 refine zAb h fun v1 hv1 h => ?_
 simp only [go_sem, seval]
 refine cX (zHQ hv1) ?_
 simp only [go_sem, seval]
 apply cS h <;> intro hb h
 ·simp only [go_sem, seval]
  refine zBz (fun x => .tup [.str x.1, encE 86 x.2]) h ?_
  first | rfl | simp only [go_sem, zAo, zAh, zAi, seval]
 refine zAb h fun v2 hv2 h => ?_
 simp only [go_sem, seval]
 refine cX (zG4 hv2) ?_
 refine zAb h fun v3 hv3 h => ?_
 simp only [go_sem, seval]
 refine cX (zJS hv3) ?_
 simp only [go_sem, seval]
 refine zBz (fun x => .tup [.str x.1, encE 86 x.2]) h ?_
 first | rfl | simp only [go_sem, zAo, zAh, zAi, seval]
theorem zLT {s : (List tCl)} {p1_f : (tCl → Option Bool)} (fv_p1_f : FuncId) (hf_p1_f : ∀ (a0 : tCl) (z : Bool), p1_f a0 = some z → zAe Tryz.prog fv_p1_f [zBh a0] [] (.bool z) []) {r : Int} (h : zGh s p1_f = some r) : zAe Tryz.prog 128 [.sl none (List.map zBh s), .fn (.func fv_p1_f) [] []] [] (.int .i64 r) [] := by
 refine aX hf128 ok128 zC8 ?_
 dsimp only [Tryz.f128, nums, Option.getD, List.append]
 unfold zGh at h
 simp only [go_sem, seval]
 refine zBq h fun K2 hK2 h => ?_
 refine blkJ 19 10000 (fun w => K2 () = some r → w [] []) (fun h => runX 10000 ?_) (fun JK2 => ?_)
 ·subst hK2
  dsimp only at h
  simp only [go_sem, seval]
  exact rS (.int .i64) h
 clear hK2
 simp only [go_sem, seval]
 refine lpJ 19 fuel (fun q1 w => ∀ (v3 : Int), zCp s p1_f K2 q1 v3 = some r → w [(0, .sl none (List.map zBh s)), (1, .fn (.func fv_p1_f) [] []), (7, .int .i64 (s.length : Int)), (8, .int .i64 v3)] []) (fun w _ h => nomatch h) (fun q1 ih1 v3 h => ?_) (fun L1 => ?_)
 ·unfold zCp at h
  apply rL
  simp only [go_sem, seval]
  apply cS h <;> intro hb h
  ·simp only [go_sem, seval]
   apply bK
   refine zAp zBh none .i64 ⟨81, 4, true, 80⟩ (fun _ => rfl) h fun v6 _ b4 e5 h => ?_
   refine zAb h fun v7 hv7 h => ?_
   simp only [go_sem, seval, b4, e5]
   refine cX (hf_p1_f _ _ hv7) ?_
   simp only [go_sem, seval]
   apply cS h <;> intro hb h
   ·simp only [go_sem, seval]
    exact rS (.int .i64) h
   refine zAF h fun v9 _ e8 h => ?_
   simp only [go_sem, seval, e8]
   exact zAc (ih1 v9 h) ⟨rfl, rfl, rfl, rfl, trivial⟩
  simp only [go_sem, seval]
  exact atJ (wkn (JK2 h) trivial)
 exact zAc (L1 0 h) ⟨rfl, rfl, rfl, rfl, trivial⟩
theorem zK0 {s : (List tCl)} {p1_f : (tCl → Option Bool)} (fv_p1_f : FuncId) (hf_p1_f : ∀ (a0 : tCl) (z : Bool), p1_f a0 = some z → zAe Tryz.prog fv_p1_f [zBh a0] [] (.bool z) []) {r : Bool} (h : zEY s p1_f = some r) : zAe Tryz.prog 82 [.sl none (List.map zBh s), .fn (.func fv_p1_f) [] []] [] (.bool r) [] := by
 refine aX hf82 ok82 zAg ?_
 dsimp only [Tryz.f82, nums, Option.getD, List.append]
 unfold zEY at h
 refine zAb h fun v1 hv1 h => ?_
 simp only [go_sem, seval]
 refine cX (zLT fv_p1_f hf_p1_f hv1) ?_
 simp only [go_sem, seval]
 exact rS .bool h
theorem zM7 {s : Str} {r : Bool} (h : zE9 s = some r) : zAe Tryz.prog 131 [.str s] [] (.bool r) [] := by
 refine aX hf131 ok131 zAg ?_
 dsimp only [Tryz.f131, nums, Option.getD, List.append]
 unfold zE9 at h
 refine zAb h fun v1 hv1 h => ?_
 simp only [go_sem, seval]
 refine cX (zDq hv1) ?_
 simp only [go_sem, seval]
 exact rS .bool h
theorem zL9 {s : (List tMt)} {p1_f : (tMt → Option Bool)} (fv_p1_f : FuncId) (hf_p1_f : ∀ (a0 : tMt) (z : Bool), p1_f a0 = some z → zAe Tryz.prog fv_p1_f [zA5 a0] [] (.bool z) []) {r : Int} (h : zGl s p1_f = some r) : zAe Tryz.prog 186 [.sl none (List.map zA5 s), .fn (.func fv_p1_f) [] []] [] (.int .i64 r) [] := by
 refine aX hf186 ok186 zC8 ?_
 dsimp only [Tryz.f186, nums, Option.getD, List.append]
 unfold zGl at h
 simp only [go_sem, seval]
 refine zBq h fun K2 hK2 h => ?_
 refine blkJ 19 10000 (fun w => K2 () = some r → w [] []) (fun h => runX 10000 ?_) (fun JK2 => ?_)
 ·subst hK2
  dsimp only at h
  simp only [go_sem, seval]
  exact rS (.int .i64) h
 clear hK2
 simp only [go_sem, seval]
 refine lpJ 19 fuel (fun q1 w => ∀ (v3 : Int), zCd s p1_f K2 q1 v3 = some r → w [(0, .sl none (List.map zA5 s)), (1, .fn (.func fv_p1_f) [] []), (7, .int .i64 (s.length : Int)), (8, .int .i64 v3)] []) (fun w _ h => nomatch h) (fun q1 ih1 v3 h => ?_) (fun L1 => ?_)
 ·unfold zCd at h
  apply rL
  simp only [go_sem, seval]
  apply cS h <;> intro hb h
  ·simp only [go_sem, seval]
   apply bK
   refine zAp zA5 none .i64 ⟨35, 5, true, 112⟩ (fun _ => rfl) h fun v6 _ b4 e5 h => ?_
   refine zAb h fun v7 hv7 h => ?_
   simp only [go_sem, seval, b4, e5]
   refine cX (hf_p1_f _ _ hv7) ?_
   simp only [go_sem, seval]
   apply cS h <;> intro hb h
   ·simp only [go_sem, seval]
    exact rS (.int .i64) h
   refine zAF h fun v9 _ e8 h => ?_
   simp only [go_sem, seval, e8]
   exact zAc (ih1 v9 h) ⟨rfl, rfl, rfl, rfl, trivial⟩
  simp only [go_sem, seval]
  exact atJ (wkn (JK2 h) trivial)
 exact zAc (L1 0 h) ⟨rfl, rfl, rfl, rfl, trivial⟩
theorem zLW {s : (List tMt)} {p1_f : (tMt → Option Bool)} (fv_p1_f : FuncId) (hf_p1_f : ∀ (a0 : tMt) (z : Bool), p1_f a0 = some z → zAe Tryz.prog fv_p1_f [zA5 a0] [] (.bool z) []) {r : Bool} (h : zEe s p1_f = some r) : zAe Tryz.prog 132 [.sl none (List.map zA5 s), .fn (.func fv_p1_f) [] []] [] (.bool r) [] := by
 refine aX hf132 ok132 zAg ?_
 dsimp only [Tryz.f132, nums, Option.getD, List.append]
 unfold zEe at h
 refine zAb h fun v1 hv1 h => ?_
 simp only [go_sem, seval]
 refine cX (zL9 fv_p1_f hf_p1_f hv1) ?_
 simp only [go_sem, seval]
 exact rS .bool h
theorem zMB {m : tMt} {r : Bool} (h : zE5 m = some r) : zAe Tryz.prog 133 [zA5 m] [] (.bool r) [] := by
 refine aX hf133 ok133 zAg ?_
 dsimp only [Tryz.f133, nums, Option.getD, List.append]
 unfold zE5 at h
 refine zAb h fun v1 hv1 h => ?_
 simp only [go_sem, seval]
 refine cX (zHQ hv1) ?_
 simp only [go_sem, seval]
 exact rS .bool h
theorem zRH {c : tCl} {r : Bool} (h : zIX c = some r) : zAe Tryz.prog 84 [zBh c] [] (.bool r) [] := by
 refine aX hf84 ok84 zAg ?_
 dsimp only [Tryz.f84, nums, Option.getD, List.append]
 unfold zIX at h
 simp only [go_sem, seval]
 refine zAb h fun y1 hy1 h => ?_
 refine rgJ 35 10000 (.inl rfl) (fun w => w [(1, .ptr 0 0), (24, .bool y1)] [some [.str c.Name, .str c.Super, .sl none (List.map AV.str c.Vars), .sl none (List.map zA5 c.Methods)]]) (runX 10000 ?_) (fun Jy1 => ?_)
 ·clear hy1
  simp only [go_sem, seval]
  apply cS h <;> intro hb h
  ·simp only [go_sem, seval]
   exact rS .bool h
  simp only [go_sem, seval]
  refine zAb h fun y8 hy8 h => ?_
  refine rgJ 35 10000 (.inl rfl) (fun w => w [(2, .bool y8)] [some [.str c.Name, .str c.Super, .sl none (List.map AV.str c.Vars), .sl none (List.map zA5 c.Methods)]]) (runX 10000 ?_) (fun Jy8 => ?_)
  ·clear hy8
   simp only [go_sem, seval]
   exact rS .bool h
  clear h
  have h := hy8
  refine zAb h fun v10 hv10 h => ?_
  simp only [go_sem, seval]
  refine cX (zEO 131 (fun _ _ h => zM7 h) hv10) ?_
  simp only [go_sem, seval]
  apply grd_ <;> intro hb11
  ·have h := zAk hb11 h
   refine zAb h fun v12 hv12 h => ?_
   simp only [go_sem, seval]
   refine cX (zLW 133 (fun _ _ h => zMB h) hv12) ?_
   simp only [go_sem, seval]
   cases h
   exact atJ (wkn Jy8 ⟨rfl, trivial⟩)
  have h := zAj hb11 h
  simp only [go_sem, seval]
  cases h
  exact atJ (wkn Jy8 ⟨rfl, trivial⟩)
 clear h
 have h := hy1
 refine zAb h fun v3 hv3 h => ?_
 simp only [go_sem, seval]
 refine cX (zEH hv3) ?_
 simp only [go_sem, seval]
 apply grd_ <;> intro hb4
 ·have h := zAj hb4 h
  refine zAb h fun v5 hv5 h => ?_
  simp only [go_sem, seval]
  refine cX (zEH hv5) ?_
  simp only [go_sem, seval]
  apply grd_ <;> intro hb6
  ·have h := zAj hb6 h
   simp only [go_sem, seval]
   apply grd_ <;> intro hb7
   ·have h := zAj hb7 h
    simp only [go_sem, seval]
    cases h
    exact atJ (wkn Jy1 ⟨rfl, rfl, trivial⟩)
   have h := zAk hb7 h
   simp only [go_sem, seval]
   cases h
   exact atJ (wkn Jy1 ⟨rfl, rfl, trivial⟩)
  have h := zAk hb6 h
  simp only [go_sem, seval]
  cases h
  exact atJ (wkn Jy1 ⟨rfl, rfl, trivial⟩)
 have h := zAk hb4 h
 simp only [go_sem, seval]
 cases h
 exact atJ (wkn Jy1 ⟨rfl, rfl, trivial⟩)
theorem zHE {c : tCl} {r : Bool} (h : zCM c = some r) : zAe Tryz.prog 83 [zBh c] [] (.bool r) [] := by
 refine aX hf83 ok83 zAg ?_
 dsimp only [Tryz.f83, nums, Option.getD, List.append]
 unfold zCM at h
 refine zAb h fun v1 hv1 h => ?_
 simp only [go_sem, seval]
 refine cX (zRH hv1) ?_
 simp only [go_sem, seval]
 exact rS .bool h
theorem zIx {l : (List tCl)} {r : (Option Int)} (h : zCX l = some r) : zAe Tryz.prog 37 [.sl none (List.map zBh l)] [] (encE 86 r) [] := by
 refine aX hf37 ok37 zLU ?_
 dsimp only [Tryz.f37, nums, Option.getD, List.append]
 unfold zCX at h
 simp only [go_sem, seval]
 refine zAb h fun y1 hy1 h => ?_
 refine rgJ 11 10000 (.inl rfl) (fun w => w [(9, .bool y1)] []) (runX 10000 ?_) (fun Jy1 => ?_)
 ·clear hy1
  simp only [go_sem, seval]
  apply cS h <;> intro hb h
  ·simp only [go_sem, seval]
   exact rS (fun x => encE 86 x) h
  simp only [go_sem, seval]
  exact rS (fun x => encE 86 x) h
 clear h
 have h := hy1
 simp only [go_sem, seval]
 apply grd_ <;> intro hb3
 ·have h := zAj hb3 h
  refine zAb h fun v4 hv4 h => ?_
  simp only [go_sem, seval]
  refine cX (zK0 83 (fun _ _ h => zHE h) hv4) ?_
  simp only [go_sem, seval]
  cases h
  exact atJ (wkn Jy1 ⟨rfl, trivial⟩)
 have h := zAk hb3 h
 simp only [go_sem, seval]
 cases h
 exact atJ (wkn Jy1 ⟨rfl, trivial⟩)
theorem zK1 {slices : (List (List lWd))} {r : (List lWd)} (h : zFi slices = some r) : zGG Tryz.prog 60 [.sl none (List.map zD3 slices)] (.sl (some (some (74, 3))) (List.map zAv r)) := by
 refine acallXO (i := 2) 10000 hf60 ok60 (by kernel_rfl) ?_
 dsimp only [Tryz.f60, nums, Option.getD, List.append]
 unfold zFi at h
 simp only [go_sem, seval]
 refine zAb h fun y1 hy1 h => ?_
 refine blkJ 36 10000 (fun w => w [(0, .sl none (List.map zD3 slices)), (3, .int .i64 y1)] []) (runX 10000 ?_) (fun Jy1 => ?_)
 ·clear hy1
  refine zAb h fun v14 hv14 h => ?_
  simp only [go_sem, seval]
  refine cO (zJv hv14) ?_
  simp only [go_sem, seval]
  refine zAb h fun y15 hy15 h => ?_
  refine blkJ 36 10000 (fun w => w [(6, .sl (some (some (74, 3))) (List.map zAv y15))] []) (runX 10000 ?_) (fun Jy15 => ?_)
  ·clear hy15
   simp only [go_sem, seval]
   refine retO_s (fun x => .sl (some (some (74, 3))) (List.map zAv x)) h ?_
   first | rfl | simp only [go_sem, zAo, zAh, zAi, seval]
  clear h
  have h := hy15
  simp only [go_sem, seval]
  refine lpJ 36 fuel (fun q2 w => ∀ (v17 : (List lWd)) (v18 : Int), zBN slices q2 v17 v18 = some y15 → w [(6, .sl (some (some (74, 3))) (List.map zAv v17)), (25, .sl none (List.map zD3 slices)), (26, .int .i64 (slices.length : Int)), (27, .int .i64 v18)] []) (fun w _ _ h => nomatch h) (fun q2 ih2 v17 v18 h => ?_) (fun L2 => ?_)
  ·unfold zBN at h
   apply rL
   simp only [go_sem, seval]
   apply cS h <;> intro hb h
   ·simp only [go_sem, seval]
    apply bK
    refine zAp zD3 none .i64 ⟨70, 1, false, 24⟩ (fun _ => rfl) h fun v21 _ b19 e20 h => ?_
    refine zNW (E := (74, 3)) zAv none ⟨74, 3, true, 32⟩ (fun _ => rfl) (by decide) ⟨rfl, by first | exact .inl rfl | exact .inr rfl⟩ rfl h fun v24 _ b22 e23 h => ?_
    refine zAF h fun v26 _ e25 h => ?_
    simp only [go_sem, seval, b19, e20, b22, e23, e25]
    exact zAc (ih2 v24 v26 h) ⟨rfl, rfl, rfl, rfl, trivial⟩
   simp only [go_sem, seval]
   cases h
   exact atJ (wkn Jy15 ⟨rfl, trivial⟩)
  exact zAc (L2 v14 0 h) ⟨rfl, rfl, rfl, rfl, trivial⟩
 clear h
 have h := hy1
 simp only [go_sem, seval]
 refine lpJ 36 fuel (fun q1 w => ∀ (v3 : Int) (v4 : Int), zBJ slices q1 v3 v4 = some y1 → w [(0, .sl none (List.map zD3 slices)), (3, .int .i64 v3), (9, .sl none (List.map zD3 slices)), (10, .int .i64 (slices.length : Int)), (11, .int .i64 v4)] []) (fun w _ _ h => nomatch h) (fun q1 ih1 v3 v4 h => ?_) (fun L1 => ?_)
 ·unfold zBJ at h
  apply rL
  simp only [go_sem, seval]
  apply cS h <;> intro hb h
  ·simp only [go_sem, seval]
   apply bK
   refine zAp zD3 none .i64 ⟨70, 1, false, 24⟩ (fun _ => rfl) h fun v7 _ b5 e6 h => ?_
   refine zAF h fun v9 _ e8 h => ?_
   simp only [go_sem, seval, b5, e6, e8]
   refine zAb h fun y10 hy10 h => ?_
   refine cndJ 36 10000 (fun w => w [(0, .sl none (List.map zD3 slices)), (3, .int .i64 v9), (9, .sl none (List.map zD3 slices)), (10, .int .i64 (slices.length : Int)), (11, .int .i64 v4)] []) (runX 10000 ?_) (fun Jy10 => ?_)
   ·clear hy10
    refine zAF h fun v13 _ e12 h => ?_
    simp only [go_sem, seval, e12]
    exact zAc (ih1 v9 v13 h) ⟨rfl, rfl, rfl, rfl, rfl, trivial⟩
   clear h
   have h := hy10
   apply cS h <;> intro hb h
   ·exact nomatch h
   simp only [go_sem, seval]
   cases h
   exact atJ (wkn Jy10 ⟨rfl, rfl, rfl, rfl, rfl, trivial⟩)
  simp only [go_sem, seval]
  cases h
  exact atJ (wkn Jy1 ⟨rfl, rfl, trivial⟩)
 exact zAc (L1 0 0 h) ⟨rfl, rfl, rfl, rfl, rfl, trivial⟩
theorem zGD {l : (List tCl)} {r : (Str × (Option Int))} (h : zDf l = some r) : zAe Tryz.prog 20 [.sl none (List.map zBh l)] [] (.tup [.str r.1, encE 86 r.2]) [] := by
 refine aX hf20 ok20 zAC ?_
 dsimp only [Tryz.f20, nums, Option.getD, List.append]
 unfold zDf at h
 refine zAb h fun v1 hv1 h => ?_
 simp only [go_sem, seval]
 refine cX (zIx hv1) ?_
 simp only [go_sem, seval]
 apply cS h <;> intro hb h
 ·simp only [go_sem, seval]
  refine zBz (fun x => .tup [.str x.1, encE 86 x.2]) h ?_
  first | rfl | simp only [go_sem, zAo, zAh, zAi, seval]
 simp only [go_sem, seval]
 refine zIT 0 1 none [some [.str [], .sl none [], .sl (some none) [], .sl (some none) [], .sl (some none) [], .sl (some none) []]] rfl rfl ?_
 refine zIT 0 2 none [some [.str [], .sl none [], .sl none [], .sl (some none) [], .sl (some none) [], .sl (some none) []]] rfl rfl ?_
 refine zIT 0 3 none [some [.str [], .sl none [], .sl none [], .sl none [], .sl (some none) [], .sl (some none) []]] rfl rfl ?_
 refine zIT 0 4 none [some [.str [], .sl none [], .sl none [], .sl none [], .sl none [], .sl (some none) []]] rfl rfl ?_
 refine zIT 0 5 (some (some (74, 3))) [some [.str [], .sl none [], .sl none [], .sl none [], .sl none [], .sl (some (some (74, 3))) []]] rfl rfl ?_
 refine zBq h fun K3 hK3 h => ?_
 refine blkJ 77 10000 (fun w => ∀ (v67 : pwr), K3 v67 = some r → w [(5, .ptr 0 0)] [hT v67]) (fun v67 h => runX 10000 ?_) (fun JK3 => ?_)
 ·subst hK3
  dsimp only at h
  refine zAb h fun v68 hv68 h => ?_
  simp only [go_sem, seval]
  refine cX (zJS hv68) ?_
  simp only [go_sem, seval]
  refine zBz (fun x => .tup [.str x.1, encE 86 x.2]) h ?_
  first | rfl | simp only [go_sem, zAo, zAh, zAi, seval]
 clear hK3
 simp only [go_sem, seval]
 refine lpJ 77 fuel (fun q1 w => ∀ (v35 : Int) (v36 : pwr), zA9 l K3 q1 v35 v36 = some r → w [(5, .ptr 0 0), (17, .sl none (List.map zBh l)), (18, .int .i64 (l.length : Int)), (19, .int .i64 v35)] [hT v36]) (fun w _ _ h => nomatch h) (fun q1 ih1 v35 v36 h => ?_) (fun L1 => ?_)
 ·unfold zA9 at h
  apply rL
  simp only [go_sem, seval]
  apply cS h <;> intro hb h
  ·simp only [go_sem, seval]
   apply bK
   refine zAp zBh none .i64 ⟨81, 4, true, 80⟩ (fun _ => rfl) h fun v39 _ b37 e38 h => ?_
   refine zAb h fun v40 hv40 h => ?_
   simp only [go_sem, seval, b37, e38]
   refine cH [0] (zFB hv40) ?_
   refine zAb h fun v41 hv41 h => ?_
   simp only [go_sem, seval]
   refine cH [0] (zFB hv41) ?_
   refine zAb h fun v42 hv42 h => ?_
   simp only [go_sem, seval]
   refine cH [0] (zFB hv42) ?_
   refine zAb h fun v43 hv43 h => ?_
   simp only [go_sem, seval]
   refine cH [0] (zMu hv43) ?_
   refine zAb h fun v44 hv44 h => ?_
   simp only [go_sem, seval]
   refine cH [0] (zGm hv44) ?_
   simp only [go_sem, seval]
   refine zAb h fun y45 hy45 h => ?_
   refine blkJ 77 10000 (fun w => w [(5, .ptr 0 0), (17, .sl none (List.map zBh l)), (18, .int .i64 (l.length : Int)), (19, .int .i64 v35)] [some [.str v44.m.Sel, .sl none (List.map AV.str v44.m.Args), .sl none (List.map AV.str v44.m.Temps), .sl none (List.map zAu v44.m.Nodes), .sl none (List.map (AV.int .i64) v44.m.Body), .sl (some (some (74, 3))) (List.map zAv y45)], some [.str v39.Name, .str v39.Super, .sl none (List.map AV.str v39.Vars), .sl none (List.map zA5 v39.Methods)]]) (runX 10000 ?_) (fun Jy45 => ?_)
   ·clear hy45
    refine zAb h fun v64 hv64 h => ?_
    simp only [go_sem, seval]
    refine cH [0] (zGm hv64) ?_
    simp only [go_sem, seval]
    apply cS h <;> intro hb h
    ·simp only [go_sem, seval]
     refine zBz (fun x => .tup [.str x.1, encE 86 x.2]) h ?_
     first | rfl | simp only [go_sem, zAo, zAh, zAi, seval]
    refine zAF h fun v66 _ e65 h => ?_
    simp only [go_sem, seval, e65]
    exact zDx 1 (ih1 v66 v64 h) ⟨rfl, rfl, rfl, rfl, trivial⟩ rfl rfl rfl (by first | rfl | simp only [go_sem, ltF]) (by first | rfl | simp only [go_sem, zCu])
   clear h
   have h := hy45
   simp only [go_sem, seval]
   refine lpJ 77 fuel (fun q3 w => ∀ (v55 : Int) (v56 : (List lWd)), zBw v39 q3 v55 v56 = some y45 → w [(5, .ptr 0 0), (17, .sl none (List.map zBh l)), (18, .int .i64 (l.length : Int)), (19, .int .i64 v35), (41, .sl none (List.map zA5 v39.Methods)), (42, .int .i64 (v39.Methods.length : Int)), (43, .int .i64 v55)] [some [.str v44.m.Sel, .sl none (List.map AV.str v44.m.Args), .sl none (List.map AV.str v44.m.Temps), .sl none (List.map zAu v44.m.Nodes), .sl none (List.map (AV.int .i64) v44.m.Body), .sl (some (some (74, 3))) (List.map zAv v56)], some [.str v39.Name, .str v39.Super, .sl none (List.map AV.str v39.Vars), .sl none (List.map zA5 v39.Methods)]]) (fun w _ _ h => nomatch h) (fun q3 ih3 v55 v56 h => ?_) (fun L3 => ?_)
   ·unfold zBw at h
    apply rL
    simp only [go_sem, seval]
    apply cS h <;> intro hb h
    ·simp only [go_sem, seval]
     apply bK
     refine zAp zA5 none .i64 ⟨35, 5, true, 112⟩ (fun _ => rfl) h fun v59 _ b57 e58 h => ?_
     simp only [go_sem, seval, b57, e58]
     refine rg_ 10000 (.inr ⟨[(5, 0), (9, 2), (47, 0), (48, 0), (49, 0), (50, 0), (56, 0), (57, 0)], by kernel_rfl, by kernel_rfl, by rfl⟩) ?_
     refine zAb h fun v60 hv60 h => ?_
     simp only [go_sem, seval]
     refine cX (zG4 hv60) ?_
     refine zAb h fun v61 hv61 h => ?_
     simp only [go_sem, seval]
     refine cO (zK1 hv61) ?_
     refine zAF h fun v63 _ e62 h => ?_
     simp only [go_sem, seval, e62]
     exact zDx 2 (ih3 v63 v61 h) ⟨rfl, rfl, rfl, rfl, rfl, rfl, rfl, trivial⟩ rfl rfl rfl (by first | rfl | simp only [go_sem, ltF]) (by first | rfl | simp only [go_sem, zCu])
    simp only [go_sem, seval]
    cases h
    exact atJ (wkn Jy45 ⟨rfl, rfl, rfl, rfl, trivial⟩)
   exact zAc (L3 0 v44.l h) ⟨rfl, rfl, rfl, rfl, rfl, rfl, rfl, trivial⟩
  simp only [go_sem, seval]
  exact atJ (wkn (JK3 v36 h) ⟨rfl, trivial⟩)
 exact zAc (L1 0 (pwr.mk (tMt.mk [] [] [] [] []) []) h) ⟨rfl, rfl, rfl, rfl, trivial⟩
theorem zHX {r : Bool} (h : zFh = some r) : zAe Tryz.prog 14 [] [] (.bool r) [] := by
 refine aX hf14 ok14 zAg ?_
 dsimp only [Tryz.f14, nums, Option.getD, List.append]
 unfold zFh at h
 refine zAb h fun v1 hv1 h => ?_
 simp only [go_sem, seval]
 refine cX (zGC hv1) ?_
 refine zAb h fun v2 hv2 h => ?_
 simp only [go_sem, seval]
 refine cX (zGC hv2) ?_
 refine zAb h fun v3 hv3 h => ?_
 simp only [go_sem, seval]
 refine cX (zGD hv3) ?_
 simp only [go_sem, seval]
 refine zAb h fun y4 hy4 h => ?_
 refine rgJ 58 10000 (.inl rfl) (fun w => w [(0, .bool y4)] [some [.str [102, 111, 111], .sl (some none) [], .sl (some none) [], .sl (some none) [.agg [.int .u8 7, .str [120], .int .i64 0, .sl none [], .sl none []], .agg [.int .u8 5, .str [49], .int .i64 0, .sl none [], .sl none []], .agg [.int .u8 5, .str [45, 50], .int .i64 0, .sl none [], .sl none []], .agg [.int .u8 9, .str [43], .int .i64 0, .sl none [], .sl none [.int .i64 1, .int .i64 2]], .agg [.int .u8 9, .str [43], .int .i64 0, .sl none [], .sl none [.int .i64 0, .int .i64 3]], .agg [.int .u8 13, .str [], .int .i64 0, .sl none [], .sl none [.int .i64 4]]], .sl (some none) [.int .i64 5]]]) (runX 10000 ?_) (fun Jy4 => ?_)
 ·clear hy4
  simp only [go_sem, seval]
  exact rS .bool h
 clear h
 have h := hy4
 simp only [go_sem, seval]
 apply grd_ <;> intro hb6
 ·have h := zAk hb6 h
  simp only [go_sem, seval]
  apply grd_ <;> intro hb7
  ·have h := zAk hb7 h
   refine zAb h fun v8 hv8 h => ?_
   simp only [go_sem, seval]
   refine cX (zLp hv8) ?_
   simp only [go_sem, seval]
   apply grd_ <;> intro hb9
   ·have h := zAk hb9 h
    simp only [go_sem, seval]
    apply grd_ <;> intro hb10
    ·have h := zAk hb10 h
     simp only [go_sem, seval]
     cases h
     exact atJ (wkn Jy4 ⟨rfl, trivial⟩)
    have h := zAj hb10 h
    simp only [go_sem, seval]
    cases h
    exact atJ (wkn Jy4 ⟨rfl, trivial⟩)
   have h := zAj hb9 h
   simp only [go_sem, seval]
   cases h
   exact atJ (wkn Jy4 ⟨rfl, trivial⟩)
  have h := zAj hb7 h
  simp only [go_sem, seval]
  cases h
  exact atJ (wkn Jy4 ⟨rfl, trivial⟩)
 have h := zAj hb6 h
 simp only [go_sem, seval]
 cases h
 exact atJ (wkn Jy4 ⟨rfl, trivial⟩)
theorem zHq {m : rMt} {r : tMt} (h : zCx m = some r) : zAe Tryz.prog 16 [zBT m] [] (zA5 r) [] := by
 refine aX hf16 ok16 zN6 ?_
 dsimp only [Tryz.f16, nums, Option.getD, List.append]
 unfold zCx at h
 simp only [go_sem, seval]
 refine rg_ 10000 (.inr ⟨[(1, 0), (6, 0), (9, 0), (13, 0), (17, 0)], by kernel_rfl, by kernel_rfl, by rfl⟩) ?_
 refine zAQ AV.str none ⟨9, 1, false, 16⟩ (fun _ => rfl) (by decide) rfl h fun v3 _ (b1 : appc ⟨9, 1, false, 16⟩ (.sl (some none) []) (.sl none (List.map AV.str m.Args))) (e2 : appv (.sl (some none) []) (.sl none (List.map AV.str m.Args)) = .sl (some none) (List.map AV.str v3)) h => ?_
 refine zAQ AV.str none ⟨9, 1, false, 16⟩ (fun _ => rfl) (by decide) rfl h fun v6 _ (b4 : appc ⟨9, 1, false, 16⟩ (.sl (some none) []) (.sl none (List.map AV.str m.Temps))) (e5 : appv (.sl (some none) []) (.sl none (List.map AV.str m.Temps)) = .sl (some none) (List.map AV.str v6)) h => ?_
 refine zAQ (AV.int .i64) none ⟨3, 1, false, 8⟩ (fun _ => rfl) (by decide) rfl h fun v9 _ (b7 : appc ⟨3, 1, false, 8⟩ (.sl (some none) []) (.sl none (List.map (AV.int .i64) m.Body))) (e8 : appv (.sl (some none) []) (.sl none (List.map (AV.int .i64) m.Body)) = .sl (some none) (List.map (AV.int .i64) v9)) h => ?_
 simp only [go_sem, seval, b1, e2, b4, e5, b7, e8]
 refine zAb h fun y10 hy10 h => ?_
 refine blkJ 54 10000 (fun w => w [(2, .ptr 1 0), (3, .ptr 2 0)] [hR m, some [.str [], .sl (some none) [], .sl (some none) [], .sl (some none) [], .sl (some none) []], some [.str m.Sel, .sl none (List.map AV.str v3), .sl none (List.map AV.str v6), .sl (some none) (List.map zAu y10), .sl none (List.map (AV.int .i64) v9)]]) (runX 10000 ?_) (fun Jy10 => ?_)
 ·clear hy10
  simp only [go_sem, seval]
  exact rS zA5 h
 clear h
 have h := hy10
 simp only [go_sem, seval]
 refine lpJ 54 fuel (fun q1 w => ∀ (v27 : Int) (v28 : (List tNd)), zAT m q1 v27 v28 = some y10 → w [(1, .ptr 0 0), (2, .ptr 1 0), (3, .ptr 2 0), (4, .int .i64 v27)] [hR m, some [.str [], .sl (some none) [], .sl (some none) [], .sl (some none) [], .sl (some none) []], some [.str m.Sel, .sl none (List.map AV.str v3), .sl none (List.map AV.str v6), .sl (some none) (List.map zAu v28), .sl none (List.map (AV.int .i64) v9)]]) (fun w _ _ h => nomatch h) (fun q1 ih1 v27 v28 h => ?_) (fun L1 => ?_)
 ·unfold zAT at h
  apply rL
  simp only [go_sem, seval]
  apply cS h <;> intro hb h
  ·simp only [go_sem, seval]
   apply bK
   refine zAp zCk none .i64 ⟨78, 5, true, 80⟩ (fun _ => rfl) h fun v31 _ b29 e30 h => ?_
   simp only [go_sem, seval, b29, e30]
   refine rg_ 10000 (.inr ⟨[(3, 2), (5, 3), (33, 2), (35, 3), (37, 3), (39, 3), (42, 3), (46, 3), (52, 2)], by kernel_rfl, by kernel_rfl, by rfl⟩) ?_
   refine zAQ AV.str none ⟨9, 1, false, 16⟩ (fun _ => rfl) (by decide) rfl h fun v34 _ (b32 : appc ⟨9, 1, false, 16⟩ (.sl (some none) []) (.sl none (List.map AV.str v31.L))) (e33 : appv (.sl (some none) []) (.sl none (List.map AV.str v31.L)) = .sl (some none) (List.map AV.str v34)) h => ?_
   refine zAQ (AV.int .i64) none ⟨3, 1, false, 8⟩ (fun _ => rfl) (by decide) rfl h fun v37 _ (b35 : appc ⟨3, 1, false, 8⟩ (.sl (some none) []) (.sl none (List.map (AV.int .i64) v31.Kids))) (e36 : appv (.sl (some none) []) (.sl none (List.map (AV.int .i64) v31.Kids)) = .sl (some none) (List.map (AV.int .i64) v37)) h => ?_
   refine zAQ zAu (some none) ⟨59, 5, true, 80⟩ (fun _ => rfl) (by decide) rfl h fun v40 _ (b38 : appc ⟨59, 5, true, 80⟩ (.sl (some none) (List.map zAu v28)) (.sl (some none) [.agg [.int .u8 v31.K, .str v31.S, .int .i64 v31.N, .sl none (List.map AV.str v34), .sl none (List.map (AV.int .i64) v37)]])) (e39 : appv (.sl (some none) (List.map zAu v28)) (.sl (some none) [.agg [.int .u8 v31.K, .str v31.S, .int .i64 v31.N, .sl none (List.map AV.str v34), .sl none (List.map (AV.int .i64) v37)]]) = .sl (some none) (List.map zAu v40)) h => ?_
   refine zAF h fun v42 _ e41 h => ?_
   simp only [go_sem, seval, b32, e33, b35, e36, b38, e39, e41]
   exact zDx 3 (ih1 v42 v40 h) ⟨rfl, rfl, rfl, rfl, trivial⟩ rfl rfl rfl (by first | rfl | simp only [go_sem, ltF]) (by first | rfl | simp only [go_sem, zCu])
  simp only [go_sem, seval]
  cases h
  exact atJ (wkn Jy10 ⟨rfl, rfl, trivial⟩)
 exact zAc (L1 0 [] h) ⟨rfl, rfl, rfl, rfl, trivial⟩
theorem zHT {c : Int} {r : Bool} (h : zEa c = some r) : zAe Tryz.prog 180 [.int .u8 c] [] (.bool r) [] := by
 refine aX hf180 ok180 zAg ?_
 dsimp only [Tryz.f180, nums, Option.getD, List.append]
 unfold zEa at h
 simp only [go_sem, seval]
 refine zBq h fun K2 hK2 h => ?_
 refine blkJ 16 10000 (fun w => K2 () = some r → w [] []) (fun h => runX 10000 ?_) (fun JK2 => ?_)
 ·subst hK2
  dsimp only at h
  simp only [go_sem, seval]
  exact rS .bool h
 clear hK2
 simp only [go_sem, seval]
 refine lpJ 16 fuel (fun q1 w => ∀ (v3 : Int), zD7 c K2 q1 v3 = some r → w [(0, .int .u8 c), (3, .str [43, 45, 42, 47, 92, 60, 62, 61, 126, 44]), (4, .int .i64 v3)] []) (fun w _ h => nomatch h) (fun q1 ih1 v3 h => ?_) (fun L1 => ?_)
 ·unfold zD7 at h
  apply rL
  simp only [go_sem, seval]
  apply cS h <;> intro hb h
  ·simp only [go_sem, seval]
   apply bK
   refine zCN .i64 h fun v6 _ b4 e5 h => ?_
   simp only [go_sem, seval, b4, e5]
   apply cS h <;> intro hb h
   ·simp only [go_sem, seval]
    exact rS .bool h
   refine zAF h fun v8 _ e7 h => ?_
   simp only [go_sem, seval, e7]
   exact zAc (ih1 v8 h) ⟨rfl, rfl, rfl, trivial⟩
  simp only [go_sem, seval]
  exact atJ (wkn (JK2 h) trivial)
 exact zAc (L1 0 h) ⟨rfl, rfl, rfl, trivial⟩
theorem zHk {c : Int} {r : Bool} (h : zCJ c = some r) : zAe Tryz.prog 181 [.int .u8 c] [] (.bool r) [] := by
 refine aX hf181 ok181 zAg ?_
 dsimp only [Tryz.f181, nums, Option.getD, List.append]
 unfold zCJ at h
 simp only [go_sem, seval]
 refine rgJ 9 10000 (.inl rfl) (fun w => w [(2, .bool ((decide ((97 : Int) ≤ c)) && (decide (c ≤ 122))))] []) (runX 10000 ?_) (fun Jg1 => ?_)
 ·simp only [go_sem, seval]
  exact rS .bool h
 simp only [go_sem, seval]
 apply grd_ <;> intro hb2
 ·simp only [go_sem, seval]
  exact atJ (wkn Jg1 ⟨congrArg AV.bool (by first | rfl | (rw [hb2]; rfl) | (simp [hb2]; done) | simp_all), trivial⟩)
 simp only [go_sem, seval]
 exact atJ (wkn Jg1 ⟨congrArg AV.bool (by first | rfl | (rw [hb2]; rfl) | (simp [hb2]; done) | simp_all), trivial⟩)
end Go.Cq

