import Derived.Test.YtiboeelbmgnbgaaGreatDoorSh2
import Derived.Test.YtiboeelbmgnbgaaGreatDoorEnc
import Derived.Test.YtiboeelbmgnbgaaGreatDoorHan
set_option linter.unusedSectionVars false
set_option linter.unusedVariables false
set_option linter.unusedSimpArgs false
set_option linter.unnecessarySimpa false
set_option maxRecDepth 100000
set_option maxHeartbeats 4000000
namespace Go.Cq
open Go Go.Av Go.Proofs
variable [Lay] [SeatLay]
attribute [local irreducible] hold ex W Wr nd cndV rgO exitO grdO grdV grdG callX alcX stX nckX
theorem w_law16_bigTexts {l : (List Str)} {r : Bool} (h : law16_bigTexts l = some r) : ACall Tryz.prog 52 [.sl none (List.map AV.str l)] [] (.bool r) [] := by
 refine aX hf52 ok52 meek_bool ?_
 dsimp only [Tryz.f52, nums, Option.getD, List.append]
 unfold law16_bigTexts at h
 simp only [go_sem, seval]
 refine letK_s h fun K2 hK2 h => ?_
 refine blkJ 23 10000 (fun w => K2 () = some r → w [(0, .sl none (List.map AV.str l))] []) (fun h => runX 10000 ?_) (fun JK2 => ?_)
 ·subst hK2
  dsimp only at h
  simp only [go_sem, seval]
  exact rS (fun x => .bool x) h
 ·clear hK2
  simp only [go_sem, seval]
  refine lpJ 23 fuel (fun q1 w => ∀ (v3 : Int), law16_bigTexts_l1 l K2 q1 v3 = some r → w [(0, .sl none (List.map AV.str l)), (3, .int .i64 v3)] []) (fun w _ h => nomatch h) (fun q1 ih1 v3 h => ?_) (fun L1 => ?_)
  ·unfold law16_bigTexts_l1 at h
   refine rL ?_
   simp only [go_sem, seval]
   refine rgJ 23 10000 (.inl rfl) (fun w => w [(0, .sl none (List.map AV.str l)), (3, .int .i64 v3), (11, .bool ((decide (v3 < (l.length : Int))) && (decide (v3 < 40))))] []) (runX 10000 ?_) (fun Jg4 => ?_)
   ·simp only [go_sem, seval]
    refine cS h (fun hb h => ?_) fun hb h => ?_
    ·simp only [go_sem, seval]
     refine bK ?_
     refine lAt_s AV.str none .i64 ⟨9, 1, false, 16⟩ (fun _ => rfl) h fun v7 _ b5 e6 h => ?_
     simp only [go_sem, seval, b5, e6]
     refine cS h (fun hb h => ?_) fun hb h => ?_
     ·simp only [go_sem, seval]
      exact rS (fun x => .bool x) h
     ·refine add_s h fun v9 _ e8 h => ?_
      simp only [go_sem, seval, e8]
      exact lp_back (ih1 v9 h) ⟨rfl, rfl, trivial⟩
    ·simp only [go_sem, seval]
     exact atJ (wkn (JK2 h) ⟨rfl, trivial⟩)
   ·simp only [go_sem, seval]
    refine grd_ (fun hb10 => ?_) fun hb10 => ?_
    ·simp only [go_sem, seval]
     exact atJ (wkn Jg4 ⟨rfl, rfl, congrArg AV.bool (by first | rfl | (rw [hb10]; rfl) | (simp [hb10]; done) | simp_all), trivial⟩)
    ·simp only [go_sem, seval]
     exact atJ (wkn Jg4 ⟨rfl, rfl, congrArg AV.bool (by first | rfl | (rw [hb10]; rfl) | (simp [hb10]; done) | simp_all), trivial⟩)
  ·exact lp_back (L1 0 h) ⟨rfl, rfl, trivial⟩
theorem w_law16_bigTree {m : rMt} {r : Bool} (h : law16_bigTree m = some r) : ACall Tryz.prog 13 [enc_rMt m] [] (.bool r) [] := by
 refine aX hf13 ok13 meek_bool ?_
 dsimp only [Tryz.f13, nums, Option.getD, List.append]
 unfold law16_bigTree at h
 simp only [go_sem, seval]
 refine bsome h fun y1 hy1 h => ?_
 refine rgJ 58 10000 (.inl rfl) (fun w => w [(1, .ptr 0 0), (30, .bool y1)] [hR m]) (runX 10000 ?_) (fun Jy1 => ?_)
 ·clear hy1
  simp only [go_sem, seval]
  refine cS h (fun hb h => ?_) fun hb h => ?_
  ·simp only [go_sem, seval]
   exact rS (fun x => .bool x) h
  ·simp only [go_sem, seval]
   refine letK_s h fun K10 hK10 h => ?_
   refine blkJ 58 10000 (fun w => K10 () = some r → w [] [hR m]) (fun h => runX 10000 ?_) (fun JK10 => ?_)
   ·subst hK10
    dsimp only at h
    simp only [go_sem, seval]
    exact rS (fun x => .bool x) h
   ·clear hK10
    simp only [go_sem, seval]
    refine lpJ 58 fuel (fun q1 w => ∀ (v11 : Int), law16_bigTree_l1 m K10 q1 v11 = some r → w [(1, .ptr 0 0), (3, .int .i64 v11)] [hR m]) (fun w _ h => nomatch h) (fun q1 ih1 v11 h => ?_) (fun L1 => ?_)
    ·unfold law16_bigTree_l1 at h
     refine rL ?_
     simp only [go_sem, seval]
     refine cS h (fun hb h => ?_) fun hb h => ?_
     ·simp only [go_sem, seval]
      refine bK ?_
      refine lAt_s enc_rNd none .i64 ⟨78, 5, true, 80⟩ (fun _ => rfl) h fun v14 _ b12 e13 h => ?_
      simp only [go_sem, seval, b12, e13]
      refine bsome h fun y15 hy15 h => ?_
      refine rgJ 58 10000 (.inl rfl) (fun w => w [(1, .ptr 0 0), (3, .int .i64 v11), (57, .bool y15)] [hR m, hN v14.K v14.S v14.N v14.L v14.Kids]) (runX 10000 ?_) (fun Jy15 => ?_)
      ·clear hy15
       simp only [go_sem, seval]
       refine cS h (fun hb h => ?_) fun hb h => ?_
       ·simp only [go_sem, seval]
        exact rS (fun x => .bool x) h
       ·refine add_s h fun v21 _ e20 h => ?_
        simp only [go_sem, seval, e20]
        exact lp_backH 1 (ih1 v21 h) ⟨rfl, rfl, trivial⟩ rfl rfl rfl (by first | rfl | simp only [go_sem, ltF]) (by first | rfl | simp only [go_sem, allLt])
      ·clear h
       have h := hy15
       simp only [go_sem, seval]
       refine grd_ (fun hb17 => ?_) fun hb17 => ?_
       ·have h := ite_f hb17 h
        refine bsome h fun v18 hv18 h => ?_
        simp only [go_sem, seval]
        refine cX (w_law16_bigTexts hv18) ?_
        simp only [go_sem, seval]
        refine grd_ (fun hb19 => ?_) fun hb19 => ?_
        ·have h := ite_f hb19 h
         simp only [go_sem, seval]
         cases h
         exact atJ (wkn (Jy15) ⟨rfl, rfl, rfl, trivial⟩)
        ·have h := ite_t hb19 h
         simp only [go_sem, seval]
         cases h
         exact atJ (wkn (Jy15) ⟨rfl, rfl, rfl, trivial⟩)
       ·have h := ite_t hb17 h
        simp only [go_sem, seval]
        cases h
        exact atJ (wkn (Jy15) ⟨rfl, rfl, rfl, trivial⟩)
     ·simp only [go_sem, seval]
      exact atJ (wkn (JK10 h) trivial)
    ·exact lp_back (L1 0 h) ⟨rfl, rfl, trivial⟩
 ·clear h
  have h := hy1
  simp only [go_sem, seval]
  refine grd_ (fun hb3 => ?_) fun hb3 => ?_
  ·have h := ite_f hb3 h
   refine bsome h fun v4 hv4 h => ?_
   simp only [go_sem, seval]
   refine cX (w_law16_bigTexts hv4) ?_
   simp only [go_sem, seval]
   refine grd_ (fun hb5 => ?_) fun hb5 => ?_
   ·have h := ite_f hb5 h
    refine bsome h fun v6 hv6 h => ?_
    simp only [go_sem, seval]
    refine cX (w_law16_bigTexts hv6) ?_
    simp only [go_sem, seval]
    refine grd_ (fun hb7 => ?_) fun hb7 => ?_
    ·have h := ite_f hb7 h
     simp only [go_sem, seval]
     refine grd_ (fun hb8 => ?_) fun hb8 => ?_
     ·have h := ite_f hb8 h
      simp only [go_sem, seval]
      cases h
      exact atJ (wkn (Jy1) ⟨rfl, rfl, trivial⟩)
     ·have h := ite_t hb8 h
      simp only [go_sem, seval]
      cases h
      exact atJ (wkn (Jy1) ⟨rfl, rfl, trivial⟩)
    ·have h := ite_t hb7 h
     simp only [go_sem, seval]
     cases h
     exact atJ (wkn (Jy1) ⟨rfl, rfl, trivial⟩)
   ·have h := ite_t hb5 h
    simp only [go_sem, seval]
    cases h
    exact atJ (wkn (Jy1) ⟨rfl, rfl, trivial⟩)
  ·have h := ite_t hb3 h
   simp only [go_sem, seval]
   cases h
   exact atJ (wkn (Jy1) ⟨rfl, rfl, trivial⟩)
theorem w_sCostring_string {slices : (List (List Str))} {r : (List Str)} (h : sCostring_string slices = some r) : ACall Tryz.prog 63 [.sl none (List.map encL_string slices)] [] (.sl none (List.map AV.str r)) [] := by
 refine aX hf63 ok63 meek_sl ?_
 dsimp only [Tryz.f63, nums, Option.getD, List.append]
 unfold sCostring_string at h
 simp only [go_sem, seval]
 refine bsome h fun y1 hy1 h => ?_
 refine blkJ 36 10000 (fun w => w [(0, .sl none (List.map encL_string slices)), (3, .int .i64 y1)] []) (runX 10000 ?_) (fun Jy1 => ?_)
 ·clear hy1
  refine bsome h fun v14 hv14 h => ?_
  simp only [go_sem, seval]
  refine cO (w_slices_Grow hv14) ?_
  simp only [go_sem, seval]
  refine bsome h fun y15 hy15 h => ?_
  refine blkJ 36 10000 (fun w => w [(6, .sl (some (some (9, 1))) (List.map AV.str y15))] []) (runX 10000 ?_) (fun Jy15 => ?_)
  ·clear hy15
   simp only [go_sem, seval]
   exact rS (fun x => .sl none (List.map AV.str x)) h
  ·clear h
   have h := hy15
   simp only [go_sem, seval]
   refine lpJ 36 fuel (fun q2 w => ∀ (v17 : (List Str)) (v18 : Int), sCostring_string_l2 slices q2 v17 v18 = some y15 → w [(6, .sl (some (some (9, 1))) (List.map AV.str v17)), (25, .sl none (List.map encL_string slices)), (26, .int .i64 (slices.length : Int)), (27, .int .i64 v18)] []) (fun w _ _ h => nomatch h) (fun q2 ih2 v17 v18 h => ?_) (fun L2 => ?_)
   ·unfold sCostring_string_l2 at h
    refine rL ?_
    simp only [go_sem, seval]
    refine cS h (fun hb h => ?_) fun hb h => ?_
    ·simp only [go_sem, seval]
     refine bK ?_
     refine lAt_s encL_string none .i64 ⟨22, 1, false, 24⟩ (fun _ => rfl) h fun v21 _ b19 e20 h => ?_
     refine appE_s (E := (9, 1)) AV.str none ⟨9, 1, false, 16⟩ (fun _ => rfl) (by decide) ⟨rfl, by first | exact .inl rfl | exact .inr rfl⟩ rfl h fun v24 _ b22 e23 h => ?_
     refine add_s h fun v26 _ e25 h => ?_
     simp only [go_sem, seval, b19, e20, b22, e23, e25]
     exact lp_back (ih2 v24 v26 h) ⟨rfl, rfl, rfl, rfl, trivial⟩
    ·simp only [go_sem, seval]
     cases h
     exact atJ (wkn (Jy15) ⟨rfl, trivial⟩)
   ·exact lp_back (L2 v14 0 h) ⟨rfl, rfl, rfl, rfl, trivial⟩
 ·clear h
  have h := hy1
  simp only [go_sem, seval]
  refine lpJ 36 fuel (fun q1 w => ∀ (v3 : Int) (v4 : Int), sCostring_string_l1 slices q1 v3 v4 = some y1 → w [(0, .sl none (List.map encL_string slices)), (3, .int .i64 v3), (9, .sl none (List.map encL_string slices)), (10, .int .i64 (slices.length : Int)), (11, .int .i64 v4)] []) (fun w _ _ h => nomatch h) (fun q1 ih1 v3 v4 h => ?_) (fun L1 => ?_)
  ·unfold sCostring_string_l1 at h
   refine rL ?_
   simp only [go_sem, seval]
   refine cS h (fun hb h => ?_) fun hb h => ?_
   ·simp only [go_sem, seval]
    refine bK ?_
    refine lAt_s encL_string none .i64 ⟨22, 1, false, 24⟩ (fun _ => rfl) h fun v7 _ b5 e6 h => ?_
    refine add_s h fun v9 _ e8 h => ?_
    simp only [go_sem, seval, b5, e6, e8]
    refine bsome h fun y10 hy10 h => ?_
    refine cndJ 36 10000 (fun w => w [(0, .sl none (List.map encL_string slices)), (3, .int .i64 v9), (9, .sl none (List.map encL_string slices)), (10, .int .i64 (slices.length : Int)), (11, .int .i64 v4)] []) (runX 10000 ?_) (fun Jy10 => ?_)
    ·clear hy10
     refine add_s h fun v13 _ e12 h => ?_
     simp only [go_sem, seval, e12]
     exact lp_back (ih1 v9 v13 h) ⟨rfl, rfl, rfl, rfl, rfl, trivial⟩
    ·clear h
     have h := hy10
     refine cS h (fun hb h => ?_) fun hb h => ?_
     ·exact nomatch h
     ·simp only [go_sem, seval]
      cases h
      exact atJ (wkn (Jy10) ⟨rfl, rfl, rfl, rfl, rfl, trivial⟩)
   ·simp only [go_sem, seval]
    cases h
    exact atJ (wkn (Jy1) ⟨rfl, rfl, trivial⟩)
  ·exact lp_back (L1 0 0 h) ⟨rfl, rfl, rfl, rfl, rfl, trivial⟩
theorem w_sIFstring_string {s : (List Str)} {p1_f : (Str → Option Bool)} (fv_p1_f : FuncId) (hf_p1_f : ∀ (a0 : Str) (z : Bool), p1_f a0 = some z → ACall Tryz.prog fv_p1_f [.str a0] [] (.bool z) []) {r : Int} (h : sIFstring_string s p1_f = some r) : ACall Tryz.prog 185 [.sl none (List.map AV.str s), .fn (.func fv_p1_f) [] []] [] (.int .i64 r) [] := by
 refine aX hf185 ok185 meek_int ?_
 dsimp only [Tryz.f185, nums, Option.getD, List.append]
 unfold sIFstring_string at h
 simp only [go_sem, seval]
 refine letK_s h fun K2 hK2 h => ?_
 refine blkJ 19 10000 (fun w => K2 () = some r → w [] []) (fun h => runX 10000 ?_) (fun JK2 => ?_)
 ·subst hK2
  dsimp only at h
  simp only [go_sem, seval]
  exact rS (fun x => .int .i64 x) h
 ·clear hK2
  simp only [go_sem, seval]
  refine lpJ 19 fuel (fun q1 w => ∀ (v3 : Int), sIFstring_string_l1 s p1_f K2 q1 v3 = some r → w [(0, .sl none (List.map AV.str s)), (1, .fn (.func fv_p1_f) [] []), (7, .int .i64 (s.length : Int)), (8, .int .i64 v3)] []) (fun w _ h => nomatch h) (fun q1 ih1 v3 h => ?_) (fun L1 => ?_)
  ·unfold sIFstring_string_l1 at h
   refine rL ?_
   simp only [go_sem, seval]
   refine cS h (fun hb h => ?_) fun hb h => ?_
   ·simp only [go_sem, seval]
    refine bK ?_
    refine lAt_s AV.str none .i64 ⟨9, 1, false, 16⟩ (fun _ => rfl) h fun v6 _ b4 e5 h => ?_
    refine bsome h fun v7 hv7 h => ?_
    simp only [go_sem, seval, b4, e5]
    refine cX (hf_p1_f _ _ hv7) ?_
    simp only [go_sem, seval]
    refine cS h (fun hb h => ?_) fun hb h => ?_
    ·simp only [go_sem, seval]
     exact rS (fun x => .int .i64 x) h
    ·refine add_s h fun v9 _ e8 h => ?_
     simp only [go_sem, seval, e8]
     exact lp_back (ih1 v9 h) ⟨rfl, rfl, rfl, rfl, trivial⟩
   ·simp only [go_sem, seval]
    exact atJ (wkn (JK2 h) trivial)
  ·exact lp_back (L1 0 h) ⟨rfl, rfl, rfl, rfl, trivial⟩
theorem w_sCFstring_string {s : (List Str)} {p1_f : (Str → Option Bool)} (fv_p1_f : FuncId) (hf_p1_f : ∀ (a0 : Str) (z : Bool), p1_f a0 = some z → ACall Tryz.prog fv_p1_f [.str a0] [] (.bool z) []) {r : Bool} (h : sCFstring_string s p1_f = some r) : ACall Tryz.prog 130 [.sl none (List.map AV.str s), .fn (.func fv_p1_f) [] []] [] (.bool r) [] := by
 refine aX hf130 ok130 meek_bool ?_
 dsimp only [Tryz.f130, nums, Option.getD, List.append]
 unfold sCFstring_string at h
 refine bsome h fun v1 hv1 h => ?_
 simp only [go_sem, seval]
 refine cX (w_sIFstring_string fv_p1_f hf_p1_f hv1) ?_
 simp only [go_sem, seval]
 exact rS (fun x => .bool x) h
theorem w_internal_stringslite_HasSuffix {s : Str} {suffix : Str} {r : Bool} (h : internal_stringslite_HasSuffix s suffix = some r) : ACall Tryz.prog 218 [.str s, .str suffix] [] (.bool r) [] := by
 refine aX hf218 ok218 meek_bool ?_
 dsimp only [Tryz.f218, nums, Option.getD, List.append]
 unfold internal_stringslite_HasSuffix at h
 simp only [go_sem, seval]
 refine bsome h fun y1 hy1 h => ?_
 refine rgJ 21 10000 (.inl rfl) (fun w => w [(4, .bool y1)] []) (runX 10000 ?_) (fun Jy1 => ?_)
 ·clear hy1
  simp only [go_sem, seval]
  exact rS (fun x => .bool x) h
 ·clear h
  have h := hy1
  simp only [go_sem, seval]
  refine grd_ (fun hb3 => ?_) fun hb3 => ?_
  ·have h := ite_t hb3 h
   refine sub_s h fun v5 _ e4 h => ?_
   refine subS_s (some (.int .i64 v5)) none rfl rfl h fun v8 _ b6 e7 h => ?_
   simp only [go_sem, seval, e4, b6, e7]
   cases h
   exact atJ (wkn (Jy1) ⟨rfl, trivial⟩)
  ·have h := ite_f hb3 h
   simp only [go_sem, seval]
   cases h
   exact atJ (wkn (Jy1) ⟨rfl, trivial⟩)
theorem w_internal_stringslite_TrimSuffix {s : Str} {suffix : Str} {r : Str} (h : internal_stringslite_TrimSuffix s suffix = some r) : ACall Tryz.prog 202 [.str s, .str suffix] [] (.str r) [] := by
 refine aX hf202 ok202 meek_str ?_
 dsimp only [Tryz.f202, nums, Option.getD, List.append]
 unfold internal_stringslite_TrimSuffix at h
 refine bsome h fun v1 hv1 h => ?_
 simp only [go_sem, seval]
 refine cX (w_internal_stringslite_HasSuffix hv1) ?_
 simp only [go_sem, seval]
 refine cS h (fun hb h => ?_) fun hb h => ?_
 ·refine sub_s h fun v3 _ e2 h => ?_
  refine subS_s none (some (.int .i64 v3)) rfl rfl h fun v6 _ b4 e5 h => ?_
  simp only [go_sem, seval, e2, b4, e5]
  exact rS (fun x => .str x) h
 ·simp only [go_sem, seval]
  exact rS (fun x => .str x) h
theorem w_sTSf {s : Str} {suffix : Str} {r : Str} (h : sTSf s suffix = some r) : ACall Tryz.prog 163 [.str s, .str suffix] [] (.str r) [] := by
 refine aX hf163 ok163 meek_str ?_
 dsimp only [Tryz.f163, nums, Option.getD, List.append]
 unfold sTSf at h
 refine bsome h fun v1 hv1 h => ?_
 simp only [go_sem, seval]
 refine cX (w_internal_stringslite_TrimSuffix hv1) ?_
 simp only [go_sem, seval]
 exact rS (fun x => .str x) h
theorem w_sIFbyte_byte {s : (List Int)} {p1_f : (Int → Option Bool)} (fv_p1_f : FuncId) (hf_p1_f : ∀ (a0 : Int) (z : Bool), p1_f a0 = some z → ACall Tryz.prog fv_p1_f [.int .u8 a0] [] (.bool z) []) {r : Int} (h : sIFbyte_byte s p1_f = some r) : ACall Tryz.prog 246 [.sl none (List.map (AV.int .u8) s), .fn (.func fv_p1_f) [] []] [] (.int .i64 r) [] := by
 refine aX hf246 ok246 meek_int ?_
 dsimp only [Tryz.f246, nums, Option.getD, List.append]
 unfold sIFbyte_byte at h
 simp only [go_sem, seval]
 refine letK_s h fun K2 hK2 h => ?_
 refine blkJ 19 10000 (fun w => K2 () = some r → w [] []) (fun h => runX 10000 ?_) (fun JK2 => ?_)
 ·subst hK2
  dsimp only at h
  simp only [go_sem, seval]
  exact rS (fun x => .int .i64 x) h
 ·clear hK2
  simp only [go_sem, seval]
  refine lpJ 19 fuel (fun q1 w => ∀ (v3 : Int), sIFbyte_byte_l1 s p1_f K2 q1 v3 = some r → w [(0, .sl none (List.map (AV.int .u8) s)), (1, .fn (.func fv_p1_f) [] []), (7, .int .i64 (s.length : Int)), (8, .int .i64 v3)] []) (fun w _ h => nomatch h) (fun q1 ih1 v3 h => ?_) (fun L1 => ?_)
  ·unfold sIFbyte_byte_l1 at h
   refine rL ?_
   simp only [go_sem, seval]
   refine cS h (fun hb h => ?_) fun hb h => ?_
   ·simp only [go_sem, seval]
    refine bK ?_
    refine lAt_s (AV.int .u8) none .i64 ⟨5, 1, false, 1⟩ (fun _ => rfl) h fun v6 _ b4 e5 h => ?_
    refine bsome h fun v7 hv7 h => ?_
    simp only [go_sem, seval, b4, e5]
    refine cX (hf_p1_f _ _ hv7) ?_
    simp only [go_sem, seval]
    refine cS h (fun hb h => ?_) fun hb h => ?_
    ·simp only [go_sem, seval]
     exact rS (fun x => .int .i64 x) h
    ·refine add_s h fun v9 _ e8 h => ?_
     simp only [go_sem, seval, e8]
     exact lp_back (ih1 v9 h) ⟨rfl, rfl, rfl, rfl, trivial⟩
   ·simp only [go_sem, seval]
    exact atJ (wkn (JK2 h) trivial)
  ·exact lp_back (L1 0 h) ⟨rfl, rfl, rfl, rfl, trivial⟩
theorem w_sCFbyte_byte {s : (List Int)} {p1_f : (Int → Option Bool)} (fv_p1_f : FuncId) (hf_p1_f : ∀ (a0 : Int) (z : Bool), p1_f a0 = some z → ACall Tryz.prog fv_p1_f [.int .u8 a0] [] (.bool z) []) {r : Bool} (h : sCFbyte_byte s p1_f = some r) : ACall Tryz.prog 208 [.sl none (List.map (AV.int .u8) s), .fn (.func fv_p1_f) [] []] [] (.bool r) [] := by
 refine aX hf208 ok208 meek_bool ?_
 dsimp only [Tryz.f208, nums, Option.getD, List.append]
 unfold sCFbyte_byte at h
 refine bsome h fun v1 hv1 h => ?_
 simp only [go_sem, seval]
 refine cX (w_sIFbyte_byte fv_p1_f hf_p1_f hv1) ?_
 simp only [go_sem, seval]
 exact rS (fun x => .bool x) h
theorem w_method_letter {c : Int} {r : Bool} (h : method_letter c = some r) : ACall Tryz.prog 210 [.int .u8 c] [] (.bool r) [] := by
 refine aX hf210 ok210 meek_bool ?_
 dsimp only [Tryz.f210, nums, Option.getD, List.append]
 unfold method_letter at h
 simp only [go_sem, seval]
 refine rgJ 25 10000 (.inl rfl) (fun w => w [(2, .bool ((((decide ((97 : Int) ≤ c)) && (decide (c ≤ 122))) || ((decide ((65 : Int) ≤ c)) && (decide (c ≤ 90)))) || ((decide ((48 : Int) ≤ c)) && (decide (c ≤ 57)))))] []) (runX 10000 ?_) (fun Jg1 => ?_)
 ·simp only [go_sem, seval]
  exact rS (fun x => .bool x) h
 ·simp only [go_sem, seval]
  refine grd_ (fun hb2 => ?_) fun hb2 => ?_
  ·simp only [go_sem, seval]
   refine grd_ (fun hb3 => ?_) fun hb3 => ?_
   ·simp only [go_sem, seval]
    refine grd_ (fun hb4 => ?_) fun hb4 => ?_
    ·simp only [go_sem, seval]
     refine grd_ (fun hb5 => ?_) fun hb5 => ?_
     ·simp only [go_sem, seval]
      refine grd_ (fun hb6 => ?_) fun hb6 => ?_
      ·simp only [go_sem, seval]
       exact atJ (wkn Jg1 ⟨congrArg AV.bool (by first | rfl | (rw [hb2, hb3, hb4, hb5, hb6]; rfl) | (simp [hb2, hb3, hb4, hb5, hb6]; done) | simp_all), trivial⟩)
      ·simp only [go_sem, seval]
       exact atJ (wkn Jg1 ⟨congrArg AV.bool (by first | rfl | (rw [hb2, hb3, hb4, hb5, hb6]; rfl) | (simp [hb2, hb3, hb4, hb5, hb6]; done) | simp_all), trivial⟩)
     ·simp only [go_sem, seval]
      exact atJ (wkn Jg1 ⟨congrArg AV.bool (by first | rfl | (rw [hb2, hb3, hb4, hb5]; rfl) | (simp [hb2, hb3, hb4, hb5]; done) | simp_all), trivial⟩)
    ·simp only [go_sem, seval]
     refine grd_ (fun hb7 => ?_) fun hb7 => ?_
     ·simp only [go_sem, seval]
      exact atJ (wkn Jg1 ⟨congrArg AV.bool (by first | rfl | (rw [hb2, hb3, hb4, hb7]; rfl) | (simp [hb2, hb3, hb4, hb7]; done) | simp_all), trivial⟩)
     ·simp only [go_sem, seval]
      exact atJ (wkn Jg1 ⟨congrArg AV.bool (by first | rfl | (rw [hb2, hb3, hb4, hb7]; rfl) | (simp [hb2, hb3, hb4, hb7]; done) | simp_all), trivial⟩)
   ·simp only [go_sem, seval]
    exact atJ (wkn Jg1 ⟨congrArg AV.bool (by first | rfl | (rw [hb2, hb3]; rfl) | (simp [hb2, hb3]; done) | simp_all), trivial⟩)
  ·simp only [go_sem, seval]
   refine grd_ (fun hb8 => ?_) fun hb8 => ?_
   ·simp only [go_sem, seval]
    refine grd_ (fun hb9 => ?_) fun hb9 => ?_
    ·simp only [go_sem, seval]
     refine grd_ (fun hb10 => ?_) fun hb10 => ?_
     ·simp only [go_sem, seval]
      exact atJ (wkn Jg1 ⟨congrArg AV.bool (by first | rfl | (rw [hb2, hb8, hb9, hb10]; rfl) | (simp [hb2, hb8, hb9, hb10]; done) | simp_all), trivial⟩)
     ·simp only [go_sem, seval]
      exact atJ (wkn Jg1 ⟨congrArg AV.bool (by first | rfl | (rw [hb2, hb8, hb9, hb10]; rfl) | (simp [hb2, hb8, hb9, hb10]; done) | simp_all), trivial⟩)
    ·simp only [go_sem, seval]
     exact atJ (wkn Jg1 ⟨congrArg AV.bool (by first | rfl | (rw [hb2, hb8, hb9]; rfl) | (simp [hb2, hb8, hb9]; done) | simp_all), trivial⟩)
   ·simp only [go_sem, seval]
    refine grd_ (fun hb11 => ?_) fun hb11 => ?_
    ·simp only [go_sem, seval]
     exact atJ (wkn Jg1 ⟨congrArg AV.bool (by first | rfl | (rw [hb2, hb8, hb11]; rfl) | (simp [hb2, hb8, hb11]; done) | simp_all), trivial⟩)
    ·simp only [go_sem, seval]
     exact atJ (wkn Jg1 ⟨congrArg AV.bool (by first | rfl | (rw [hb2, hb8, hb11]; rfl) | (simp [hb2, hb8, hb11]; done) | simp_all), trivial⟩)
theorem w_method_name_1 {c : Int} {r : Bool} (h : method_name_1 c = some r) : ACall Tryz.prog 209 [.int .u8 c] [] (.bool r) [] := by
 refine aX hf209 ok209 meek_bool ?_
 dsimp only [Tryz.f209, nums, Option.getD, List.append]
 unfold method_name_1 at h
 refine bsome h fun v1 hv1 h => ?_
 simp only [go_sem, seval]
 refine cX (w_method_letter hv1) ?_
 simp only [go_sem, seval]
 exact rS (fun x => .bool x) h
theorem w_method_name {s : Str} {r : Bool} (h : method_name s = some r) : ACall Tryz.prog 173 [.str s] [] (.bool r) [] := by
 refine aX hf173 ok173 meek_bool ?_
 dsimp only [Tryz.f173, nums, Option.getD, List.append]
 unfold method_name at h
 simp only [go_sem, seval]
 refine bsome h fun y1 hy1 h => ?_
 refine rgJ 19 10000 (.inl rfl) (fun w => w [(0, .str s), (14, .bool y1)] []) (runX 10000 ?_) (fun Jy1 => ?_)
 ·clear hy1
  simp only [go_sem, seval]
  refine cS h (fun hb h => ?_) fun hb h => ?_
  ·simp only [go_sem, seval]
   exact rS (fun x => .bool x) h
  ·refine bsome h fun v10 hv10 h => ?_
   simp only [go_sem, seval, (bytes_e (P := Tryz.prog) (s := 9) (d := 148) (by rw [kd148]; rfl) (by rw [kd148]; rfl) s)]
   refine cX (w_sCFbyte_byte 209 (fun _ _ h => w_method_name_1 h) hv10) ?_
   simp only [go_sem, seval]
   exact rS (fun x => .bool x) h
 ·clear h
  have h := hy1
  simp only [go_sem, seval]
  refine grd_ (fun hb3 => ?_) fun hb3 => ?_
  ·have h := ite_f hb3 h
   refine sIdx_s .i64 h fun v6 _ b4 e5 h => ?_
   simp only [go_sem, seval, b4, e5]
   refine grd_ (fun hb7 => ?_) fun hb7 => ?_
   ·have h := ite_f hb7 h
    simp only [go_sem, seval, b4, e5]
    cases h
    exact atJ (wkn (Jy1) ⟨rfl, rfl, trivial⟩)
   ·have h := ite_t hb7 h
    simp only [go_sem, seval]
    cases h
    exact atJ (wkn (Jy1) ⟨rfl, rfl, trivial⟩)
  ·have h := ite_t hb3 h
   simp only [go_sem, seval]
   cases h
   exact atJ (wkn (Jy1) ⟨rfl, rfl, trivial⟩)
theorem w_sHSf {s : Str} {suffix : Str} {r : Bool} (h : sHSf s suffix = some r) : ACall Tryz.prog 175 [.str s, .str suffix] [] (.bool r) [] := by
 refine aX hf175 ok175 meek_bool ?_
 dsimp only [Tryz.f175, nums, Option.getD, List.append]
 unfold sHSf at h
 refine bsome h fun v1 hv1 h => ?_
 simp only [go_sem, seval]
 refine cX (w_internal_stringslite_HasSuffix hv1) ?_
 simp only [go_sem, seval]
 exact rS (fun x => .bool x) h
theorem w_method_Arity_1 {s : Str} {r : Bool} (h : method_Arity_1 s = some r) : ACall Tryz.prog 176 [.str s] [] (.bool r) [] := by
 refine aX hf176 ok176 meek_bool ?_
 dsimp only [Tryz.f176, nums, Option.getD, List.append]
 unfold method_Arity_1 at h
 refine bsome h fun v1 hv1 h => ?_
 simp only [go_sem, seval]
 refine cX (w_method_name hv1) ?_
 simp only [go_sem, seval]
 exact rS (fun x => .bool x) h
theorem w_method_Arity {sel : Str} {r : (Int × Bool)} (h : method_Arity sel = some r) : ACall Tryz.prog 118 [.str sel] [] (.tup [.int .i64 r.1, .bool r.2]) [] := by
 refine aX hf118 ok118 meek_tup ?_
 dsimp only [Tryz.f118, nums, Option.getD, List.append]
 unfold method_Arity at h
 simp only [go_sem, seval]
 refine bK ?_
 simp only [go_sem, seval]
 refine rgJ 41 10000 (.inl rfl) (fun w => w [(0, .str sel), (5, .bool ((sel == []) || (decide ((64 : Int) < (sel.length : Int)))))] []) (runX 10000 ?_) (fun Jg1 => ?_)
 ·simp only [go_sem, seval]
  refine cS h (fun hb h => ?_) fun hb h => ?_
  ·simp only [go_sem, seval]
   refine ret_s (fun x => .tup [.int .i64 x.1, .bool x.2]) h ?_
   first | rfl | simp only [go_sem, resAV, resAll, resOne, seval]
  ·refine bsome h fun v2 hv2 h => ?_
   simp only [go_sem, seval]
   refine cX (w_method_name hv2) ?_
   simp only [go_sem, seval]
   refine cS h (fun hb h => ?_) fun hb h => ?_
   ·simp only [go_sem, seval]
    refine ret_s (fun x => .tup [.int .i64 x.1, .bool x.2]) h ?_
    first | rfl | simp only [go_sem, resAV, resAll, resOne, seval]
   ·simp only [go_sem, seval]
    refine bsome h fun y3 hy3 h => ?_
    refine rgJ 41 10000 (.inl rfl) (fun w => w [(0, .str sel), (16, .bool y3)] []) (runX 10000 ?_) (fun Jy3 => ?_)
    ·clear hy3
     simp only [go_sem, seval]
     refine cS h (fun hb h => ?_) fun hb h => ?_
     ·simp only [go_sem, seval]
      refine ret_s (fun x => .tup [.int .i64 x.1, .bool x.2]) h ?_
      first | rfl | simp only [go_sem, resAV, resAll, resOne, seval]
     ·refine bsome h fun v7 hv7 h => ?_
      simp only [go_sem, seval]
      refine cX (w_sHSf hv7) ?_
      simp only [go_sem, seval]
      refine cS h (fun hb h => ?_) fun hb h => ?_
      ·simp only [go_sem, seval]
       refine ret_s (fun x => .tup [.int .i64 x.1, .bool x.2]) h ?_
       first | rfl | simp only [go_sem, resAV, resAll, resOne, seval]
      ·refine bsome h fun v8 hv8 h => ?_
       simp only [go_sem, seval]
       refine cX (w_sTSf hv8) ?_
       refine bsome h fun v9 hv9 h => ?_
       simp only [go_sem, seval]
       refine cX (w_strings_Split hv9) ?_
       simp only [go_sem, seval]
       refine bsome h fun y10 hy10 h => ?_
       refine rgJ 41 10000 (.inl rfl) (fun w => w [(4, .sl none (List.map AV.str v9)), (38, .bool y10)] []) (runX 10000 ?_) (fun Jy10 => ?_)
       ·clear hy10
        simp only [go_sem, seval]
        refine cS h (fun hb h => ?_) fun hb h => ?_
        ·simp only [go_sem, seval]
         refine ret_s (fun x => .tup [.int .i64 x.1, .bool x.2]) h ?_
         first | rfl | simp only [go_sem, resAV, resAll, resOne, seval]
        ·simp only [go_sem, seval]
         refine ret_s (fun x => .tup [.int .i64 x.1, .bool x.2]) h ?_
         first | rfl | simp only [go_sem, resAV, resAll, resOne, seval]
       ·clear h
        have h := hy10
        simp only [go_sem, seval]
        refine grd_ (fun hb12 => ?_) fun hb12 => ?_
        ·have h := ite_f hb12 h
         refine bsome h fun v13 hv13 h => ?_
         simp only [go_sem, seval]
         refine cX (w_sCFstring_string 176 (fun _ _ h => w_method_Arity_1 h) hv13) ?_
         simp only [go_sem, seval]
         cases h
         exact atJ (wkn (Jy10) ⟨rfl, rfl, trivial⟩)
        ·have h := ite_t hb12 h
         simp only [go_sem, seval]
         cases h
         exact atJ (wkn (Jy10) ⟨rfl, rfl, trivial⟩)
    ·clear h
     have h := hy3
     refine bsome h fun v5 hv5 h => ?_
     simp only [go_sem, seval]
     refine cX (w_strings_Trim hv5) ?_
     simp only [go_sem, seval]
     refine grd_ (fun hb6 => ?_) fun hb6 => ?_
     ·have h := ite_t hb6 h
      simp only [go_sem, seval]
      cases h
      exact atJ (wkn (Jy3) ⟨rfl, rfl, trivial⟩)
     ·have h := ite_f hb6 h
      simp only [go_sem, seval]
      cases h
      exact atJ (wkn (Jy3) ⟨rfl, rfl, trivial⟩)
 ·simp only [go_sem, seval]
  refine grd_ (fun hb14 => ?_) fun hb14 => ?_
  ·simp only [go_sem, seval]
   exact atJ (wkn Jg1 ⟨rfl, congrArg AV.bool (by first | rfl | (rw [hb14]; rfl) | (simp [hb14]; done) | simp_all), trivial⟩)
  ·simp only [go_sem, seval]
   exact atJ (wkn Jg1 ⟨rfl, congrArg AV.bool (by first | rfl | (rw [hb14]; rfl) | (simp [hb14]; done) | simp_all), trivial⟩)
theorem w_tree_sends {sel : Str} {n : Int} {r : Bool} (h : tree_sends sel n = some r) : ACall Tryz.prog 64 [.str sel, .int .i64 n] [] (.bool r) [] := by
 refine aX hf64 ok64 meek_bool ?_
 dsimp only [Tryz.f64, nums, Option.getD, List.append]
 unfold tree_sends at h
 refine bsome h fun v1 hv1 h => ?_
 simp only [go_sem, seval]
 refine cX (w_method_Arity hv1) ?_
 simp only [go_sem, seval]
 refine rgJ 18 10000 (.inl rfl) (fun w => w [(4, .bool (v1.2 && (decide (v1.1 = n))))] []) (runX 10000 ?_) (fun Jg2 => ?_)
 ·simp only [go_sem, seval]
  exact rS (fun x => .bool x) h
 ·simp only [go_sem, seval]
  refine grd_ (fun hb3 => ?_) fun hb3 => ?_
  ·simp only [go_sem, seval]
   exact atJ (wkn Jg2 ⟨congrArg AV.bool (by first | rfl | (rw [hb3]; rfl) | (simp [hb3]; done) | simp_all), trivial⟩)
  ·simp only [go_sem, seval]
   exact atJ (wkn Jg2 ⟨congrArg AV.bool (by first | rfl | (rw [hb3]; rfl) | (simp [hb3]; done) | simp_all), trivial⟩)
theorem w_slices_Index_Lstring_string {s : (List Str)} {p1_v : Str} {r : Int} (h : slices_Index_Lstring_string s p1_v = some r) : ACall Tryz.prog 177 [.sl none (List.map AV.str s), .str p1_v] [] (.int .i64 r) [] := by
 refine aX hf177 ok177 meek_int ?_
 dsimp only [Tryz.f177, nums, Option.getD, List.append]
 unfold slices_Index_Lstring_string at h
 simp only [go_sem, seval]
 refine letK_s h fun K2 hK2 h => ?_
 refine blkJ 19 10000 (fun w => K2 () = some r → w [] []) (fun h => runX 10000 ?_) (fun JK2 => ?_)
 ·subst hK2
  dsimp only at h
  simp only [go_sem, seval]
  exact rS (fun x => .int .i64 x) h
 ·clear hK2
  simp only [go_sem, seval]
  refine lpJ 19 fuel (fun q1 w => ∀ (v3 : Int), slices_Index_Lstring_string_l1 s p1_v K2 q1 v3 = some r → w [(0, .sl none (List.map AV.str s)), (1, .str p1_v), (7, .int .i64 (s.length : Int)), (8, .int .i64 v3)] []) (fun w _ h => nomatch h) (fun q1 ih1 v3 h => ?_) (fun L1 => ?_)
  ·unfold slices_Index_Lstring_string_l1 at h
   refine rL ?_
   simp only [go_sem, seval]
   refine cS h (fun hb h => ?_) fun hb h => ?_
   ·simp only [go_sem, seval]
    refine bK ?_
    refine lAt_s AV.str none .i64 ⟨9, 1, false, 16⟩ (fun _ => rfl) h fun v6 _ b4 e5 h => ?_
    simp only [go_sem, seval, b4, e5]
    refine cS h (fun hb h => ?_) fun hb h => ?_
    ·simp only [go_sem, seval]
     exact rS (fun x => .int .i64 x) h
    ·refine add_s h fun v8 _ e7 h => ?_
     simp only [go_sem, seval, e7]
     exact lp_back (ih1 v8 h) ⟨rfl, rfl, rfl, rfl, trivial⟩
   ·simp only [go_sem, seval]
    exact atJ (wkn (JK2 h) trivial)
  ·exact lp_back (L1 0 h) ⟨rfl, rfl, rfl, rfl, trivial⟩
theorem w_slices_Contains_Lstring_string {s : (List Str)} {p1_v : Str} {r : Bool} (h : slices_Contains_Lstring_string s p1_v = some r) : ACall Tryz.prog 120 [.sl none (List.map AV.str s), .str p1_v] [] (.bool r) [] := by
 refine aX hf120 ok120 meek_bool ?_
 dsimp only [Tryz.f120, nums, Option.getD, List.append]
 unfold slices_Contains_Lstring_string at h
 refine bsome h fun v1 hv1 h => ?_
 simp only [go_sem, seval]
 refine cX (w_slices_Index_Lstring_string hv1) ?_
 simp only [go_sem, seval]
 exact rS (fun x => .bool x) h
theorem w_internal_stringslite_IndexByte {s : Str} {c : Int} {r : Int} (h : internal_stringslite_IndexByte s c = some r) : ACall Tryz.prog 147 [.str s, .int .u8 c] [] (.int .i64 r) [] := by
 refine aX hf147 ok147 meek_int ?_
 dsimp only [Tryz.f147, nums, Option.getD, List.append]
 unfold internal_stringslite_IndexByte at h
 refine bsome h fun v1 hv1 h => ?_
 simp only [go_sem, seval]
 refine cX (w_bytealg_idx hv1) ?_
 simp only [go_sem, seval]
 exact rS (fun x => .int .i64 x) h
theorem w_strings_IndexByte {s : Str} {c : Int} {r : Int} (h : strings_IndexByte s c = some r) : ACall Tryz.prog 100 [.str s, .int .u8 c] [] (.int .i64 r) [] := by
 refine aX hf100 ok100 meek_int ?_
 dsimp only [Tryz.f100, nums, Option.getD, List.append]
 unfold strings_IndexByte at h
 refine bsome h fun v1 hv1 h => ?_
 simp only [go_sem, seval]
 refine cX (w_internal_stringslite_IndexByte hv1) ?_
 simp only [go_sem, seval]
 exact rS (fun x => .int .i64 x) h
theorem w_tree_named {s : Str} {first : Str} {r : Bool} (h : tree_named s first = some r) : ACall Tryz.prog 129 [.str s, .str first] [] (.bool r) [] := by
 refine aX hf129 ok129 meek_bool ?_
 dsimp only [Tryz.f129, nums, Option.getD, List.append]
 unfold tree_named at h
 simp only [go_sem, seval]
 refine bsome h fun y1 hy1 h => ?_
 refine rgJ 24 10000 (.inl rfl) (fun w => w [(4, .bool y1)] []) (runX 10000 ?_) (fun Jy1 => ?_)
 ·clear hy1
  simp only [go_sem, seval]
  exact rS (fun x => .bool x) h
 ·clear h
  have h := hy1
  simp only [go_sem, seval]
  refine grd_ (fun hb3 => ?_) fun hb3 => ?_
  ·have h := ite_t hb3 h
   simp only [go_sem, seval]
   refine grd_ (fun hb4 => ?_) fun hb4 => ?_
   ·have h := ite_t hb4 h
    refine sIdx_s .i64 h fun v7 _ b5 e6 h => ?_
    refine bsome h fun v8 hv8 h => ?_
    simp only [go_sem, seval, b5, e6]
    refine cX (w_strings_IndexByte hv8) ?_
    simp only [go_sem, seval]
    refine grd_ (fun hb9 => ?_) fun hb9 => ?_
    ·have h := ite_t hb9 h
     refine bsome h fun v10 hv10 h => ?_
     simp only [go_sem, seval]
     refine cX (w_strings_Trim hv10) ?_
     simp only [go_sem, seval]
     cases h
     exact atJ (wkn (Jy1) ⟨rfl, trivial⟩)
    ·have h := ite_f hb9 h
     simp only [go_sem, seval]
     cases h
     exact atJ (wkn (Jy1) ⟨rfl, trivial⟩)
   ·have h := ite_f hb4 h
    simp only [go_sem, seval]
    cases h
    exact atJ (wkn (Jy1) ⟨rfl, trivial⟩)
  ·have h := ite_f hb3 h
   simp only [go_sem, seval]
   cases h
   exact atJ (wkn (Jy1) ⟨rfl, trivial⟩)
theorem w_tree_variable {s : Str} {r : Bool} (h : tree_variable s = some r) : ACall Tryz.prog 119 [.str s] [] (.bool r) [] := by
 refine aX hf119 ok119 meek_bool ?_
 dsimp only [Tryz.f119, nums, Option.getD, List.append]
 unfold tree_variable at h
 simp only [go_sem, seval]
 refine bsome h fun y1 hy1 h => ?_
 refine rgJ 11 10000 (.inl rfl) (fun w => w [(2, .bool y1)] []) (runX 10000 ?_) (fun Jy1 => ?_)
 ·clear hy1
  simp only [go_sem, seval]
  exact rS (fun x => .bool x) h
 ·clear h
  have h := hy1
  refine bsome h fun v3 hv3 h => ?_
  simp only [go_sem, seval]
  refine cX (w_tree_named hv3) ?_
  simp only [go_sem, seval]
  refine grd_ (fun hb4 => ?_) fun hb4 => ?_
  ·have h := ite_t hb4 h
   refine bsome h fun v5 hv5 h => ?_
   simp only [go_sem, seval]
   refine cX (w_slices_Contains_Lstring_string hv5) ?_
   simp only [go_sem, seval]
   cases h
   exact atJ (wkn (Jy1) ⟨rfl, trivial⟩)
  ·have h := ite_f hb4 h
   simp only [go_sem, seval]
   cases h
   exact atJ (wkn (Jy1) ⟨rfl, trivial⟩)
theorem w_tree_unlike {l : (List Str)} {r : Bool} (h : tree_unlike l = some r) : ACall Tryz.prog 65 [.sl none (List.map AV.str l)] [] (.bool r) [] := by
 refine aX hf65 ok65 meek_bool ?_
 dsimp only [Tryz.f65, nums, Option.getD, List.append]
 unfold tree_unlike at h
 simp only [go_sem, seval]
 refine letK_s h fun K2 hK2 h => ?_
 refine blkJ 23 10000 (fun w => K2 () = some r → w [] []) (fun h => runX 10000 ?_) (fun JK2 => ?_)
 ·subst hK2
  dsimp only at h
  simp only [go_sem, seval]
  exact rS (fun x => .bool x) h
 ·clear hK2
  simp only [go_sem, seval]
  refine lpJ 23 fuel (fun q1 w => ∀ (v3 : Int), tree_unlike_l1 l K2 q1 v3 = some r → w [(0, .sl none (List.map AV.str l)), (5, .sl none (List.map AV.str l)), (6, .int .i64 (l.length : Int)), (7, .int .i64 v3)] []) (fun w _ h => nomatch h) (fun q1 ih1 v3 h => ?_) (fun L1 => ?_)
  ·unfold tree_unlike_l1 at h
   refine rL ?_
   simp only [go_sem, seval]
   refine cS h (fun hb h => ?_) fun hb h => ?_
   ·simp only [go_sem, seval]
    refine bK ?_
    refine lAt_s AV.str none .i64 ⟨9, 1, false, 16⟩ (fun _ => rfl) h fun v6 _ b4 e5 h => ?_
    simp only [go_sem, seval, b4, e5]
    refine bsome h fun y7 hy7 h => ?_
    refine rgJ 23 10000 (.inl rfl) (fun w => w [(0, .sl none (List.map AV.str l)), (5, .sl none (List.map AV.str l)), (6, .int .i64 (l.length : Int)), (7, .int .i64 v3), (21, .bool y7)] []) (runX 10000 ?_) (fun Jy7 => ?_)
    ·clear hy7
     simp only [go_sem, seval]
     refine cS h (fun hb h => ?_) fun hb h => ?_
     ·simp only [go_sem, seval]
      exact rS (fun x => .bool x) h
     ·refine add_s h fun v16 _ e15 h => ?_
      simp only [go_sem, seval, e15]
      exact lp_back (ih1 v16 h) ⟨rfl, rfl, rfl, rfl, trivial⟩
    ·clear h
     have h := hy7
     refine bsome h fun v9 hv9 h => ?_
     simp only [go_sem, seval]
     refine cX (w_tree_variable hv9) ?_
     simp only [go_sem, seval]
     refine grd_ (fun hb10 => ?_) fun hb10 => ?_
     ·have h := ite_f hb10 h
      refine subL_s AV.str none ⟨9, 1, false, 16⟩ (fun _ => rfl) none (some (.int .i64 v3)) rfl rfl h fun v13 _ b11 e12 h => ?_
      refine bsome h fun v14 hv14 h => ?_
      simp only [go_sem, seval, b11, e12]
      refine cX (w_slices_Contains_Lstring_string hv14) ?_
      simp only [go_sem, seval]
      cases h
      exact atJ (wkn (Jy7) ⟨rfl, rfl, rfl, rfl, rfl, trivial⟩)
     ·have h := ite_t hb10 h
      simp only [go_sem, seval]
      cases h
      exact atJ (wkn (Jy7) ⟨rfl, rfl, rfl, rfl, rfl, trivial⟩)
   ·simp only [go_sem, seval]
    exact atJ (wkn (JK2 h) trivial)
  ·exact lp_back (L1 0 h) ⟨rfl, rfl, rfl, rfl, trivial⟩
theorem w_tNd_bare {n : tNd} {text : Bool} {names : Bool} {kids : Bool} {r : Bool} (h : tNd_bare n text names kids = some r) : ACall Tryz.prog 178 [enc_tNd n, .bool text, .bool names, .bool kids] [] (.bool r) [] := by
 refine aX hf178 ok178 meek_bool ?_
 dsimp only [Tryz.f178, nums, Option.getD, List.append]
 unfold tNd_bare at h
 simp only [go_sem, seval]
 refine rgJ 38 10000 (.inl rfl) (fun w => w [(8, .bool (((text || (n.S == [])) && (names || ((decide (n.N = 0)) && (decide ((n.L.length : Int) = 0))))) && (kids || (decide ((n.Kids.length : Int) = 0)))))] [hN n.K n.S n.N n.L n.Kids]) (runX 10000 ?_) (fun Jg1 => ?_)
 ·simp only [go_sem, seval]
  exact rS (fun x => .bool x) h
 ·simp only [go_sem, seval]
  refine grd_ (fun hb2 => ?_) fun hb2 => ?_
  ·simp only [go_sem, seval]
   refine grd_ (fun hb3 => ?_) fun hb3 => ?_
   ·simp only [go_sem, seval]
    refine grd_ (fun hb4 => ?_) fun hb4 => ?_
    ·simp only [go_sem, seval]
     refine grd_ (fun hb5 => ?_) fun hb5 => ?_
     ·simp only [go_sem, seval]
      refine grd_ (fun hb6 => ?_) fun hb6 => ?_
      ·simp only [go_sem, seval]
       refine grd_ (fun hb7 => ?_) fun hb7 => ?_
       ·simp only [go_sem, seval]
        exact atJ (wkn Jg1 ⟨congrArg AV.bool (by first | rfl | (rw [hb2, hb3, hb4, hb5, hb6, hb7]; rfl) | (simp [hb2, hb3, hb4, hb5, hb6, hb7]; done) | simp_all), trivial⟩)
       ·simp only [go_sem, seval]
        exact atJ (wkn Jg1 ⟨congrArg AV.bool (by first | rfl | (rw [hb2, hb3, hb4, hb5, hb6, hb7]; rfl) | (simp [hb2, hb3, hb4, hb5, hb6, hb7]; done) | simp_all), trivial⟩)
      ·simp only [go_sem, seval]
       exact atJ (wkn Jg1 ⟨congrArg AV.bool (by first | rfl | (rw [hb2, hb3, hb4, hb5, hb6]; rfl) | (simp [hb2, hb3, hb4, hb5, hb6]; done) | simp_all), trivial⟩)
     ·simp only [go_sem, seval]
      exact atJ (wkn Jg1 ⟨congrArg AV.bool (by first | rfl | (rw [hb2, hb3, hb4, hb5]; rfl) | (simp [hb2, hb3, hb4, hb5]; done) | simp_all), trivial⟩)
    ·simp only [go_sem, seval]
     refine grd_ (fun hb8 => ?_) fun hb8 => ?_
     ·simp only [go_sem, seval]
      exact atJ (wkn Jg1 ⟨congrArg AV.bool (by first | rfl | (rw [hb2, hb3, hb4, hb8]; rfl) | (simp [hb2, hb3, hb4, hb8]; done) | simp_all), trivial⟩)
     ·simp only [go_sem, seval]
      exact atJ (wkn Jg1 ⟨congrArg AV.bool (by first | rfl | (rw [hb2, hb3, hb4, hb8]; rfl) | (simp [hb2, hb3, hb4, hb8]; done) | simp_all), trivial⟩)
   ·simp only [go_sem, seval]
    exact atJ (wkn Jg1 ⟨congrArg AV.bool (by first | rfl | (rw [hb2, hb3]; rfl) | (simp [hb2, hb3]; done) | simp_all), trivial⟩)
  ·simp only [go_sem, seval]
   refine grd_ (fun hb9 => ?_) fun hb9 => ?_
   ·simp only [go_sem, seval]
    refine grd_ (fun hb10 => ?_) fun hb10 => ?_
    ·simp only [go_sem, seval]
     refine grd_ (fun hb11 => ?_) fun hb11 => ?_
     ·simp only [go_sem, seval]
      refine grd_ (fun hb12 => ?_) fun hb12 => ?_
      ·simp only [go_sem, seval]
       exact atJ (wkn Jg1 ⟨congrArg AV.bool (by first | rfl | (rw [hb2, hb9, hb10, hb11, hb12]; rfl) | (simp [hb2, hb9, hb10, hb11, hb12]; done) | simp_all), trivial⟩)
      ·simp only [go_sem, seval]
       exact atJ (wkn Jg1 ⟨congrArg AV.bool (by first | rfl | (rw [hb2, hb9, hb10, hb11, hb12]; rfl) | (simp [hb2, hb9, hb10, hb11, hb12]; done) | simp_all), trivial⟩)
     ·simp only [go_sem, seval]
      exact atJ (wkn Jg1 ⟨congrArg AV.bool (by first | rfl | (rw [hb2, hb9, hb10, hb11]; rfl) | (simp [hb2, hb9, hb10, hb11]; done) | simp_all), trivial⟩)
    ·simp only [go_sem, seval]
     exact atJ (wkn Jg1 ⟨congrArg AV.bool (by first | rfl | (rw [hb2, hb9, hb10]; rfl) | (simp [hb2, hb9, hb10]; done) | simp_all), trivial⟩)
   ·simp only [go_sem, seval]
    refine grd_ (fun hb13 => ?_) fun hb13 => ?_
    ·simp only [go_sem, seval]
     exact atJ (wkn Jg1 ⟨congrArg AV.bool (by first | rfl | (rw [hb2, hb9, hb13]; rfl) | (simp [hb2, hb9, hb13]; done) | simp_all), trivial⟩)
    ·simp only [go_sem, seval]
     exact atJ (wkn Jg1 ⟨congrArg AV.bool (by first | rfl | (rw [hb2, hb9, hb13]; rfl) | (simp [hb2, hb9, hb13]; done) | simp_all), trivial⟩)
theorem w_internal_stringslite_HasPrefix {s : Str} {prefix_ : Str} {r : Bool} (h : internal_stringslite_HasPrefix s prefix_ = some r) : ACall Tryz.prog 281 [.str s, .str prefix_] [] (.bool r) [] := by
 refine aX hf281 ok281 meek_bool ?_
 dsimp only [Tryz.f281, nums, Option.getD, List.append]
 unfold internal_stringslite_HasPrefix at h
 simp only [go_sem, seval]
 refine bsome h fun y1 hy1 h => ?_
 refine rgJ 18 10000 (.inl rfl) (fun w => w [(4, .bool y1)] []) (runX 10000 ?_) (fun Jy1 => ?_)
 ·clear hy1
  simp only [go_sem, seval]
  exact rS (fun x => .bool x) h
 ·clear h
  have h := hy1
  simp only [go_sem, seval]
  refine grd_ (fun hb3 => ?_) fun hb3 => ?_
  ·have h := ite_t hb3 h
   refine subS_s none (some (.int .i64 (prefix_.length : Int))) rfl rfl h fun v6 _ b4 e5 h => ?_
   simp only [go_sem, seval, b4, e5]
   cases h
   exact atJ (wkn (Jy1) ⟨rfl, trivial⟩)
  ·have h := ite_f hb3 h
   simp only [go_sem, seval]
   cases h
   exact atJ (wkn (Jy1) ⟨rfl, trivial⟩)
theorem w_internal_stringslite_CutPrefix {s : Str} {prefix_ : Str} {r : (Str × Bool)} (h : internal_stringslite_CutPrefix s prefix_ = some r) : ACall Tryz.prog 267 [.str s, .str prefix_] [] (.tup [.str r.1, .bool r.2]) [] := by
 refine aX hf267 ok267 meek_tup ?_
 dsimp only [Tryz.f267, nums, Option.getD, List.append]
 unfold internal_stringslite_CutPrefix at h
 refine bsome h fun v1 hv1 h => ?_
 simp only [go_sem, seval]
 refine cX (w_internal_stringslite_HasPrefix hv1) ?_
 simp only [go_sem, seval]
 refine cS h (fun hb h => ?_) fun hb h => ?_
 ·simp only [go_sem, seval]
  refine ret_s (fun x => .tup [.str x.1, .bool x.2]) h ?_
  first | rfl | simp only [go_sem, resAV, resAll, resOne, seval]
 ·refine subS_s (some (.int .i64 (prefix_.length : Int))) none rfl rfl h fun v4 _ b2 e3 h => ?_
  simp only [go_sem, seval, b2, e3]
  refine ret_s (fun x => .tup [.str x.1, .bool x.2]) h ?_
  first | rfl | simp only [go_sem, resAV, resAll, resOne, seval]
theorem w_strings_CutPrefix {s : Str} {prefix_ : Str} {r : (Str × Bool)} (h : strings_CutPrefix s prefix_ = some r) : ACall Tryz.prog 244 [.str s, .str prefix_] [] (.tup [.str r.1, .bool r.2]) [] := by
 refine aX hf244 ok244 meek_tup ?_
 dsimp only [Tryz.f244, nums, Option.getD, List.append]
 unfold strings_CutPrefix at h
 refine bsome h fun v1 hv1 h => ?_
 simp only [go_sem, seval]
 refine cX (w_internal_stringslite_CutPrefix hv1) ?_
 simp only [go_sem, seval]
 refine ret_s (fun x => .tup [.str x.1, .bool x.2]) h ?_
 first | rfl | simp only [go_sem, resAV, resAll, resOne, seval]
theorem w_large_digits {s : Str} {r : (Str × Bool × Bool)} (h : large_digits s = some r) : ACall Tryz.prog 250 [.str s] [] (.tup [.str r.1, .bool r.2.1, .bool r.2.2]) [] := by
 refine aX hf250 ok250 meek_tup ?_
 dsimp only [Tryz.f250, nums, Option.getD, List.append]
 unfold large_digits at h
 refine bsome h fun v1 hv1 h => ?_
 simp only [go_sem, seval]
 refine cX (w_strings_CutPrefix hv1) ?_
 simp only [go_sem, seval]
 refine bsome h fun y2 hy2 h => ?_
 refine rgJ 43 10000 (.inl rfl) (fun w => w [(5, .str v1.1), (6, .bool v1.2), (40, .bool y2)] []) (runX 10000 ?_) (fun Jy2 => ?_)
 ·clear hy2
  simp only [go_sem, seval]
  refine cS h (fun hb h => ?_) fun hb h => ?_
  ·simp only [go_sem, seval]
   refine ret_s (fun x => .tup [.str x.1, .bool x.2.1, .bool x.2.2]) h ?_
   first | rfl | simp only [go_sem, resAV, resAll, resOne, seval]
  ·simp only [go_sem, seval]
   refine ret_s (fun x => .tup [.str x.1, .bool x.2.1, .bool x.2.2]) h ?_
   first | rfl | simp only [go_sem, resAV, resAll, resOne, seval]
 ·clear h
  have h := hy2
  simp only [go_sem, seval]
  refine grd_ (fun hb4 => ?_) fun hb4 => ?_
  ·have h := ite_f hb4 h
   simp only [go_sem, seval]
   refine grd_ (fun hb5 => ?_) fun hb5 => ?_
   ·have h := ite_f hb5 h
    simp only [go_sem, seval]
    refine grd_ (fun hb6 => ?_) fun hb6 => ?_
    ·have h := ite_t hb6 h
     refine sIdx_s .i64 h fun v9 _ b7 e8 h => ?_
     simp only [go_sem, seval, b7, e8]
     refine grd_ (fun hb10 => ?_) fun hb10 => ?_
     ·have h := ite_f hb10 h
      simp only [go_sem, seval]
      refine grd_ (fun hb11 => ?_) fun hb11 => ?_
      ·have h := ite_t hb11 h
       simp only [go_sem, seval]
       refine grd_ (fun hb12 => ?_) fun hb12 => ?_
       ·have h := ite_f hb12 h
        refine bsome h fun v13 hv13 h => ?_
        simp only [go_sem, seval]
        refine cX (w_strings_Trim hv13) ?_
        simp only [go_sem, seval]
        cases h
        exact atJ (wkn (Jy2) ⟨rfl, rfl, rfl, trivial⟩)
       ·have h := ite_t hb12 h
        simp only [go_sem, seval]
        cases h
        exact atJ (wkn (Jy2) ⟨rfl, rfl, rfl, trivial⟩)
      ·have h := ite_f hb11 h
       refine bsome h fun v14 hv14 h => ?_
       simp only [go_sem, seval]
       refine cX (w_strings_Trim hv14) ?_
       simp only [go_sem, seval]
       cases h
       exact atJ (wkn (Jy2) ⟨rfl, rfl, rfl, trivial⟩)
     ·have h := ite_t hb10 h
      simp only [go_sem, seval]
      cases h
      exact atJ (wkn (Jy2) ⟨rfl, rfl, rfl, trivial⟩)
    ·have h := ite_f hb6 h
     simp only [go_sem, seval]
     refine grd_ (fun hb15 => ?_) fun hb15 => ?_
     ·have h := ite_t hb15 h
      simp only [go_sem, seval]
      refine grd_ (fun hb16 => ?_) fun hb16 => ?_
      ·have h := ite_f hb16 h
       refine bsome h fun v17 hv17 h => ?_
       simp only [go_sem, seval]
       refine cX (w_strings_Trim hv17) ?_
       simp only [go_sem, seval]
       cases h
       exact atJ (wkn (Jy2) ⟨rfl, rfl, rfl, trivial⟩)
      ·have h := ite_t hb16 h
       simp only [go_sem, seval]
       cases h
       exact atJ (wkn (Jy2) ⟨rfl, rfl, rfl, trivial⟩)
     ·have h := ite_f hb15 h
      refine bsome h fun v18 hv18 h => ?_
      simp only [go_sem, seval]
      refine cX (w_strings_Trim hv18) ?_
      simp only [go_sem, seval]
      cases h
      exact atJ (wkn (Jy2) ⟨rfl, rfl, rfl, trivial⟩)
   ·have h := ite_t hb5 h
    simp only [go_sem, seval]
    cases h
    exact atJ (wkn (Jy2) ⟨rfl, rfl, rfl, trivial⟩)
  ·have h := ite_t hb4 h
   simp only [go_sem, seval]
   cases h
   exact atJ (wkn (Jy2) ⟨rfl, rfl, rfl, trivial⟩)
theorem w_large_cut {m : (List Int)} {r : (List Int)} (h : large_cut m = some r) : ACall Tryz.prog 271 [.sl none (List.map (AV.int .u32) m)] [] (.sl none (List.map (AV.int .u32) r)) [] := by
 refine aX hf271 ok271 meek_sl ?_
 dsimp only [Tryz.f271, nums, Option.getD, List.append]
 unfold large_cut at h
 simp only [go_sem, seval]
 refine bsome h fun y1 hy1 h => ?_
 refine blkJ 21 10000 (fun w => w [(0, .sl none (List.map (AV.int .u32) y1))] []) (runX 10000 ?_) (fun Jy1 => ?_)
 ·clear hy1
  simp only [go_sem, seval]
  exact rS (fun x => .sl none (List.map (AV.int .u32) x)) h
 ·clear h
  have h := hy1
  simp only [go_sem, seval]
  refine lpJ 21 fuel (fun q1 w => ∀ (v3 : (List Int)), large_cut_l1 q1 v3 = some y1 → w [(0, .sl none (List.map (AV.int .u32) v3))] []) (fun w _ h => nomatch h) (fun q1 ih1 v3 h => ?_) (fun L1 => ?_)
  ·unfold large_cut_l1 at h
   refine rL ?_
   simp only [go_sem, seval]
   refine bsome h fun y4 hy4 h => ?_
   refine rgJ 21 10000 (.inl rfl) (fun w => w [(0, .sl none (List.map (AV.int .u32) v3)), (14, .bool y4)] []) (runX 10000 ?_) (fun Jy4 => ?_)
   ·clear hy4
    simp only [go_sem, seval]
    refine cS h (fun hb h => ?_) fun hb h => ?_
    ·simp only [go_sem, seval]
     refine bK ?_
     refine sub_s h fun v13 _ e12 h => ?_
     refine subL_s (AV.int .u32) none ⟨272, 1, false, 4⟩ (fun _ => rfl) none (some (.int .i64 v13)) rfl rfl h fun v16 _ b14 e15 h => ?_
     simp only [go_sem, seval, e12, b14, e15]
     exact lp_back (ih1 v16 h) ⟨rfl, trivial⟩
    ·simp only [go_sem, seval]
     cases h
     exact atJ (wkn (Jy1) ⟨rfl, trivial⟩)
   ·clear h
    have h := hy4
    simp only [go_sem, seval]
    refine grd_ (fun hb6 => ?_) fun hb6 => ?_
    ·have h := ite_t hb6 h
     refine sub_s h fun v8 _ e7 h => ?_
     refine lAt_s (AV.int .u32) none .i64 ⟨272, 1, false, 4⟩ (fun _ => rfl) h fun v11 _ b9 e10 h => ?_
     simp only [go_sem, seval, e7, b9, e10]
     cases h
     exact atJ (wkn (Jy4) ⟨rfl, rfl, trivial⟩)
    ·have h := ite_f hb6 h
     simp only [go_sem, seval]
     cases h
     exact atJ (wkn (Jy4) ⟨rfl, rfl, trivial⟩)
  ·exact lp_back (L1 m h) ⟨rfl, trivial⟩
theorem w_large_made {neg : Bool} {m : (List Int)} {r : (large_Num × (Option Int))} (h : large_made neg m = some r) : ACall Tryz.prog 251 [.bool neg, .sl none (List.map (AV.int .u32) m)] [] (.tup [enc_large_Num r.1, encE 86 r.2]) [] := by
 refine aX hf251 ok251 meek_tup ?_
 dsimp only [Tryz.f251, nums, Option.getD, List.append]
 unfold large_made at h
 refine bsome h fun v1 hv1 h => ?_
 simp only [go_sem, seval]
 refine cX (w_large_cut hv1) ?_
 simp only [go_sem, seval]
 refine cS h (fun hb h => ?_) fun hb h => ?_
 ·simp only [go_sem, seval]
  refine ret_s (fun x => .tup [enc_large_Num x.1, encE 86 x.2]) h ?_
  first | rfl | simp only [go_sem, resAV, resAll, resOne, seval]
 ·simp only [go_sem, seval]
  refine bsome h fun y2 hy2 h => ?_
  refine rgJ 21 10000 (.inl rfl) (fun w => w [(4, .ptr 0 0), (5, .nilI)] [some [.bool y2, .sl none (List.map (AV.int .u32) v1)]]) (runX 10000 ?_) (fun Jy2 => ?_)
  ·clear hy2
   simp only [go_sem, seval]
   refine ret_s (fun x => .tup [enc_large_Num x.1, encE 86 x.2]) h ?_
   first | rfl | simp only [go_sem, resAV, resAll, resOne, seval]
  ·clear h
   have h := hy2
   simp only [go_sem, seval]
   refine grd_ (fun hb4 => ?_) fun hb4 => ?_
   ·have h := ite_t hb4 h
    simp only [go_sem, seval]
    cases h
    exact atJ (wkn (Jy2) ⟨rfl, rfl, trivial⟩)
   ·have h := ite_f hb4 h
    simp only [go_sem, seval]
    cases h
    exact atJ (wkn (Jy2) ⟨rfl, rfl, trivial⟩)
theorem w_large_Parse {s : Str} {r : (large_Num × (Option Int))} (h : large_Parse s = some r) : ACall Tryz.prog 219 [.str s] [] (.tup [enc_large_Num r.1, encE 86 r.2]) [] := by
 refine aX hf219 ok219 meek_tup ?_
 dsimp only [Tryz.f219, nums, Option.getD, List.append]
 unfold large_Parse at h
 refine bsome h fun v1 hv1 h => ?_
 simp only [go_sem, seval]
 refine cX (w_large_digits hv1) ?_
 simp only [go_sem, seval]
 refine cS h (fun hb h => ?_) fun hb h => ?_
 ·simp only [go_sem, seval]
  refine ret_s (fun x => .tup [enc_large_Num x.1, encE 86 x.2]) h ?_
  first | rfl | simp only [go_sem, resAV, resAll, resOne, seval]
 ·simp only [go_sem, seval, (bytes_e (P := Tryz.prog) (s := 9) (d := 148) (by rw [kd148]; rfl) (by rw [kd148]; rfl) v1.1)]
  refine prom_blk 7 1 false rfl (by first | rfl | simp only [go_sem]) rfl ?_
  refine bsome h fun y2 hy2 h => ?_
  refine blkJ 66 10000 (fun w => w [(2, .ptr 0 0), (5, .bool v1.2.1), (7, .rs 1 0 y2.length 1 false false)] [some [.bool false, .sl (some none) []], some (List.map (AV.int .u32) y2)]) (runX 10000 ?_) (fun Jy2 => ?_)
  ·clear hy2
   simp only [go_sem, seval]
   refine mvF_ 10000 (AV.int .u32) plain_int (v := y2) rfl rfl (by first | rfl | simp only [go_sem]) (by first | rfl | simp only [go_sem]) (by first | rfl | simp only [go_sem]) rfl rfl ?_
   refine bsome h fun v103 hv103 h => ?_
   simp only [go_sem, seval]
   refine cX (w_large_made hv103) ?_
   simp only [go_sem, seval]
   refine ret_s (fun x => .tup [enc_large_Num x.1, encE 86 x.2]) h ?_
   first | rfl | simp only [go_sem, resAV, resAll, resOne, seval]
  ·clear h
   have h := hy2
   simp only [go_sem, seval]
   refine lpJ 66 fuel (fun q1 w => ∀ (v53 : Int) (v54 : (List Int)), large_Parse_l1 v1 q1 v53 v54 = some y2 → w [(2, .ptr 0 0), (5, .bool v1.2.1), (7, .rs 1 0 v54.length 1 false false), (24, .sl none (List.map (AV.int .u8) (toInts v1.1))), (25, .int .i64 ((toInts v1.1).length : Int)), (26, .int .i64 v53)] [some [.bool false, .sl (some none) []], some (List.map (AV.int .u32) v54)]) (fun w _ _ h => nomatch h) (fun q1 ih1 v53 v54 h => ?_) (fun L1 => ?_)
   ·unfold large_Parse_l1 at h
    refine rL ?_
    simp only [go_sem, seval]
    refine cS h (fun hb h => ?_) fun hb h => ?_
    ·simp only [go_sem, seval]
     refine bK ?_
     refine lAt_s (AV.int .u8) none .i64 ⟨5, 1, false, 1⟩ (fun _ => rfl) h fun v57 _ b55 e56 h => ?_
     simp only [go_sem, seval, b55, e56, (show intv .sub .u8 v57 48 = .int .u8 (IntKind.wrap .u8 (v57 - 48)) from rfl), (cvw_e (s := 5) (k := .u8) io274 (IntKind.wrap .u8 (v57 - 48)))]
     refine bsome h fun y58 hy58 h => ?_
     refine blkJ 66 10000 (fun w => w [(2, .ptr 0 0), (5, .bool v1.2.1), (7, .rs 1 0 y58.2.length 1 false false), (10, .int .u64 y58.1), (24, .sl none (List.map (AV.int .u8) (toInts v1.1))), (25, .int .i64 ((toInts v1.1).length : Int)), (26, .int .i64 v53)] [some [.bool false, .sl (some none) []], some (List.map (AV.int .u32) y58.2)]) (runX 10000 ?_) (fun Jy58 => ?_)
     ·clear hy58
      simp only [go_sem, seval]
      refine bsome h fun y95 hy95 h => ?_
      refine cndJ 66 10000 (fun w => w [(2, .ptr 0 0), (5, .bool v1.2.1), (7, .rs 1 0 y95.length 1 false false), (24, .sl none (List.map (AV.int .u8) (toInts v1.1))), (25, .int .i64 ((toInts v1.1).length : Int)), (26, .int .i64 v53)] [some [.bool false, .sl (some none) []], some (List.map (AV.int .u32) y95)]) (runX 10000 ?_) (fun Jy95 => ?_)
      ·clear hy95
       refine add_s h fun v102 _ e101 h => ?_
       simp only [go_sem, seval, e101]
       exact lp_back (ih1 v102 y95 h) ⟨rfl, rfl, rfl, rfl, rfl, rfl, trivial⟩
      ·clear h
       have h := hy95
       refine cS h (fun hb h => ?_) fun hb h => ?_
       ·simp only [go_sem, seval, (cvw_e (s := 274) (k := .u64) io272 y58.1)]
        refine appB_s (AV.int .u32) (some none) ⟨272, 1, false, 4⟩ (fun _ => rfl) (by decide) rfl h fun v100 e97 e98 e99 h => ?_
        refine appB_ 10000 (AV.int .u32) plain_int (v := y58.2) (ws := ([(IntKind.wrap .u32 y58.1)] : List Int)) rfl rfl rfl el175 rfl kd175 (by first | rfl | simp only [go_sem]) (by first | rfl | simp only [go_sem]) (by first | rfl | simp only [go_sem]) e97 e98 e99 (by first | rfl | simp only [go_sem]) rfl rfl ?_
        simp only [go_sem, seval]
        cases h
        exact atJ (wkn (Jy95) ⟨rfl, rfl, rfl, rfl, rfl, rfl, trivial⟩)
       ·simp only [go_sem, seval]
        cases h
        exact atJ (wkn (Jy95) ⟨rfl, rfl, rfl, rfl, rfl, rfl, trivial⟩)
     ·clear h
      have h := hy58
      simp only [go_sem, seval]
      refine lpJ 66 fuel (fun q3 w => ∀ (v77 : Int) (v78 : Int) (v79 : (List Int)), large_Parse_l3 v54 q3 v77 v78 v79 = some y58 → w [(2, .ptr 0 0), (5, .bool v1.2.1), (7, .rs 1 0 v79.length 1 false false), (10, .int .u64 v77), (24, .sl none (List.map (AV.int .u8) (toInts v1.1))), (25, .int .i64 ((toInts v1.1).length : Int)), (26, .int .i64 v53), (33, .rs 1 0 v79.length 1 false false), (34, .int .i64 (v54.length : Int)), (35, .int .i64 v78)] [some [.bool false, .sl (some none) []], some (List.map (AV.int .u32) v79)]) (fun w _ _ _ h => nomatch h) (fun q3 ih3 v77 v78 v79 h => ?_) (fun L3 => ?_)
      ·unfold large_Parse_l3 at h
       refine rL ?_
       simp only [go_sem, seval]
       refine cS h (fun hb h => ?_) fun hb h => ?_
       ·simp only [go_sem, seval]
        refine bK ?_
        refine bAt_s (AV.int .u32) .i64 ⟨272, 1, false, 4⟩ rfl 1 false false rfl h fun v86 _ e80 e81 e82 e83 e84 e85 h => ?_
        refine stB_s h fun v89 e87 e88 h => ?_
        refine shr_s h fun v92 _ b91 e90 h => ?_
        refine add_s h fun v94 _ e93 h => ?_
        simp only [go_sem, seval, e80, e81, e82, e83, e84, (cvw_e (s := 272) (k := .u32) io274 v86), (show intv .mul .u64 (IntKind.wrap .u64 v86) 10 = .int .u64 (IntKind.wrap .u64 ((IntKind.wrap .u64 v86) * 10)) from rfl), (show intv .add .u64 v77 (IntKind.wrap .u64 ((IntKind.wrap .u64 v86) * 10)) = .int .u64 (IntKind.wrap .u64 (v77 + (IntKind.wrap .u64 ((IntKind.wrap .u64 v86) * 10)))) from rfl), (cvw_e (s := 274) (k := .u64) io272 (IntKind.wrap .u64 (v77 + (IntKind.wrap .u64 ((IntKind.wrap .u64 v86) * 10))))), e85, e87, e90, Int.reduceLE, e93]
        exact lp_back (ih3 v92 v94 v89 h) ⟨rfl, rfl, congrArg (fun n => AV.rs 1 0 n 1 false false) e88.symm, rfl, rfl, rfl, rfl, congrArg (fun n => AV.rs 1 0 n 1 false false) e88.symm, rfl, rfl, trivial⟩
       ·simp only [go_sem, seval]
        cases h
        exact atJ (wkn (Jy58) ⟨rfl, rfl, rfl, rfl, rfl, rfl, rfl, trivial⟩)
      ·exact lp_back (L3 (IntKind.wrap .u64 (IntKind.wrap .u8 (v57 - 48))) 0 v54 h) ⟨rfl, rfl, rfl, rfl, rfl, rfl, rfl, rfl, rfl, rfl, trivial⟩
    ·simp only [go_sem, seval]
     cases h
     exact atJ (wkn (Jy2) ⟨rfl, rfl, rfl, trivial⟩)
   ·exact lp_back (L1 0 [] h) ⟨rfl, rfl, rfl, rfl, rfl, rfl, trivial⟩
theorem w_tree_number {s : Str} {r : Bool} (h : tree_number s = some r) : ACall Tryz.prog 179 [.str s] [] (.bool r) [] := by
 refine aX hf179 ok179 meek_bool ?_
 dsimp only [Tryz.f179, nums, Option.getD, List.append]
 unfold tree_number at h
 refine bsome h fun v1 hv1 h => ?_
 simp only [go_sem, seval]
 refine cX (w_large_Parse hv1) ?_
 simp only [go_sem, seval]
 exact rS (fun x => .bool x) h
theorem w_tNd_may {n : tNd} {r : Bool} (h : tNd_may n = some r) : ACall Tryz.prog 121 [enc_tNd n] [] (.bool r) [] := by
 refine aX hf121 ok121 meek_bool ?_
 dsimp only [Tryz.f121, nums, Option.getD, List.append]
 unfold tNd_may at h
 simp only [go_sem, seval]
 refine bK ?_
 simp only [go_sem, seval]
 refine bsome h fun y1 hy1 h => ?_
 refine cndJ 145 10000 (fun w => w [(1, .ptr 0 0), (4, .int .u8 n.K), (5, .bool y1)] [hN n.K n.S n.N n.L n.Kids]) (runX 10000 ?_) (fun Jy1 => ?_)
 ·clear hy1
  simp only [go_sem, seval]
  refine cS h (fun hb h => ?_) fun hb h => ?_
  ·refine bsome h fun v9 hv9 h => ?_
   simp only [go_sem, seval]
   refine cX (w_tNd_bare hv9) ?_
   simp only [go_sem, seval]
   exact rS (fun x => .bool x) h
  ·simp only [go_sem, seval]
   refine cS h (fun hb h => ?_) fun hb h => ?_
   ·simp only [go_sem, seval]
    refine bsome h fun y10 hy10 h => ?_
    refine rgJ 145 10000 (.inl rfl) (fun w => w [(2, .bool y10)] [hN n.K n.S n.N n.L n.Kids]) (runX 10000 ?_) (fun Jy10 => ?_)
    ·clear hy10
     simp only [go_sem, seval]
     exact rS (fun x => .bool x) h
    ·clear h
     have h := hy10
     refine bsome h fun v12 hv12 h => ?_
     simp only [go_sem, seval]
     refine cX (w_tNd_bare hv12) ?_
     simp only [go_sem, seval]
     refine grd_ (fun hb13 => ?_) fun hb13 => ?_
     ·have h := ite_t hb13 h
      refine bsome h fun v14 hv14 h => ?_
      simp only [go_sem, seval]
      refine cX (w_tree_number hv14) ?_
      simp only [go_sem, seval]
      cases h
      exact atJ (wkn (Jy10) ⟨rfl, trivial⟩)
     ·have h := ite_f hb13 h
      simp only [go_sem, seval]
      cases h
      exact atJ (wkn (Jy10) ⟨rfl, trivial⟩)
   ·simp only [go_sem, seval]
    refine cS h (fun hb h => ?_) fun hb h => ?_
    ·simp only [go_sem, seval]
     refine bsome h fun y15 hy15 h => ?_
     refine rgJ 145 10000 (.inl rfl) (fun w => w [(2, .bool y15)] [hN n.K n.S n.N n.L n.Kids]) (runX 10000 ?_) (fun Jy15 => ?_)
     ·clear hy15
      simp only [go_sem, seval]
      exact rS (fun x => .bool x) h
     ·clear h
      have h := hy15
      refine bsome h fun v17 hv17 h => ?_
      simp only [go_sem, seval]
      refine cX (w_tNd_bare hv17) ?_
      simp only [go_sem, seval]
      refine grd_ (fun hb18 => ?_) fun hb18 => ?_
      ·have h := ite_t hb18 h
       simp only [go_sem, seval]
       cases h
       exact atJ (wkn (Jy15) ⟨rfl, trivial⟩)
      ·have h := ite_f hb18 h
       simp only [go_sem, seval]
       cases h
       exact atJ (wkn (Jy15) ⟨rfl, trivial⟩)
    ·simp only [go_sem, seval]
     refine cS h (fun hb h => ?_) fun hb h => ?_
     ·simp only [go_sem, seval]
      refine bsome h fun y19 hy19 h => ?_
      refine rgJ 145 10000 (.inl rfl) (fun w => w [(2, .bool y19)] [hN n.K n.S n.N n.L n.Kids]) (runX 10000 ?_) (fun Jy19 => ?_)
      ·clear hy19
       simp only [go_sem, seval]
       exact rS (fun x => .bool x) h
      ·clear h
       have h := hy19
       refine bsome h fun v21 hv21 h => ?_
       simp only [go_sem, seval]
       refine cX (w_tNd_bare hv21) ?_
       simp only [go_sem, seval]
       refine grd_ (fun hb22 => ?_) fun hb22 => ?_
       ·have h := ite_t hb22 h
        refine bsome h fun v23 hv23 h => ?_
        simp only [go_sem, seval]
        refine cX (w_tree_variable hv23) ?_
        simp only [go_sem, seval]
        refine grd_ (fun hb24 => ?_) fun hb24 => ?_
        ·have h := ite_f hb24 h
         refine bsome h fun v25 hv25 h => ?_
         simp only [go_sem, seval]
         refine cX (w_tree_named hv25) ?_
         simp only [go_sem, seval]
         cases h
         exact atJ (wkn (Jy19) ⟨rfl, trivial⟩)
        ·have h := ite_t hb24 h
         simp only [go_sem, seval]
         cases h
         exact atJ (wkn (Jy19) ⟨rfl, trivial⟩)
       ·have h := ite_f hb22 h
        simp only [go_sem, seval]
        cases h
        exact atJ (wkn (Jy19) ⟨rfl, trivial⟩)
     ·simp only [go_sem, seval]
      refine cS h (fun hb h => ?_) fun hb h => ?_
      ·simp only [go_sem, seval]
       refine bsome h fun y26 hy26 h => ?_
       refine rgJ 145 10000 (.inl rfl) (fun w => w [(2, .bool y26)] [hN n.K n.S n.N n.L n.Kids]) (runX 10000 ?_) (fun Jy26 => ?_)
       ·clear hy26
        simp only [go_sem, seval]
        exact rS (fun x => .bool x) h
       ·clear h
        have h := hy26
        refine bsome h fun v28 hv28 h => ?_
        simp only [go_sem, seval]
        refine cX (w_tNd_bare hv28) ?_
        simp only [go_sem, seval]
        refine grd_ (fun hb29 => ?_) fun hb29 => ?_
        ·have h := ite_t hb29 h
         refine bsome h fun v30 hv30 h => ?_
         simp only [go_sem, seval]
         refine cX (w_tree_variable hv30) ?_
         simp only [go_sem, seval]
         refine grd_ (fun hb31 => ?_) fun hb31 => ?_
         ·have h := ite_t hb31 h
          simp only [go_sem, seval]
          cases h
          exact atJ (wkn (Jy26) ⟨rfl, trivial⟩)
         ·have h := ite_f hb31 h
          simp only [go_sem, seval]
          cases h
          exact atJ (wkn (Jy26) ⟨rfl, trivial⟩)
        ·have h := ite_f hb29 h
         simp only [go_sem, seval]
         cases h
         exact atJ (wkn (Jy26) ⟨rfl, trivial⟩)
      ·simp only [go_sem, seval]
       refine cS h (fun hb h => ?_) fun hb h => ?_
       ·simp only [go_sem, seval]
        refine bsome h fun y32 hy32 h => ?_
        refine rgJ 145 10000 (.inl rfl) (fun w => w [(2, .bool y32)] [hN n.K n.S n.N n.L n.Kids]) (runX 10000 ?_) (fun Jy32 => ?_)
        ·clear hy32
         simp only [go_sem, seval]
         exact rS (fun x => .bool x) h
        ·clear h
         have h := hy32
         refine bsome h fun v34 hv34 h => ?_
         simp only [go_sem, seval]
         refine cX (w_tNd_bare hv34) ?_
         simp only [go_sem, seval]
         refine grd_ (fun hb35 => ?_) fun hb35 => ?_
         ·have h := ite_t hb35 h
          refine sub_s h fun v37 _ e36 h => ?_
          refine bsome h fun v38 hv38 h => ?_
          simp only [go_sem, seval, e36]
          refine cX (w_tree_sends hv38) ?_
          simp only [go_sem, seval]
          cases h
          exact atJ (wkn (Jy32) ⟨rfl, trivial⟩)
         ·have h := ite_f hb35 h
          simp only [go_sem, seval]
          cases h
          exact atJ (wkn (Jy32) ⟨rfl, trivial⟩)
       ·simp only [go_sem, seval]
        refine cS h (fun hb h => ?_) fun hb h => ?_
        ·simp only [go_sem, seval]
         refine bsome h fun y39 hy39 h => ?_
         refine rgJ 145 10000 (.inl rfl) (fun w => w [(2, .bool y39)] [hN n.K n.S n.N n.L n.Kids]) (runX 10000 ?_) (fun Jy39 => ?_)
         ·clear hy39
          simp only [go_sem, seval]
          exact rS (fun x => .bool x) h
         ·clear h
          have h := hy39
          refine bsome h fun v41 hv41 h => ?_
          simp only [go_sem, seval]
          refine cX (w_tNd_bare hv41) ?_
          simp only [go_sem, seval]
          refine grd_ (fun hb42 => ?_) fun hb42 => ?_
          ·have h := ite_t hb42 h
           simp only [go_sem, seval]
           refine grd_ (fun hb43 => ?_) fun hb43 => ?_
           ·have h := ite_t hb43 h
            simp only [go_sem, seval]
            cases h
            exact atJ (wkn (Jy39) ⟨rfl, trivial⟩)
           ·have h := ite_f hb43 h
            simp only [go_sem, seval]
            cases h
            exact atJ (wkn (Jy39) ⟨rfl, trivial⟩)
          ·have h := ite_f hb42 h
           simp only [go_sem, seval]
           cases h
           exact atJ (wkn (Jy39) ⟨rfl, trivial⟩)
        ·simp only [go_sem, seval]
         refine cS h (fun hb h => ?_) fun hb h => ?_
         ·simp only [go_sem, seval]
          refine bsome h fun y44 hy44 h => ?_
          refine rgJ 145 10000 (.inl rfl) (fun w => w [(2, .bool y44)] [hN n.K n.S n.N n.L n.Kids]) (runX 10000 ?_) (fun Jy44 => ?_)
          ·clear hy44
           simp only [go_sem, seval]
           exact rS (fun x => .bool x) h
          ·clear h
           have h := hy44
           refine bsome h fun v46 hv46 h => ?_
           simp only [go_sem, seval]
           refine cX (w_tNd_bare hv46) ?_
           simp only [go_sem, seval]
           refine grd_ (fun hb47 => ?_) fun hb47 => ?_
           ·have h := ite_t hb47 h
            refine bsome h fun v48 hv48 h => ?_
            simp only [go_sem, seval]
            refine cX (w_tree_sends hv48) ?_
            simp only [go_sem, seval]
            cases h
            exact atJ (wkn (Jy44) ⟨rfl, trivial⟩)
           ·have h := ite_f hb47 h
            simp only [go_sem, seval]
            cases h
            exact atJ (wkn (Jy44) ⟨rfl, trivial⟩)
         ·simp only [go_sem, seval]
          refine cS h (fun hb h => ?_) fun hb h => ?_
          ·simp only [go_sem, seval]
           refine bsome h fun y49 hy49 h => ?_
           refine rgJ 145 10000 (.inl rfl) (fun w => w [(2, .bool y49)] [hN n.K n.S n.N n.L n.Kids]) (runX 10000 ?_) (fun Jy49 => ?_)
           ·clear hy49
            simp only [go_sem, seval]
            exact rS (fun x => .bool x) h
           ·clear h
            have h := hy49
            refine bsome h fun v51 hv51 h => ?_
            simp only [go_sem, seval]
            refine cX (w_tNd_bare hv51) ?_
            simp only [go_sem, seval]
            refine grd_ (fun hb52 => ?_) fun hb52 => ?_
            ·have h := ite_t hb52 h
             simp only [go_sem, seval]
             refine grd_ (fun hb53 => ?_) fun hb53 => ?_
             ·have h := ite_t hb53 h
              simp only [go_sem, seval]
              refine grd_ (fun hb54 => ?_) fun hb54 => ?_
              ·have h := ite_t hb54 h
               simp only [go_sem, seval]
               refine grd_ (fun hb55 => ?_) fun hb55 => ?_
               ·have h := ite_t hb55 h
                simp only [go_sem, seval]
                refine grd_ (fun hb56 => ?_) fun hb56 => ?_
                ·have h := ite_t hb56 h
                 refine bsome h fun v57 hv57 h => ?_
                 simp only [go_sem, seval]
                 refine cX (w_tree_unlike hv57) ?_
                 simp only [go_sem, seval]
                 cases h
                 exact atJ (wkn (Jy49) ⟨rfl, trivial⟩)
                ·have h := ite_f hb56 h
                 simp only [go_sem, seval]
                 cases h
                 exact atJ (wkn (Jy49) ⟨rfl, trivial⟩)
               ·have h := ite_f hb55 h
                simp only [go_sem, seval]
                cases h
                exact atJ (wkn (Jy49) ⟨rfl, trivial⟩)
              ·have h := ite_f hb54 h
               simp only [go_sem, seval]
               cases h
               exact atJ (wkn (Jy49) ⟨rfl, trivial⟩)
             ·have h := ite_f hb53 h
              simp only [go_sem, seval]
              cases h
              exact atJ (wkn (Jy49) ⟨rfl, trivial⟩)
            ·have h := ite_f hb52 h
             simp only [go_sem, seval]
             cases h
             exact atJ (wkn (Jy49) ⟨rfl, trivial⟩)
          ·simp only [go_sem, seval]
           refine cS h (fun hb h => ?_) fun hb h => ?_
           ·simp only [go_sem, seval]
            refine bsome h fun y58 hy58 h => ?_
            refine rgJ 145 10000 (.inl rfl) (fun w => w [(2, .bool y58)] [hN n.K n.S n.N n.L n.Kids]) (runX 10000 ?_) (fun Jy58 => ?_)
            ·clear hy58
             simp only [go_sem, seval]
             exact rS (fun x => .bool x) h
            ·clear h
             have h := hy58
             refine bsome h fun v60 hv60 h => ?_
             simp only [go_sem, seval]
             refine cX (w_tNd_bare hv60) ?_
             simp only [go_sem, seval]
             refine grd_ (fun hb61 => ?_) fun hb61 => ?_
             ·have h := ite_t hb61 h
              simp only [go_sem, seval]
              cases h
              exact atJ (wkn (Jy58) ⟨rfl, trivial⟩)
             ·have h := ite_f hb61 h
              simp only [go_sem, seval]
              cases h
              exact atJ (wkn (Jy58) ⟨rfl, trivial⟩)
           ·simp only [go_sem, seval]
            exact rS (fun x => .bool x) h
 ·clear h
  have h := hy1
  refine cS h (fun hb h => ?_) fun hb h => ?_
  ·simp only [go_sem, seval]
   cases h
   exact atJ (wkn (Jy1) ⟨rfl, rfl, rfl, trivial⟩)
  ·simp only [go_sem, seval]
   refine bsome h fun y3 hy3 h => ?_
   refine cndJ 145 10000 (fun w => w [(1, .ptr 0 0), (4, .int .u8 n.K), (5, .bool y3)] [hN n.K n.S n.N n.L n.Kids]) (runX 10000 ?_) (fun Jy3 => ?_)
   ·clear hy3
    simp only [go_sem, seval]
    cases h
    exact atJ (wkn (Jy1) ⟨rfl, rfl, rfl, trivial⟩)
   ·clear h
    have h := hy3
    refine cS h (fun hb h => ?_) fun hb h => ?_
    ·simp only [go_sem, seval]
     cases h
     exact atJ (wkn (Jy3) ⟨rfl, rfl, rfl, trivial⟩)
    ·simp only [go_sem, seval]
     refine bsome h fun y5 hy5 h => ?_
     refine cndJ 145 10000 (fun w => w [(1, .ptr 0 0), (4, .int .u8 n.K), (5, .bool y5)] [hN n.K n.S n.N n.L n.Kids]) (runX 10000 ?_) (fun Jy5 => ?_)
     ·clear hy5
      simp only [go_sem, seval]
      cases h
      exact atJ (wkn (Jy3) ⟨rfl, rfl, rfl, trivial⟩)
     ·clear h
      have h := hy5
      refine cS h (fun hb h => ?_) fun hb h => ?_
      ·simp only [go_sem, seval]
       cases h
       exact atJ (wkn (Jy5) ⟨rfl, rfl, rfl, trivial⟩)
      ·simp only [go_sem, seval]
       refine bsome h fun y7 hy7 h => ?_
       refine cndJ 145 10000 (fun w => w [(1, .ptr 0 0), (4, .int .u8 n.K), (5, .bool y7)] [hN n.K n.S n.N n.L n.Kids]) (runX 10000 ?_) (fun Jy7 => ?_)
       ·clear hy7
        simp only [go_sem, seval]
        cases h
        exact atJ (wkn (Jy5) ⟨rfl, rfl, rfl, trivial⟩)
       ·clear h
        have h := hy7
        refine cS h (fun hb h => ?_) fun hb h => ?_
        ·simp only [go_sem, seval]
         cases h
         exact atJ (wkn (Jy7) ⟨rfl, rfl, rfl, trivial⟩)
        ·simp only [go_sem, seval]
         cases h
         exact atJ (wkn (Jy7) ⟨rfl, rfl, rfl, trivial⟩)
theorem w_tree_stands {k : Int} {super : Bool} {msg : Bool} {up : Bool} {r : Bool} (h : tree_stands k super msg up = some r) : ACall Tryz.prog 122 [.int .u8 k, .bool super, .bool msg, .bool up] [] (.bool r) [] := by
 refine aX hf122 ok122 meek_bool ?_
 dsimp only [Tryz.f122, nums, Option.getD, List.append]
 unfold tree_stands at h
 simp only [go_sem, seval]
 refine bK ?_
 simp only [go_sem, seval]
 refine cS h (fun hb h => ?_) fun hb h => ?_
 ·simp only [go_sem, seval]
  exact rS (fun x => .bool x) h
 ·simp only [go_sem, seval]
  refine cS h (fun hb h => ?_) fun hb h => ?_
  ·simp only [go_sem, seval]
   exact rS (fun x => .bool x) h
  ·simp only [go_sem, seval]
   refine cS h (fun hb h => ?_) fun hb h => ?_
   ·simp only [go_sem, seval]
    exact rS (fun x => .bool x) h
   ·simp only [go_sem, seval]
    exact rS (fun x => .bool x) h
theorem w_tNd_places {n : tNd} {i : Int} {r : (Bool × Bool × Bool)} (h : tNd_places n i = some r) : ACall Tryz.prog 123 [enc_tNd n, .int .i64 i] [] (.tup [.bool r.1, .bool r.2.1, .bool r.2.2]) [] := by
 refine aX hf123 ok123 meek_tup ?_
 dsimp only [Tryz.f123, nums, Option.getD, List.append]
 unfold tNd_places at h
 simp only [go_sem, seval]
 refine bK ?_
 simp only [go_sem, seval]
 refine cS h (fun hb h => ?_) fun hb h => ?_
 ·simp only [go_sem, seval]
  refine ret_s (fun x => .tup [.bool x.1, .bool x.2.1, .bool x.2.2]) h ?_
  first | rfl | simp only [go_sem, resAV, resAll, resOne, seval]
 ·simp only [go_sem, seval]
  refine cS h (fun hb h => ?_) fun hb h => ?_
  ·simp only [go_sem, seval]
   refine ret_s (fun x => .tup [.bool x.1, .bool x.2.1, .bool x.2.2]) h ?_
   first | rfl | simp only [go_sem, resAV, resAll, resOne, seval]
  ·simp only [go_sem, seval]
   refine cS h (fun hb h => ?_) fun hb h => ?_
   ·simp only [go_sem, seval]
    refine rg_ 10000 (.inr ⟨[], by kernel_rfl, by kernel_rfl, by rfl⟩) ?_
    refine sub_s h fun v2 _ e1 h => ?_
    simp only [go_sem, seval, e1]
    refine ret_s (fun x => .tup [.bool x.1, .bool x.2.1, .bool x.2.2]) h ?_
    first | rfl | simp only [go_sem, resAV, resAll, resOne, seval]
   ·simp only [go_sem, seval]
    refine ret_s (fun x => .tup [.bool x.1, .bool x.2.1, .bool x.2.2]) h ?_
    first | rfl | simp only [go_sem, resAV, resAll, resOne, seval]
def R_tWc_ok (rec : R_tWc) : Prop := (∀ (p0_w : tree_walk) (i : Int) (above : Int) (super : Bool) (msg : Bool) (up : Bool) (r : (Bool × tree_walk)), rec.tWc p0_w i above super msg up = some r → ACall Tryz.prog 66 [.ptr 0 0, .int .i64 i, .int .i64 above, .bool super, .bool msg, .bool up] [some [.sl none (List.map enc_tNd p0_w.l), .int .i64 p0_w.next]] (.bool r.1) [some [.sl none (List.map enc_tNd r.2.l), .int .i64 r.2.next]])
theorem w_tWc_b {rec : R_tWc} (hrec : R_tWc_ok rec) {p0_w : tree_walk} {i : Int} {above : Int} {super : Bool} {msg : Bool} {up : Bool} {r : (Bool × tree_walk)} (h : tWc_b rec p0_w i above super msg up = some r) : ACall Tryz.prog 66 [.ptr 0 0, .int .i64 i, .int .i64 above, .bool super, .bool msg, .bool up] [some [.sl none (List.map enc_tNd p0_w.l), .int .i64 p0_w.next]] (.bool r.1) [some [.sl none (List.map enc_tNd r.2.l), .int .i64 r.2.next]] := by
 refine acallHX 10000 hf66 ok66 (by first | rfl | simp only [go_sem]) meek_bool rfl (by first | rfl | simp only [go_sem, allLt]) ?_
 dsimp only [Tryz.f66, nums, Option.getD, List.append]
 unfold tWc_b at h
 simp only [go_sem, seval]
 refine bsome h fun y1 hy1 h => ?_
 refine rgJ 115 10000 (.inl rfl) (fun w => w [(0, .ptr 0 0), (1, .int .i64 i), (2, .int .i64 above), (63, .bool y1)] [some [.sl none (List.map enc_tNd p0_w.l), .int .i64 p0_w.next]]) (runX 10000 ?_) (fun Jy1 => ?_)
 ·clear hy1
  simp only [go_sem, seval]
  refine cS h (fun hb h => ?_) fun hb h => ?_
  ·simp only [go_sem, seval]
   refine retH_s (fun x => .bool x.1) (fun x => [some [.sl none (List.map enc_tNd x.2.l), .int .i64 x.2.next]]) h ?_ ?_
   ·first | rfl | simp only [go_sem, resAV, resAll, resOne, seval]
   ·first | rfl | simp only [go_sem, resAV, resAll, resOne, seval]
  ·refine lAt_s enc_tNd none .i64 ⟨59, 5, true, 80⟩ (fun _ => rfl) h fun v16 _ b14 e15 h => ?_
   simp only [go_sem, seval, b14, e15]
   refine letK_s h fun K18 hK18 h => ?_
   refine blkJ 115 10000 (fun w => ∀ (v46 : tree_walk), K18 v46 = some r → w [(0, .ptr 0 0), (1, .int .i64 i)] [some [.sl none (List.map enc_tNd v46.l), .int .i64 v46.next], hN v16.K v16.S v16.N v16.L v16.Kids]) (fun v46 h => runX 10000 ?_) (fun JK18 => ?_)
   ·subst hK18
    dsimp only at h
    refine add_s h fun v48 _ e47 h => ?_
    refine sub_s h fun v50 _ e49 h => ?_
    simp only [go_sem, seval, e47, e49]
    refine retH_s (fun x => .bool x.1) (fun x => [some [.sl none (List.map enc_tNd x.2.l), .int .i64 x.2.next]]) h ?_ ?_
    ·first | rfl | simp only [go_sem, resAV, resAll, resOne, seval]
    ·first | rfl | simp only [go_sem, resAV, resAll, resOne, seval]
   ·clear hK18
    simp only [go_sem, seval]
    refine lpJ 115 fuel (fun q1 w => ∀ (v32 : Int) (v33 : tree_walk), tWc_l1 i above rec v16 K18 q1 v32 v33 = some r → w [(0, .ptr 0 0), (1, .int .i64 i), (2, .int .i64 above), (13, .ptr 1 0), (72, .sl none (List.map (AV.int .i64) v16.Kids)), (73, .int .i64 (v16.Kids.length : Int)), (74, .int .i64 v32)] [some [.sl none (List.map enc_tNd v33.l), .int .i64 v33.next], hN v16.K v16.S v16.N v16.L v16.Kids]) (fun w _ _ h => nomatch h) (fun q1 ih1 v32 v33 h => ?_) (fun L1 => ?_)
    ·unfold tWc_l1 at h
     refine rL ?_
     simp only [go_sem, seval]
     refine cS h (fun hb h => ?_) fun hb h => ?_
     ·simp only [go_sem, seval]
      refine bK ?_
      refine lAt_s (AV.int .i64) none .i64 ⟨3, 1, false, 8⟩ (fun _ => rfl) h fun v36 _ b34 e35 h => ?_
      refine bsome h fun v37 hv37 h => ?_
      simp only [go_sem, seval, b34, e35]
      refine cX (w_tNd_places hv37) ?_
      simp only [go_sem, seval]
      refine bsome h fun y38 hy38 h => ?_
      refine rgJ 115 10000 (.inl rfl) (fun w => w [(0, .ptr 0 0), (1, .int .i64 i), (2, .int .i64 above), (13, .ptr 1 0), (72, .sl none (List.map (AV.int .i64) v16.Kids)), (73, .int .i64 (v16.Kids.length : Int)), (74, .int .i64 v32), (99, .bool y38.1)] [some [.sl none (List.map enc_tNd y38.2.l), .int .i64 y38.2.next], hN v16.K v16.S v16.N v16.L v16.Kids]) (runX 10000 ?_) (fun Jy38 => ?_)
      ·clear hy38
       simp only [go_sem, seval]
       refine cS h (fun hb h => ?_) fun hb h => ?_
       ·simp only [go_sem, seval]
        refine retH_s (fun x => .bool x.1) (fun x => [some [.sl none (List.map enc_tNd x.2.l), .int .i64 x.2.next]]) h ?_ ?_
        ·first | rfl | simp only [go_sem, resAV, resAll, resOne, seval]
        ·first | rfl | simp only [go_sem, resAV, resAll, resOne, seval]
       ·refine add_s h fun v45 _ e44 h => ?_
        simp only [go_sem, seval, e44]
        exact lp_back (ih1 v45 y38.2 h) ⟨rfl, rfl, rfl, rfl, rfl, rfl, rfl, trivial⟩
      ·clear h
       have h := hy38
       simp only [go_sem, seval]
       refine grd_ (fun hb40 => ?_) fun hb40 => ?_
       ·have h := ite_f hb40 h
        refine add_s h fun v42 _ e41 h => ?_
        refine bsome h fun v43 hv43 h => ?_
        simp only [go_sem, seval, e41]
        refine cH [0] (hrec _ _ _ _ _ _ _ hv43) ?_
        simp only [go_sem, seval]
        cases h
        exact atJ (wkn (Jy38) ⟨rfl, rfl, rfl, rfl, rfl, rfl, rfl, rfl, trivial⟩)
       ·have h := ite_t hb40 h
        simp only [go_sem, seval]
        cases h
        exact atJ (wkn (Jy38) ⟨rfl, rfl, rfl, rfl, rfl, rfl, rfl, rfl, trivial⟩)
     ·simp only [go_sem, seval]
      exact atJ (wkn (JK18 v33 h) ⟨rfl, rfl, trivial⟩)
    ·exact lp_back (L1 0 p0_w h) ⟨rfl, rfl, rfl, rfl, rfl, rfl, rfl, trivial⟩
 ·clear h
  have h := hy1
  simp only [go_sem, seval]
  refine grd_ (fun hb3 => ?_) fun hb3 => ?_
  ·have h := ite_f hb3 h
   simp only [go_sem, seval]
   refine grd_ (fun hb4 => ?_) fun hb4 => ?_
   ·have h := ite_f hb4 h
    simp only [go_sem, seval]
    refine grd_ (fun hb5 => ?_) fun hb5 => ?_
    ·have h := ite_f hb5 h
     refine lAt_s enc_tNd none .i64 ⟨59, 5, true, 80⟩ (fun _ => rfl) h fun v8 _ b6 e7 h => ?_
     refine bsome h fun v9 hv9 h => ?_
     simp only [go_sem, seval, b6, e7]
     refine cX (w_tNd_may hv9) ?_
     simp only [go_sem, seval]
     refine grd_ (fun hb10 => ?_) fun hb10 => ?_
     ·have h := ite_f hb10 h
      refine bsome h fun v13 hv13 h => ?_
      simp only [go_sem, seval, b6, e7]
      refine cX (w_tree_stands hv13) ?_
      simp only [go_sem, seval]
      cases h
      exact atJ (wkn (Jy1) ⟨rfl, rfl, rfl, rfl, trivial⟩)
     ·have h := ite_t hb10 h
      simp only [go_sem, seval]
      cases h
      exact atJ (wkn (Jy1) ⟨rfl, rfl, rfl, rfl, trivial⟩)
    ·have h := ite_t hb5 h
     simp only [go_sem, seval]
     cases h
     exact atJ (wkn (Jy1) ⟨rfl, rfl, rfl, rfl, trivial⟩)
   ·have h := ite_t hb4 h
    simp only [go_sem, seval]
    cases h
    exact atJ (wkn (Jy1) ⟨rfl, rfl, rfl, rfl, trivial⟩)
  ·have h := ite_t hb3 h
   simp only [go_sem, seval]
   cases h
   exact atJ (wkn (Jy1) ⟨rfl, rfl, rfl, rfl, trivial⟩)
theorem R_tWc_all : ∀ n, R_tWc_ok (R_tWc_n n)
 | 0 => (fun _ _ _ _ _ _ _ h => nomatch h)
 | n+1 => fun _ _ _ _ _ _ _ h => w_tWc_b (R_tWc_all n) h
theorem w_tWc {p0_w : tree_walk} {i : Int} {above : Int} {super : Bool} {msg : Bool} {up : Bool} {r : (Bool × tree_walk)} (h : tWc p0_w i above super msg up = some r) : ACall Tryz.prog 66 [.ptr 0 0, .int .i64 i, .int .i64 above, .bool super, .bool msg, .bool up] [some [.sl none (List.map enc_tNd p0_w.l), .int .i64 p0_w.next]] (.bool r.1) [some [.sl none (List.map enc_tNd r.2.l), .int .i64 r.2.next]] := (R_tWc_all fuel) _ _ _ _ _ _ _ h
theorem w_tree_Check {m : tMt} {r : (Option Int)} (h : tree_Check m = some r) : ACall Tryz.prog 26 [enc_tMt m] [] (encE 86 r) [] := by
 refine aX hf26 ok26 meek_encE ?_
 dsimp only [Tryz.f26, nums, Option.getD, List.append]
 unfold tree_Check at h
 refine bsome h fun v1 hv1 h => ?_
 simp only [go_sem, seval]
 refine cX (w_sCostring_string hv1) ?_
 simp only [go_sem, seval]
 refine bsome h fun y2 hy2 h => ?_
 refine rgJ 76 10000 (.inl rfl) (fun w => w [(1, .ptr 0 0), (41, .bool y2)] [hM m]) (runX 10000 ?_) (fun Jy2 => ?_)
 ·clear hy2
  simp only [go_sem, seval]
  refine cS h (fun hb h => ?_) fun hb h => ?_
  ·simp only [go_sem, seval]
   exact rS (fun x => encE 86 x) h
  ·simp only [go_sem, seval]
   refine letK_s h fun K11 hK11 h => ?_
   refine blkJ 76 10000 (fun w => ∀ (v31 : tree_walk), K11 v31 = some r → w [(1, .ptr 0 0), (4, .ptr 1 0)] [hM m, some [.sl none (List.map enc_tNd v31.l), .int .i64 v31.next]]) (fun v31 h => runX 10000 ?_) (fun JK11 => ?_)
   ·subst hK11
    dsimp only at h
    simp only [go_sem, seval]
    refine rg_ 10000 (.inr ⟨[], by kernel_rfl, by kernel_rfl, by rfl⟩) ?_
    simp only [go_sem, seval]
    refine cS h (fun hb h => ?_) fun hb h => ?_
    ·simp only [go_sem, seval]
     exact rS (fun x => encE 86 x) h
    ·simp only [go_sem, seval]
     exact rS (fun x => encE 86 x) h
   ·clear hK11
    simp only [go_sem, seval]
    refine lpJ 76 fuel (fun q1 w => ∀ (v21 : Int) (v22 : tree_walk), tree_Check_l1 m K11 q1 v21 v22 = some r → w [(1, .ptr 0 0), (4, .ptr 1 0), (48, .sl none (List.map (AV.int .i64) m.Body)), (49, .int .i64 (m.Body.length : Int)), (50, .int .i64 v21)] [hM m, some [.sl none (List.map enc_tNd v22.l), .int .i64 v22.next]]) (fun w _ _ h => nomatch h) (fun q1 ih1 v21 v22 h => ?_) (fun L1 => ?_)
    ·unfold tree_Check_l1 at h
     refine rL ?_
     simp only [go_sem, seval]
     refine cS h (fun hb h => ?_) fun hb h => ?_
     ·simp only [go_sem, seval]
      refine bK ?_
      refine lAt_s (AV.int .i64) none .i64 ⟨3, 1, false, 8⟩ (fun _ => rfl) h fun v25 _ b23 e24 h => ?_
      refine sub_s h fun v27 _ e26 h => ?_
      refine bsome h fun v28 hv28 h => ?_
      simp only [go_sem, seval, b23, e24, e26]
      refine cH [1] (w_tWc hv28) ?_
      simp only [go_sem, seval]
      refine cS h (fun hb h => ?_) fun hb h => ?_
      ·simp only [go_sem, seval]
       exact rS (fun x => encE 86 x) h
      ·refine add_s h fun v30 _ e29 h => ?_
       simp only [go_sem, seval, e29]
       exact lp_back (ih1 v30 v28.2 h) ⟨rfl, rfl, rfl, rfl, rfl, trivial⟩
     ·simp only [go_sem, seval]
      exact atJ (wkn (JK11 v22 h) ⟨rfl, rfl, trivial⟩)
    ·exact lp_back (L1 0 (tree_walk.mk m.Nodes 0) h) ⟨rfl, rfl, rfl, rfl, rfl, trivial⟩
 ·clear h
  have h := hy2
  refine bsome h fun v4 hv4 h => ?_
  simp only [go_sem, seval]
  refine cX (w_tree_sends hv4) ?_
  simp only [go_sem, seval]
  refine grd_ (fun hb5 => ?_) fun hb5 => ?_
  ·have h := ite_f hb5 h
   simp only [go_sem, seval]
   refine grd_ (fun hb6 => ?_) fun hb6 => ?_
   ·have h := ite_f hb6 h
    refine bsome h fun v7 hv7 h => ?_
    simp only [go_sem, seval]
    refine cX (w_tree_unlike hv7) ?_
    simp only [go_sem, seval]
    refine grd_ (fun hb8 => ?_) fun hb8 => ?_
    ·have h := ite_f hb8 h
     simp only [go_sem, seval]
     refine grd_ (fun hb9 => ?_) fun hb9 => ?_
     ·have h := ite_f hb9 h
      simp only [go_sem, seval]
      cases h
      exact atJ (wkn (Jy2) ⟨rfl, rfl, trivial⟩)
     ·have h := ite_t hb9 h
      simp only [go_sem, seval]
      cases h
      exact atJ (wkn (Jy2) ⟨rfl, rfl, trivial⟩)
    ·have h := ite_t hb8 h
     simp only [go_sem, seval]
     cases h
     exact atJ (wkn (Jy2) ⟨rfl, rfl, trivial⟩)
   ·have h := ite_t hb6 h
    simp only [go_sem, seval]
    cases h
    exact atJ (wkn (Jy2) ⟨rfl, rfl, trivial⟩)
  ·have h := ite_t hb5 h
   simp only [go_sem, seval]
   cases h
   exact atJ (wkn (Jy2) ⟨rfl, rfl, trivial⟩)
theorem w_lex_many {s : Str} {is : (Int → Option Bool)} (fv_is : FuncId) (hf_is : ∀ (a0 : Int) (z : Bool), is a0 = some z → ACall Tryz.prog fv_is [.int .u8 a0] [] (.bool z) []) {r : Int} (h : lex_many s is = some r) : ACall Tryz.prog 151 [.str s, .fn (.func fv_is) [] []] [] (.int .i64 r) [] := by
 refine aX hf151 ok151 meek_int ?_
 dsimp only [Tryz.f151, nums, Option.getD, List.append]
 unfold lex_many at h
 simp only [go_sem, seval]
 refine bsome h fun y1 hy1 h => ?_
 refine blkJ 20 10000 (fun w => w [(5, .int .i64 y1)] []) (runX 10000 ?_) (fun Jy1 => ?_)
 ·clear hy1
  simp only [go_sem, seval]
  exact rS (fun x => .int .i64 x) h
 ·clear h
  have h := hy1
  simp only [go_sem, seval]
  refine lpJ 20 fuel (fun q1 w => ∀ (v3 : Int), lex_many_l1 s is q1 v3 = some y1 → w [(0, .str s), (1, .fn (.func fv_is) [] []), (5, .int .i64 v3)] []) (fun w _ h => nomatch h) (fun q1 ih1 v3 h => ?_) (fun L1 => ?_)
  ·unfold lex_many_l1 at h
   refine rL ?_
   simp only [go_sem, seval]
   refine bsome h fun y4 hy4 h => ?_
   refine rgJ 20 10000 (.inl rfl) (fun w => w [(0, .str s), (1, .fn (.func fv_is) [] []), (5, .int .i64 v3), (16, .bool y4)] []) (runX 10000 ?_) (fun Jy4 => ?_)
   ·clear hy4
    simp only [go_sem, seval]
    refine cS h (fun hb h => ?_) fun hb h => ?_
    ·simp only [go_sem, seval]
     refine bK ?_
     refine add_s h fun v12 _ e11 h => ?_
     simp only [go_sem, seval, e11]
     exact lp_back (ih1 v12 h) ⟨rfl, rfl, rfl, trivial⟩
    ·simp only [go_sem, seval]
     cases h
     exact atJ (wkn (Jy1) ⟨rfl, trivial⟩)
   ·clear h
    have h := hy4
    simp only [go_sem, seval]
    refine grd_ (fun hb6 => ?_) fun hb6 => ?_
    ·have h := ite_t hb6 h
     refine sIdx_s .i64 h fun v9 _ b7 e8 h => ?_
     refine bsome h fun v10 hv10 h => ?_
     simp only [go_sem, seval, b7, e8]
     refine cX (hf_is _ _ hv10) ?_
     simp only [go_sem, seval]
     cases h
     exact atJ (wkn (Jy4) ⟨rfl, rfl, rfl, rfl, trivial⟩)
    ·have h := ite_f hb6 h
     simp only [go_sem, seval]
     cases h
     exact atJ (wkn (Jy4) ⟨rfl, rfl, rfl, rfl, trivial⟩)
  ·exact lp_back (L1 0 h) ⟨rfl, rfl, rfl, trivial⟩
theorem w_lex_bin {c : Int} {r : Bool} (h : lex_bin c = some r) : ACall Tryz.prog 152 [.int .u8 c] [] (.bool r) [] := by
 refine aX hf152 ok152 meek_bool ?_
 dsimp only [Tryz.f152, nums, Option.getD, List.append]
 unfold lex_bin at h
 refine bsome h fun v1 hv1 h => ?_
 simp only [go_sem, seval]
 refine cX (w_strings_IndexByte hv1) ?_
 simp only [go_sem, seval]
 exact rS (fun x => .bool x) h
theorem w_lex_letter {c : Int} {r : Bool} (h : lex_letter c = some r) : ACall Tryz.prog 148 [.int .u8 c] [] (.bool r) [] := by
 refine aX hf148 ok148 meek_bool ?_
 dsimp only [Tryz.f148, nums, Option.getD, List.append]
 unfold lex_letter at h
 simp only [go_sem, seval]
 refine rgJ 17 10000 (.inl rfl) (fun w => w [(2, .bool (((decide ((97 : Int) ≤ c)) && (decide (c ≤ 122))) || ((decide ((65 : Int) ≤ c)) && (decide (c ≤ 90)))))] []) (runX 10000 ?_) (fun Jg1 => ?_)
 ·simp only [go_sem, seval]
  exact rS (fun x => .bool x) h
 ·simp only [go_sem, seval]
  refine grd_ (fun hb2 => ?_) fun hb2 => ?_
  ·simp only [go_sem, seval]
   refine grd_ (fun hb3 => ?_) fun hb3 => ?_
   ·simp only [go_sem, seval]
    refine grd_ (fun hb4 => ?_) fun hb4 => ?_
    ·simp only [go_sem, seval]
     exact atJ (wkn Jg1 ⟨congrArg AV.bool (by first | rfl | (rw [hb2, hb3, hb4]; rfl) | (simp [hb2, hb3, hb4]; done) | simp_all), trivial⟩)
    ·simp only [go_sem, seval]
     exact atJ (wkn Jg1 ⟨congrArg AV.bool (by first | rfl | (rw [hb2, hb3, hb4]; rfl) | (simp [hb2, hb3, hb4]; done) | simp_all), trivial⟩)
   ·simp only [go_sem, seval]
    exact atJ (wkn Jg1 ⟨congrArg AV.bool (by first | rfl | (rw [hb2, hb3]; rfl) | (simp [hb2, hb3]; done) | simp_all), trivial⟩)
  ·simp only [go_sem, seval]
   refine grd_ (fun hb5 => ?_) fun hb5 => ?_
   ·simp only [go_sem, seval]
    exact atJ (wkn Jg1 ⟨congrArg AV.bool (by first | rfl | (rw [hb2, hb5]; rfl) | (simp [hb2, hb5]; done) | simp_all), trivial⟩)
   ·simp only [go_sem, seval]
    exact atJ (wkn Jg1 ⟨congrArg AV.bool (by first | rfl | (rw [hb2, hb5]; rfl) | (simp [hb2, hb5]; done) | simp_all), trivial⟩)
theorem w_lex_digit {c : Int} {r : Bool} (h : lex_digit c = some r) : ACall Tryz.prog 150 [.int .u8 c] [] (.bool r) [] := by
 refine aX hf150 ok150 meek_bool ?_
 dsimp only [Tryz.f150, nums, Option.getD, List.append]
 unfold lex_digit at h
 simp only [go_sem, seval]
 refine rgJ 9 10000 (.inl rfl) (fun w => w [(2, .bool ((decide ((48 : Int) ≤ c)) && (decide (c ≤ 57))))] []) (runX 10000 ?_) (fun Jg1 => ?_)
 ·simp only [go_sem, seval]
  exact rS (fun x => .bool x) h
 ·simp only [go_sem, seval]
  refine grd_ (fun hb2 => ?_) fun hb2 => ?_
  ·simp only [go_sem, seval]
   exact atJ (wkn Jg1 ⟨congrArg AV.bool (by first | rfl | (rw [hb2]; rfl) | (simp [hb2]; done) | simp_all), trivial⟩)
  ·simp only [go_sem, seval]
   exact atJ (wkn Jg1 ⟨congrArg AV.bool (by first | rfl | (rw [hb2]; rfl) | (simp [hb2]; done) | simp_all), trivial⟩)
theorem w_lex_either {c : Int} {r : Bool} (h : lex_either c = some r) : ACall Tryz.prog 196 [.int .u8 c] [] (.bool r) [] := by
 refine aX hf196 ok196 meek_bool ?_
 dsimp only [Tryz.f196, nums, Option.getD, List.append]
 unfold lex_either at h
 simp only [go_sem, seval]
 refine bsome h fun y1 hy1 h => ?_
 refine rgJ 9 10000 (.inl rfl) (fun w => w [(2, .bool y1)] []) (runX 10000 ?_) (fun Jy1 => ?_)
 ·clear hy1
  simp only [go_sem, seval]
  exact rS (fun x => .bool x) h
 ·clear h
  have h := hy1
  refine bsome h fun v3 hv3 h => ?_
  simp only [go_sem, seval]
  refine cX (w_lex_digit hv3) ?_
  simp only [go_sem, seval]
  refine grd_ (fun hb4 => ?_) fun hb4 => ?_
  ·have h := ite_f hb4 h
   refine bsome h fun v5 hv5 h => ?_
   simp only [go_sem, seval]
   refine cX (w_lex_letter hv5) ?_
   simp only [go_sem, seval]
   cases h
   exact atJ (wkn (Jy1) ⟨rfl, trivial⟩)
  ·have h := ite_t hb4 h
   simp only [go_sem, seval]
   cases h
   exact atJ (wkn (Jy1) ⟨rfl, trivial⟩)
theorem w_lex_named {s : Str} {r : Bool} (h : lex_named s = some r) : ACall Tryz.prog 155 [.str s] [] (.bool r) [] := by
 refine aX hf155 ok155 meek_bool ?_
 dsimp only [Tryz.f155, nums, Option.getD, List.append]
 unfold lex_named at h
 simp only [go_sem, seval]
 refine bsome h fun y1 hy1 h => ?_
 refine rgJ 22 10000 (.inl rfl) (fun w => w [(2, .bool y1)] []) (runX 10000 ?_) (fun Jy1 => ?_)
 ·clear hy1
  simp only [go_sem, seval]
  exact rS (fun x => .bool x) h
 ·clear h
  have h := hy1
  simp only [go_sem, seval]
  refine grd_ (fun hb3 => ?_) fun hb3 => ?_
  ·have h := ite_t hb3 h
   simp only [go_sem, seval]
   refine grd_ (fun hb4 => ?_) fun hb4 => ?_
   ·have h := ite_t hb4 h
    refine sIdx_s .i64 h fun v7 _ b5 e6 h => ?_
    refine bsome h fun v8 hv8 h => ?_
    simp only [go_sem, seval, b5, e6]
    refine cX (w_lex_letter hv8) ?_
    simp only [go_sem, seval]
    refine grd_ (fun hb9 => ?_) fun hb9 => ?_
    ·have h := ite_t hb9 h
     refine bsome h fun v10 hv10 h => ?_
     simp only [go_sem, seval]
     refine cX (w_lex_many 196 (fun _ _ h => w_lex_either h) hv10) ?_
     simp only [go_sem, seval]
     cases h
     exact atJ (wkn (Jy1) ⟨rfl, trivial⟩)
    ·have h := ite_f hb9 h
     simp only [go_sem, seval]
     cases h
     exact atJ (wkn (Jy1) ⟨rfl, trivial⟩)
   ·have h := ite_f hb4 h
    simp only [go_sem, seval]
    cases h
    exact atJ (wkn (Jy1) ⟨rfl, trivial⟩)
  ·have h := ite_f hb3 h
   simp only [go_sem, seval]
   cases h
   exact atJ (wkn (Jy1) ⟨rfl, trivial⟩)
theorem w_lex_number {s : Str} {r : Bool} (h : lex_number s = some r) : ACall Tryz.prog 156 [.str s] [] (.bool r) [] := by
 refine aX hf156 ok156 meek_bool ?_
 dsimp only [Tryz.f156, nums, Option.getD, List.append]
 unfold lex_number at h
 simp only [go_sem, seval]
 refine bsome h fun y1 hy1 h => ?_
 refine rgJ 27 10000 (.inl rfl) (fun w => w [(2, .bool y1)] []) (runX 10000 ?_) (fun Jy1 => ?_)
 ·clear hy1
  simp only [go_sem, seval]
  exact rS (fun x => .bool x) h
 ·clear h
  have h := hy1
  simp only [go_sem, seval]
  refine grd_ (fun hb3 => ?_) fun hb3 => ?_
  ·have h := ite_t hb3 h
   simp only [go_sem, seval]
   refine grd_ (fun hb4 => ?_) fun hb4 => ?_
   ·have h := ite_t hb4 h
    refine bsome h fun v5 hv5 h => ?_
    simp only [go_sem, seval]
    refine cX (w_lex_many 150 (fun _ _ h => w_lex_digit h) hv5) ?_
    simp only [go_sem, seval]
    refine grd_ (fun hb6 => ?_) fun hb6 => ?_
    ·have h := ite_t hb6 h
     refine sIdx_s .i64 h fun v9 _ b7 e8 h => ?_
     simp only [go_sem, seval, b7, e8]
     refine grd_ (fun hb10 => ?_) fun hb10 => ?_
     ·have h := ite_f hb10 h
      simp only [go_sem, seval]
      cases h
      exact atJ (wkn (Jy1) ⟨rfl, trivial⟩)
     ·have h := ite_t hb10 h
      simp only [go_sem, seval]
      cases h
      exact atJ (wkn (Jy1) ⟨rfl, trivial⟩)
    ·have h := ite_f hb6 h
     simp only [go_sem, seval]
     cases h
     exact atJ (wkn (Jy1) ⟨rfl, trivial⟩)
   ·have h := ite_f hb4 h
    simp only [go_sem, seval]
    cases h
    exact atJ (wkn (Jy1) ⟨rfl, trivial⟩)
  ·have h := ite_f hb3 h
   simp only [go_sem, seval]
   cases h
   exact atJ (wkn (Jy1) ⟨rfl, trivial⟩)
theorem w_lex_May {p0_w : lWd} {r : Bool} (h : lex_May p0_w = some r) : ACall Tryz.prog 102 [enc_lWd p0_w] [] (.bool r) [] := by
 refine aX hf102 ok102 meek_bool ?_
 dsimp only [Tryz.f102, nums, Option.getD, List.append]
 unfold lex_May at h
 simp only [go_sem, seval]
 refine cS h (fun hb h => ?_) fun hb h => ?_
 ·simp only [go_sem, seval]
  exact rS (fun x => .bool x) h
 ·simp only [go_sem, seval]
  refine bK ?_
  simp only [go_sem, seval]
  refine bsome h fun y1 hy1 h => ?_
  refine cndJ 54 10000 (fun w => w [(1, .ptr 0 0), (7, .int .u8 p0_w.K), (8, .bool y1)] [some [.int .u8 p0_w.K, .str p0_w.S, .int .i64 p0_w.At]]) (runX 10000 ?_) (fun Jy1 => ?_)
  ·clear hy1
   simp only [go_sem, seval]
   refine cS h (fun hb h => ?_) fun hb h => ?_
   ·refine bsome h fun v5 hv5 h => ?_
    simp only [go_sem, seval]
    refine cX (w_lex_named hv5) ?_
    simp only [go_sem, seval]
    exact rS (fun x => .bool x) h
   ·simp only [go_sem, seval]
    refine cS h (fun hb h => ?_) fun hb h => ?_
    ·simp only [go_sem, seval]
     refine bsome h fun y6 hy6 h => ?_
     refine rgJ 54 10000 (.inr ⟨[], by kernel_rfl, by kernel_rfl, by rfl⟩) (fun w => w [(2, .bool y6)] [some [.int .u8 p0_w.K, .str p0_w.S, .int .i64 p0_w.At]]) (runX 10000 ?_) (fun Jy6 => ?_)
     ·clear hy6
      simp only [go_sem, seval]
      exact rS (fun x => .bool x) h
     ·clear h
      have h := hy6
      simp only [go_sem, seval]
      refine grd_ (fun hb8 => ?_) fun hb8 => ?_
      ·have h := ite_t hb8 h
       simp only [go_sem, seval]
       refine grd_ (fun hb9 => ?_) fun hb9 => ?_
       ·have h := ite_t hb9 h
        refine bsome h fun v10 hv10 h => ?_
        simp only [go_sem, seval]
        refine cX (w_lex_many 152 (fun _ _ h => w_lex_bin h) hv10) ?_
        simp only [go_sem, seval]
        cases h
        exact atJ (wkn (Jy6) ⟨rfl, trivial⟩)
       ·have h := ite_f hb9 h
        simp only [go_sem, seval]
        cases h
        exact atJ (wkn (Jy6) ⟨rfl, trivial⟩)
      ·have h := ite_f hb8 h
       simp only [go_sem, seval]
       cases h
       exact atJ (wkn (Jy6) ⟨rfl, trivial⟩)
    ·simp only [go_sem, seval]
     refine cS h (fun hb h => ?_) fun hb h => ?_
     ·refine bsome h fun v11 hv11 h => ?_
      simp only [go_sem, seval]
      refine cX (w_lex_number hv11) ?_
      simp only [go_sem, seval]
      exact rS (fun x => .bool x) h
     ·simp only [go_sem, seval]
      refine cS h (fun hb h => ?_) fun hb h => ?_
      ·simp only [go_sem, seval]
       exact rS (fun x => .bool x) h
      ·simp only [go_sem, seval]
       refine rgJ 54 10000 (.inl rfl) (fun w => w [(2, .bool ((decide (p0_w.K ≤ 16)) && (p0_w.S == [])))] [some [.int .u8 p0_w.K, .str p0_w.S, .int .i64 p0_w.At]]) (runX 10000 ?_) (fun Jg12 => ?_)
       ·simp only [go_sem, seval]
        exact rS (fun x => .bool x) h
       ·simp only [go_sem, seval]
        refine grd_ (fun hb13 => ?_) fun hb13 => ?_
        ·simp only [go_sem, seval]
         exact atJ (wkn Jg12 ⟨congrArg AV.bool (by first | rfl | (rw [hb13]; rfl) | (simp [hb13]; done) | simp_all), trivial⟩)
        ·simp only [go_sem, seval]
         exact atJ (wkn Jg12 ⟨congrArg AV.bool (by first | rfl | (rw [hb13]; rfl) | (simp [hb13]; done) | simp_all), trivial⟩)
  ·clear h
   have h := hy1
   refine cS h (fun hb h => ?_) fun hb h => ?_
   ·simp only [go_sem, seval]
    cases h
    exact atJ (wkn (Jy1) ⟨rfl, rfl, rfl, trivial⟩)
   ·simp only [go_sem, seval]
    refine bsome h fun y3 hy3 h => ?_
    refine cndJ 54 10000 (fun w => w [(1, .ptr 0 0), (7, .int .u8 p0_w.K), (8, .bool y3)] [some [.int .u8 p0_w.K, .str p0_w.S, .int .i64 p0_w.At]]) (runX 10000 ?_) (fun Jy3 => ?_)
    ·clear hy3
     simp only [go_sem, seval]
     cases h
     exact atJ (wkn (Jy1) ⟨rfl, rfl, rfl, trivial⟩)
    ·clear h
     have h := hy3
     refine cS h (fun hb h => ?_) fun hb h => ?_
     ·simp only [go_sem, seval]
      cases h
      exact atJ (wkn (Jy3) ⟨rfl, rfl, rfl, trivial⟩)
     ·simp only [go_sem, seval]
      cases h
      exact atJ (wkn (Jy3) ⟨rfl, rfl, rfl, trivial⟩)
theorem w_lex_write {p0_w : lWd} {r : Str} (h : lex_write p0_w = some r) : ACall Tryz.prog 103 [enc_lWd p0_w] [] (.str r) [] := by
 refine aX hf103 ok103 meek_str ?_
 dsimp only [Tryz.f103, nums, Option.getD, List.append]
 unfold lex_write at h
 simp only [go_sem, seval]
 refine bK ?_
 simp only [go_sem, seval]
 refine cS h (fun hb h => ?_) fun hb h => ?_
 ·refine cat_s h fun v3 _ (b1 : p0_w.S.length + 1 ≤ maxB) e2 h => ?_
  simp only [go_sem, seval, b1, e2]
  exact rS (fun x => .str x) h
 ·simp only [go_sem, seval]
  refine cS h (fun hb h => ?_) fun hb h => ?_
  ·refine cat_s h fun v6 _ (b4 : 1 + p0_w.S.length ≤ maxB) e5 h => ?_
   simp only [go_sem, seval, b4, e5]
   exact rS (fun x => .str x) h
  ·simp only [go_sem, seval]
   refine cS h (fun hb h => ?_) fun hb h => ?_
   ·refine bsome h fun v7 hv7 h => ?_
    simp only [go_sem, seval]
    refine cX (w_strings_ReplaceAll hv7) ?_
    refine cat_s h fun v10 _ (b8 : 1 + v7.length ≤ maxB) e9 h => ?_
    refine cat_s h fun v13 _ (b11 : v10.length + 1 ≤ maxB) e12 h => ?_
    simp only [go_sem, seval, b8, e9, b11, e12]
    exact rS (fun x => .str x) h
   ·simp only [go_sem, seval]
    refine cS h (fun hb h => ?_) fun hb h => ?_
    ·simp only [go_sem, seval]
     exact rS (fun x => .str x) h
    ·simp only [go_sem, seval]
     refine bsome h fun y14 hy14 h => ?_
     refine cndJ 38 10000 (fun w => w [(1, .ptr 0 0), (24, .bool y14)] [some [.int .u8 p0_w.K, .str p0_w.S, .int .i64 p0_w.At]]) (runX 10000 ?_) (fun Jy14 => ?_)
     ·clear hy14
      simp only [go_sem, seval]
      refine cS h (fun hb h => ?_) fun hb h => ?_
      ·simp only [go_sem, seval]
       exact rS (fun x => .str x) h
      ·refine subS_s (some (.int .u8 (IntKind.wrap .u8 (p0_w.K - 7)))) (some (.int .u8 (IntKind.wrap .u8 ((IntKind.wrap .u8 (p0_w.K - 7)) + 1)))) rfl rfl h fun v20 _ b18 e19 h => ?_
       simp only [go_sem, seval, (show intv .sub .u8 p0_w.K 7 = .int .u8 (IntKind.wrap .u8 (p0_w.K - 7)) from rfl), (show intv .sub .u8 p0_w.K 7 = .int .u8 (IntKind.wrap .u8 (p0_w.K - 7)) from rfl), (show intv .add .u8 (IntKind.wrap .u8 (p0_w.K - 7)) 1 = .int .u8 (IntKind.wrap .u8 ((IntKind.wrap .u8 (p0_w.K - 7)) + 1)) from rfl), b18, e19]
       exact rS (fun x => .str x) h
     ·clear h
      have h := hy14
      refine cS h (fun hb h => ?_) fun hb h => ?_
      ·simp only [go_sem, seval]
       cases h
       exact atJ (wkn (Jy14) ⟨rfl, rfl, trivial⟩)
      ·simp only [go_sem, seval]
       refine bsome h fun y16 hy16 h => ?_
       refine cndJ 38 10000 (fun w => w [(1, .ptr 0 0), (24, .bool y16)] [some [.int .u8 p0_w.K, .str p0_w.S, .int .i64 p0_w.At]]) (runX 10000 ?_) (fun Jy16 => ?_)
       ·clear hy16
        simp only [go_sem, seval]
        cases h
        exact atJ (wkn (Jy14) ⟨rfl, rfl, trivial⟩)
       ·clear h
        have h := hy16
        refine cS h (fun hb h => ?_) fun hb h => ?_
        ·simp only [go_sem, seval]
         cases h
         exact atJ (wkn (Jy16) ⟨rfl, rfl, trivial⟩)
        ·simp only [go_sem, seval]
         cases h
         exact atJ (wkn (Jy16) ⟨rfl, rfl, trivial⟩)
theorem w_lex_Text {l : (List lWd)} {r : (Str × (Option Int))} (h : lex_Text l = some r) : ACall Tryz.prog 51 [.sl none (List.map enc_lWd l)] [] (.tup [.str r.1, encE 86 r.2]) [] := by
 refine aX hf51 ok51 meek_tup ?_
 dsimp only [Tryz.f51, nums, Option.getD, List.append]
 unfold lex_Text at h
 simp only [go_sem, seval]
 refine letK_s h fun K2 hK2 h => ?_
 refine blkJ 45 10000 (fun w => K2 () = some r → w [(0, .sl none (List.map enc_lWd l))] []) (fun h => runX 10000 ?_) (fun JK2 => ?_)
 ·subst hK2
  dsimp only at h
  simp only [go_sem, seval]
  refine letK_s h fun K11 hK11 h => ?_
  refine blkJ 45 10000 (fun w => ∀ (v28 : (List Str)), K11 v28 = some r → w [(7, .sl (some none) (List.map AV.str v28))] []) (fun v28 h => runX 10000 ?_) (fun JK11 => ?_)
  ·subst hK11
   dsimp only at h
   refine bsome h fun v29 hv29 h => ?_
   simp only [go_sem, seval]
   refine cX (w_strings_Join hv29) ?_
   simp only [go_sem, seval]
   refine ret_s (fun x => .tup [.str x.1, encE 86 x.2]) h ?_
   first | rfl | simp only [go_sem, resAV, resAll, resOne, seval]
  ·clear hK11
   simp only [go_sem, seval]
   refine lpJ 45 fuel (fun q2 w => ∀ (v12 : Int) (v13 : (List Str)) (v14 : Int), lex_Text_l2 l K11 q2 v12 v13 v14 = some r → w [(6, .int .i64 v12), (7, .sl (some none) (List.map AV.str v13)), (22, .sl none (List.map enc_lWd l)), (23, .int .i64 (l.length : Int)), (24, .int .i64 v14)] []) (fun w _ _ _ h => nomatch h) (fun q2 ih2 v12 v13 v14 h => ?_) (fun L2 => ?_)
   ·unfold lex_Text_l2 at h
    refine rL ?_
    simp only [go_sem, seval]
    refine cS h (fun hb h => ?_) fun hb h => ?_
    ·simp only [go_sem, seval]
     refine bK ?_
     refine lAt_s enc_lWd none .i64 ⟨74, 3, true, 32⟩ (fun _ => rfl) h fun v17 _ b15 e16 h => ?_
     refine bsome h fun v18 hv18 h => ?_
     simp only [go_sem, seval, b15, e16]
     refine cX (w_lex_write hv18) ?_
     refine add_s h fun v20 _ e19 h => ?_
     refine add_s h fun v22 _ e21 h => ?_
     simp only [go_sem, seval, e19, e21]
     refine cS h (fun hb h => ?_) fun hb h => ?_
     ·simp only [go_sem, seval]
      refine ret_s (fun x => .tup [.str x.1, encE 86 x.2]) h ?_
      first | rfl | simp only [go_sem, resAV, resAll, resOne, seval]
     ·refine app_s AV.str (some none) ⟨9, 1, false, 16⟩ (fun _ => rfl) (by decide) rfl h fun v25 _ (b23 : appc ⟨9, 1, false, 16⟩ (.sl (some none) (List.map AV.str v13)) (.sl (some none) [.str v18])) (e24 : appv (.sl (some none) (List.map AV.str v13)) (.sl (some none) [.str v18]) = .sl (some none) (List.map AV.str v25)) h => ?_
      refine add_s h fun v27 _ e26 h => ?_
      simp only [go_sem, seval, b23, e24, e26]
      exact lp_backH 0 (ih2 v22 v25 v27 h) ⟨rfl, rfl, rfl, rfl, rfl, trivial⟩ rfl rfl rfl (by first | rfl | simp only [go_sem, ltF]) (by first | rfl | simp only [go_sem, allLt])
    ·simp only [go_sem, seval]
     exact atJ (wkn (JK11 v13 h) ⟨rfl, trivial⟩)
   ·exact lp_back (L2 0 [] 0 h) ⟨rfl, rfl, rfl, rfl, rfl, trivial⟩
 ·clear hK2
  simp only [go_sem, seval]
  refine lpJ 45 fuel (fun q1 w => ∀ (v3 : Int), lex_Text_l1 l K2 q1 v3 = some r → w [(0, .sl none (List.map enc_lWd l)), (11, .sl none (List.map enc_lWd l)), (12, .int .i64 (l.length : Int)), (13, .int .i64 v3)] []) (fun w _ h => nomatch h) (fun q1 ih1 v3 h => ?_) (fun L1 => ?_)
  ·unfold lex_Text_l1 at h
   refine rL ?_
   simp only [go_sem, seval]
   refine cS h (fun hb h => ?_) fun hb h => ?_
   ·simp only [go_sem, seval]
    refine bK ?_
    refine lAt_s enc_lWd none .i64 ⟨74, 3, true, 32⟩ (fun _ => rfl) h fun v6 _ b4 e5 h => ?_
    refine bsome h fun v7 hv7 h => ?_
    simp only [go_sem, seval, b4, e5]
    refine cX (w_lex_May hv7) ?_
    simp only [go_sem, seval]
    refine cS h (fun hb h => ?_) fun hb h => ?_
    ·simp only [go_sem, seval]
     refine ret_s (fun x => .tup [.str x.1, encE 86 x.2]) h ?_
     first | rfl | simp only [go_sem, resAV, resAll, resOne, seval]
    ·refine add_s h fun v9 _ e8 h => ?_
     simp only [go_sem, seval, e8]
     exact lp_backH 0 (ih1 v9 h) ⟨rfl, rfl, rfl, rfl, trivial⟩ rfl rfl rfl (by first | rfl | simp only [go_sem, ltF]) (by first | rfl | simp only [go_sem, allLt])
   ·simp only [go_sem, seval]
    exact atJ (wkn (JK2 h) ⟨rfl, trivial⟩)
  ·exact lp_back (L1 0 h) ⟨rfl, rfl, rfl, rfl, trivial⟩
theorem w_pwr_text {p0_w : pwr} {k : Int} {s : Str} {r : pwr} (h : pwr_text p0_w k s = some r) : ACall Tryz.prog 57 [.ptr 0 0, .int .u8 k, .str s] [hW p0_w] (.tup []) [hW r] := by
 refine acallHX 10000 hf57 ok57 (by first | rfl | simp only [go_sem]) meek_tup rfl (by first | rfl | simp only [go_sem, allLt]) ?_
 dsimp only [Tryz.f57, nums, Option.getD, List.append]
 unfold pwr_text at h
 refine app_s enc_lWd (some none) ⟨74, 3, true, 32⟩ (fun _ => rfl) (by decide) rfl h fun v3 _ (b1 : appc ⟨74, 3, true, 32⟩ (.sl (some none) (List.map enc_lWd p0_w.l)) (.sl (some none) [.agg [.int .u8 k, .str s, .int .i64 0]])) (e2 : appv (.sl (some none) (List.map enc_lWd p0_w.l)) (.sl (some none) [.agg [.int .u8 k, .str s, .int .i64 0]]) = .sl (some none) (List.map enc_lWd v3)) h => ?_
 simp only [go_sem, seval, b1, e2]
 refine atEndF (retH_s (fun x => .tup []) (fun x => [hW x]) h ?_ ?_)
 ·first | rfl | simp only [go_sem, resAV, resAll, resOne, seval]
 ·first | rfl | simp only [go_sem, resAV, resAll, resOne, seval]
theorem w_pwr_textT {p0_w : pwr} {k : Int} {s : Str} {r : pwr} (h : pwr_text p0_w k s = some r) : ACall Tryz.prog 57 [.ptr 0 0, .int .u8 k, .str s] [hT p0_w] (.tup []) [hT r] := by
 refine acallHX 10000 hf57 ok57 (by first | rfl | simp only [go_sem]) meek_tup rfl (by first | rfl | simp only [go_sem, allLt]) ?_
 dsimp only [Tryz.f57, nums, Option.getD, List.append]
 unfold pwr_text at h
 refine appE_s (E := (74, 3)) enc_lWd (some none) ⟨74, 3, true, 32⟩ (fun _ => rfl) (by decide) ⟨rfl, by first | exact .inl rfl | exact .inr rfl⟩ rfl h fun v3 _ (b1 : appc ⟨74, 3, true, 32⟩ (.sl (some (some (74, 3))) (List.map enc_lWd p0_w.l)) (.sl (some none) [.agg [.int .u8 k, .str s, .int .i64 0]])) (e2 : appv (.sl (some (some (74, 3))) (List.map enc_lWd p0_w.l)) (.sl (some none) [.agg [.int .u8 k, .str s, .int .i64 0]]) = .sl (some (some (74, 3))) (List.map enc_lWd v3)) h => ?_
 simp only [go_sem, seval, b1, e2]
 refine atEndF (retH_s (fun x => .tup []) (fun x => [hT x]) h ?_ ?_)
 ·first | rfl | simp only [go_sem, resAV, resAll, resOne, seval]
 ·first | rfl | simp only [go_sem, resAV, resAll, resOne, seval]
theorem w_pwr_add {p0_w : pwr} {kinds : (List Int)} {r : pwr} (h : pwr_add p0_w kinds = some r) : ACall Tryz.prog 59 [.ptr 0 0, .sl none (List.map (AV.int .u8) kinds)] [hW p0_w] (.tup []) [hW r] := by
 refine acallHX 10000 hf59 ok59 (by first | rfl | simp only [go_sem]) meek_tup rfl (by first | rfl | simp only [go_sem, allLt]) ?_
 dsimp only [Tryz.f59, nums, Option.getD, List.append]
 unfold pwr_add at h
 simp only [go_sem, seval]
 refine bsome h fun y1 hy1 h => ?_
 refine blkJ 24 10000 (fun w => w [] [some [.str p0_w.m.Sel, .sl none (List.map AV.str p0_w.m.Args), .sl none (List.map AV.str p0_w.m.Temps), .sl none (List.map enc_tNd p0_w.m.Nodes), .sl none (List.map (AV.int .i64) p0_w.m.Body), .sl (some none) (List.map enc_lWd y1)]]) (runX 10000 ?_) (fun Jy1 => ?_)
 ·clear hy1
  simp only [go_sem, seval]
  refine atEndF (retH_s (fun x => .tup []) (fun x => [hW x]) h ?_ ?_)
  ·first | rfl | simp only [go_sem, resAV, resAll, resOne, seval]
  ·first | rfl | simp only [go_sem, resAV, resAll, resOne, seval]
 ·clear h
  have h := hy1
  simp only [go_sem, seval]
  refine lpJ 24 fuel (fun q1 w => ∀ (v12 : Int) (v13 : (List lWd)), pwr_add_l1 kinds q1 v12 v13 = some y1 → w [(0, .ptr 0 0), (6, .sl none (List.map (AV.int .u8) kinds)), (7, .int .i64 (kinds.length : Int)), (8, .int .i64 v12)] [some [.str p0_w.m.Sel, .sl none (List.map AV.str p0_w.m.Args), .sl none (List.map AV.str p0_w.m.Temps), .sl none (List.map enc_tNd p0_w.m.Nodes), .sl none (List.map (AV.int .i64) p0_w.m.Body), .sl (some none) (List.map enc_lWd v13)]]) (fun w _ _ h => nomatch h) (fun q1 ih1 v12 v13 h => ?_) (fun L1 => ?_)
  ·unfold pwr_add_l1 at h
   refine rL ?_
   simp only [go_sem, seval]
   refine cS h (fun hb h => ?_) fun hb h => ?_
   ·simp only [go_sem, seval]
    refine bK ?_
    refine lAt_s (AV.int .u8) none .i64 ⟨5, 1, false, 1⟩ (fun _ => rfl) h fun v16 _ b14 e15 h => ?_
    refine app_s enc_lWd (some none) ⟨74, 3, true, 32⟩ (fun _ => rfl) (by decide) rfl h fun v19 _ (b17 : appc ⟨74, 3, true, 32⟩ (.sl (some none) (List.map enc_lWd v13)) (.sl (some none) [.agg [.int .u8 v16, .str [], .int .i64 0]])) (e18 : appv (.sl (some none) (List.map enc_lWd v13)) (.sl (some none) [.agg [.int .u8 v16, .str [], .int .i64 0]]) = .sl (some none) (List.map enc_lWd v19)) h => ?_
    refine add_s h fun v21 _ e20 h => ?_
    simp only [go_sem, seval, b14, e15, b17, e18, e20]
    exact lp_back (ih1 v21 v19 h) ⟨rfl, rfl, rfl, rfl, trivial⟩
   ·simp only [go_sem, seval]
    cases h
    exact atJ (wkn (Jy1) trivial)
  ·exact lp_back (L1 0 p0_w.l h) ⟨rfl, rfl, rfl, rfl, trivial⟩
theorem w_pwr_addT {p0_w : pwr} {kinds : (List Int)} {r : pwr} (h : pwr_add p0_w kinds = some r) : ACall Tryz.prog 59 [.ptr 0 0, .sl none (List.map (AV.int .u8) kinds)] [hT p0_w] (.tup []) [hT r] := by
 refine acallHX 10000 hf59 ok59 (by first | rfl | simp only [go_sem]) meek_tup rfl (by first | rfl | simp only [go_sem, allLt]) ?_
 dsimp only [Tryz.f59, nums, Option.getD, List.append]
 unfold pwr_add at h
 simp only [go_sem, seval]
 refine bsome h fun y1 hy1 h => ?_
 refine blkJ 24 10000 (fun w => w [] [some [.str p0_w.m.Sel, .sl none (List.map AV.str p0_w.m.Args), .sl none (List.map AV.str p0_w.m.Temps), .sl none (List.map enc_tNd p0_w.m.Nodes), .sl none (List.map (AV.int .i64) p0_w.m.Body), .sl (some (some (74, 3))) (List.map enc_lWd y1)]]) (runX 10000 ?_) (fun Jy1 => ?_)
 ·clear hy1
  simp only [go_sem, seval]
  refine atEndF (retH_s (fun x => .tup []) (fun x => [hT x]) h ?_ ?_)
  ·first | rfl | simp only [go_sem, resAV, resAll, resOne, seval]
  ·first | rfl | simp only [go_sem, resAV, resAll, resOne, seval]
 ·clear h
  have h := hy1
  simp only [go_sem, seval]
  refine lpJ 24 fuel (fun q1 w => ∀ (v12 : Int) (v13 : (List lWd)), pwr_add_l1 kinds q1 v12 v13 = some y1 → w [(0, .ptr 0 0), (6, .sl none (List.map (AV.int .u8) kinds)), (7, .int .i64 (kinds.length : Int)), (8, .int .i64 v12)] [some [.str p0_w.m.Sel, .sl none (List.map AV.str p0_w.m.Args), .sl none (List.map AV.str p0_w.m.Temps), .sl none (List.map enc_tNd p0_w.m.Nodes), .sl none (List.map (AV.int .i64) p0_w.m.Body), .sl (some (some (74, 3))) (List.map enc_lWd v13)]]) (fun w _ _ h => nomatch h) (fun q1 ih1 v12 v13 h => ?_) (fun L1 => ?_)
  ·unfold pwr_add_l1 at h
   refine rL ?_
   simp only [go_sem, seval]
   refine cS h (fun hb h => ?_) fun hb h => ?_
   ·simp only [go_sem, seval]
    refine bK ?_
    refine lAt_s (AV.int .u8) none .i64 ⟨5, 1, false, 1⟩ (fun _ => rfl) h fun v16 _ b14 e15 h => ?_
    refine appE_s (E := (74, 3)) enc_lWd (some none) ⟨74, 3, true, 32⟩ (fun _ => rfl) (by decide) ⟨rfl, by first | exact .inl rfl | exact .inr rfl⟩ rfl h fun v19 _ (b17 : appc ⟨74, 3, true, 32⟩ (.sl (some (some (74, 3))) (List.map enc_lWd v13)) (.sl (some none) [.agg [.int .u8 v16, .str [], .int .i64 0]])) (e18 : appv (.sl (some (some (74, 3))) (List.map enc_lWd v13)) (.sl (some none) [.agg [.int .u8 v16, .str [], .int .i64 0]]) = .sl (some (some (74, 3))) (List.map enc_lWd v19)) h => ?_
    refine add_s h fun v21 _ e20 h => ?_
    simp only [go_sem, seval, b14, e15, b17, e18, e20]
    exact lp_back (ih1 v21 v19 h) ⟨rfl, rfl, rfl, rfl, trivial⟩
   ·simp only [go_sem, seval]
    cases h
    exact atJ (wkn (Jy1) trivial)
  ·exact lp_back (L1 0 p0_w.l h) ⟨rfl, rfl, rfl, rfl, trivial⟩
theorem w_pwr_vars {p0_w : pwr} {l : (List Str)} {r : pwr} (h : pwr_vars p0_w l = some r) : ACall Tryz.prog 58 [.ptr 0 0, .sl none (List.map AV.str l)] [hW p0_w] (.tup []) [hW r] := by
 refine acallHX 10000 hf58 ok58 (by first | rfl | simp only [go_sem]) meek_tup rfl (by first | rfl | simp only [go_sem, allLt]) ?_
 dsimp only [Tryz.f58, nums, Option.getD, List.append]
 unfold pwr_vars at h
 simp only [go_sem, seval]
 refine cS h (fun hb h => ?_) fun hb h => ?_
 ·simp only [go_sem, seval]
  refine retH_s (fun x => .tup []) (fun x => [hW x]) h ?_ ?_
  ·first | rfl | simp only [go_sem, resAV, resAll, resOne, seval]
  ·first | rfl | simp only [go_sem, resAV, resAll, resOne, seval]
 ·refine bsome h fun v1 hv1 h => ?_
  simp only [go_sem, seval]
  refine cH [0] (w_pwr_add hv1) ?_
  simp only [go_sem, seval]
  refine bsome h fun y2 hy2 h => ?_
  refine blkJ 25 10000 (fun w => w [(0, .ptr 0 0)] [hW y2]) (runX 10000 ?_) (fun Jy2 => ?_)
  ·clear hy2
   refine bsome h fun v19 hv19 h => ?_
   simp only [go_sem, seval]
   refine cH [0] (w_pwr_add hv19) ?_
   simp only [go_sem, seval]
   refine atEndF (retH_s (fun x => .tup []) (fun x => [hW x]) h ?_ ?_)
   ·first | rfl | simp only [go_sem, resAV, resAll, resOne, seval]
   ·first | rfl | simp only [go_sem, resAV, resAll, resOne, seval]
  ·clear h
   have h := hy2
   simp only [go_sem, seval]
   refine lpJ 25 fuel (fun q1 w => ∀ (v11 : Int) (v12 : pwr), pwr_vars_l1 l q1 v11 v12 = some y2 → w [(0, .ptr 0 0), (12, .sl none (List.map AV.str l)), (13, .int .i64 (l.length : Int)), (14, .int .i64 v11)] [hW v12]) (fun w _ _ h => nomatch h) (fun q1 ih1 v11 v12 h => ?_) (fun L1 => ?_)
   ·unfold pwr_vars_l1 at h
    refine rL ?_
    simp only [go_sem, seval]
    refine cS h (fun hb h => ?_) fun hb h => ?_
    ·simp only [go_sem, seval]
     refine bK ?_
     refine lAt_s AV.str none .i64 ⟨9, 1, false, 16⟩ (fun _ => rfl) h fun v15 _ b13 e14 h => ?_
     refine bsome h fun v16 hv16 h => ?_
     simp only [go_sem, seval, b13, e14]
     refine cH [0] (w_pwr_text hv16) ?_
     refine add_s h fun v18 _ e17 h => ?_
     simp only [go_sem, seval, e17]
     exact lp_back (ih1 v18 v16 h) ⟨rfl, rfl, rfl, rfl, trivial⟩
    ·simp only [go_sem, seval]
     cases h
     exact atJ (wkn (Jy2) ⟨rfl, trivial⟩)
   ·exact lp_back (L1 0 v1 h) ⟨rfl, rfl, rfl, rfl, trivial⟩
theorem w_pwr_varsT {p0_w : pwr} {l : (List Str)} {r : pwr} (h : pwr_vars p0_w l = some r) : ACall Tryz.prog 58 [.ptr 0 0, .sl none (List.map AV.str l)] [hT p0_w] (.tup []) [hT r] := by
 refine acallHX 10000 hf58 ok58 (by first | rfl | simp only [go_sem]) meek_tup rfl (by first | rfl | simp only [go_sem, allLt]) ?_
 dsimp only [Tryz.f58, nums, Option.getD, List.append]
 unfold pwr_vars at h
 simp only [go_sem, seval]
 refine cS h (fun hb h => ?_) fun hb h => ?_
 ·simp only [go_sem, seval]
  refine retH_s (fun x => .tup []) (fun x => [hT x]) h ?_ ?_
  ·first | rfl | simp only [go_sem, resAV, resAll, resOne, seval]
  ·first | rfl | simp only [go_sem, resAV, resAll, resOne, seval]
 ·refine bsome h fun v1 hv1 h => ?_
  simp only [go_sem, seval]
  refine cH [0] (w_pwr_addT hv1) ?_
  simp only [go_sem, seval]
  refine bsome h fun y2 hy2 h => ?_
  refine blkJ 25 10000 (fun w => w [(0, .ptr 0 0)] [hT y2]) (runX 10000 ?_) (fun Jy2 => ?_)
  ·clear hy2
   refine bsome h fun v19 hv19 h => ?_
   simp only [go_sem, seval]
   refine cH [0] (w_pwr_addT hv19) ?_
   simp only [go_sem, seval]
   refine atEndF (retH_s (fun x => .tup []) (fun x => [hT x]) h ?_ ?_)
   ·first | rfl | simp only [go_sem, resAV, resAll, resOne, seval]
   ·first | rfl | simp only [go_sem, resAV, resAll, resOne, seval]
  ·clear h
   have h := hy2
   simp only [go_sem, seval]
   refine lpJ 25 fuel (fun q1 w => ∀ (v11 : Int) (v12 : pwr), pwr_vars_l1 l q1 v11 v12 = some y2 → w [(0, .ptr 0 0), (12, .sl none (List.map AV.str l)), (13, .int .i64 (l.length : Int)), (14, .int .i64 v11)] [hT v12]) (fun w _ _ h => nomatch h) (fun q1 ih1 v11 v12 h => ?_) (fun L1 => ?_)
   ·unfold pwr_vars_l1 at h
    refine rL ?_
    simp only [go_sem, seval]
    refine cS h (fun hb h => ?_) fun hb h => ?_
    ·simp only [go_sem, seval]
     refine bK ?_
     refine lAt_s AV.str none .i64 ⟨9, 1, false, 16⟩ (fun _ => rfl) h fun v15 _ b13 e14 h => ?_
     refine bsome h fun v16 hv16 h => ?_
     simp only [go_sem, seval, b13, e14]
     refine cH [0] (w_pwr_textT hv16) ?_
     refine add_s h fun v18 _ e17 h => ?_
     simp only [go_sem, seval, e17]
     exact lp_back (ih1 v18 v16 h) ⟨rfl, rfl, rfl, rfl, trivial⟩
    ·simp only [go_sem, seval]
     cases h
     exact atJ (wkn (Jy2) ⟨rfl, trivial⟩)
   ·exact lp_back (L1 0 v1 h) ⟨rfl, rfl, rfl, rfl, trivial⟩
theorem w_print_rank {sel : Str} {r : Int} (h : print_rank sel = some r) : ACall Tryz.prog 161 [.str sel] [] (.int .i64 r) [] := by
 refine aX hf161 ok161 meek_int ?_
 dsimp only [Tryz.f161, nums, Option.getD, List.append]
 unfold print_rank at h
 refine bsome h fun v1 hv1 h => ?_
 simp only [go_sem, seval]
 refine cX (w_method_Arity hv1) ?_
 simp only [go_sem, seval]
 refine bK ?_
 simp only [go_sem, seval]
 refine cS h (fun hb h => ?_) fun hb h => ?_
 ·simp only [go_sem, seval]
  exact rS (fun x => .int .i64 x) h
 ·refine bsome h fun v2 hv2 h => ?_
  simp only [go_sem, seval]
  refine cX (w_sHSf hv2) ?_
  simp only [go_sem, seval]
  refine cS h (fun hb h => ?_) fun hb h => ?_
  ·simp only [go_sem, seval]
   exact rS (fun x => .int .i64 x) h
  ·simp only [go_sem, seval]
   exact rS (fun x => .int .i64 x) h
theorem w_pwr_pattern {p0_w : pwr} {r : pwr} (h : pwr_pattern p0_w = some r) : ACall Tryz.prog 105 [.ptr 0 0] [hW p0_w] (.tup []) [hW r] := by
 refine acallHX 10000 hf105 ok105 (by first | rfl | simp only [go_sem]) meek_tup rfl (by first | rfl | simp only [go_sem, allLt]) ?_
 dsimp only [Tryz.f105, nums, Option.getD, List.append]
 unfold pwr_pattern at h
 refine bsome h fun v1 hv1 h => ?_
 simp only [go_sem, seval]
 refine cX (w_print_rank hv1) ?_
 simp only [go_sem, seval]
 refine bK ?_
 simp only [go_sem, seval]
 refine bsome h fun y2 hy2 h => ?_
 refine cndJ 64 10000 (fun w => w [] [hW y2]) (runX 10000 ?_) (fun Jy2 => ?_)
 ·clear hy2
  simp only [go_sem, seval]
  refine atEndF (retH_s (fun x => .tup []) (fun x => [hW x]) h ?_ ?_)
  ·first | rfl | simp only [go_sem, resAV, resAll, resOne, seval]
  ·first | rfl | simp only [go_sem, resAV, resAll, resOne, seval]
 ·clear h
  have h := hy2
  refine cS h (fun hb h => ?_) fun hb h => ?_
  ·refine bsome h fun v4 hv4 h => ?_
   simp only [go_sem, seval]
   refine cH [0] (w_pwr_text hv4) ?_
   simp only [go_sem, seval]
   cases h
   exact atJ (wkn (Jy2) trivial)
  ·simp only [go_sem, seval]
   refine bsome h fun y5 hy5 h => ?_
   refine cndJ 64 10000 (fun w => w [] [hW y5]) (runX 10000 ?_) (fun Jy5 => ?_)
   ·clear hy5
    simp only [go_sem, seval]
    cases h
    exact atJ (wkn (Jy2) trivial)
   ·clear h
    have h := hy5
    refine cS h (fun hb h => ?_) fun hb h => ?_
    ·refine bsome h fun v7 hv7 h => ?_
     simp only [go_sem, seval]
     refine cH [0] (w_pwr_text hv7) ?_
     refine lAt_s AV.str none .i64 ⟨9, 1, false, 16⟩ (fun _ => rfl) h fun v10 _ b8 e9 h => ?_
     refine bsome h fun v11 hv11 h => ?_
     simp only [go_sem, seval, b8, e9]
     refine cH [0] (w_pwr_text hv11) ?_
     simp only [go_sem, seval]
     cases h
     exact atJ (wkn (Jy5) trivial)
    ·refine bsome h fun v12 hv12 h => ?_
     simp only [go_sem, seval]
     refine cX (w_sTSf hv12) ?_
     refine bsome h fun v13 hv13 h => ?_
     simp only [go_sem, seval]
     refine cX (w_strings_Split hv13) ?_
     simp only [go_sem, seval]
     refine bsome h fun y14 hy14 h => ?_
     refine blkJ 64 10000 (fun w => w [] [hW y14]) (runX 10000 ?_) (fun Jy14 => ?_)
     ·clear hy14
      simp only [go_sem, seval]
      cases h
      exact atJ (wkn (Jy5) trivial)
     ·clear h
      have h := hy14
      simp only [go_sem, seval]
      refine lpJ 64 fuel (fun q1 w => ∀ (v27 : Int) (v28 : pwr), pwr_pattern_l1 v13 q1 v27 v28 = some y14 → w [(0, .ptr 0 0), (16, .sl none (List.map AV.str v13)), (17, .int .i64 (v13.length : Int)), (18, .int .i64 v27)] [hW v28]) (fun w _ _ h => nomatch h) (fun q1 ih1 v27 v28 h => ?_) (fun L1 => ?_)
      ·unfold pwr_pattern_l1 at h
       refine rL ?_
       simp only [go_sem, seval]
       refine cS h (fun hb h => ?_) fun hb h => ?_
       ·simp only [go_sem, seval]
        refine bK ?_
        refine lAt_s AV.str none .i64 ⟨9, 1, false, 16⟩ (fun _ => rfl) h fun v31 _ b29 e30 h => ?_
        refine bsome h fun v32 hv32 h => ?_
        simp only [go_sem, seval, b29, e30]
        refine cH [0] (w_pwr_text hv32) ?_
        refine lAt_s AV.str none .i64 ⟨9, 1, false, 16⟩ (fun _ => rfl) h fun v35 _ b33 e34 h => ?_
        refine bsome h fun v36 hv36 h => ?_
        simp only [go_sem, seval, b33, e34]
        refine cH [0] (w_pwr_text hv36) ?_
        refine add_s h fun v38 _ e37 h => ?_
        simp only [go_sem, seval, e37]
        exact lp_back (ih1 v38 v36 h) ⟨rfl, rfl, rfl, rfl, trivial⟩
       ·simp only [go_sem, seval]
        cases h
        exact atJ (wkn (Jy14) trivial)
      ·exact lp_back (L1 0 p0_w h) ⟨rfl, rfl, rfl, rfl, trivial⟩
theorem w_pwr_number {p0_w : pwr} {s : Str} {r : pwr} (h : pwr_number p0_w s = some r) : ACall Tryz.prog 203 [.ptr 0 0, .str s] [hW p0_w] (.tup []) [hW r] := by
 refine acallHX 10000 hf203 ok203 (by first | rfl | simp only [go_sem]) meek_tup rfl (by first | rfl | simp only [go_sem, allLt]) ?_
 dsimp only [Tryz.f203, nums, Option.getD, List.append]
 unfold pwr_number at h
 refine bsome h fun v1 hv1 h => ?_
 simp only [go_sem, seval]
 refine cX (w_strings_CutPrefix hv1) ?_
 simp only [go_sem, seval]
 refine bsome h fun y2 hy2 h => ?_
 refine cndJ 17 10000 (fun w => w [(0, .ptr 0 0), (4, .str v1.1)] [hW y2]) (runX 10000 ?_) (fun Jy2 => ?_)
 ·clear hy2
  refine bsome h fun v5 hv5 h => ?_
  simp only [go_sem, seval]
  refine cH [0] (w_pwr_text hv5) ?_
  simp only [go_sem, seval]
  refine atEndF (retH_s (fun x => .tup []) (fun x => [hW x]) h ?_ ?_)
  ·first | rfl | simp only [go_sem, resAV, resAll, resOne, seval]
  ·first | rfl | simp only [go_sem, resAV, resAll, resOne, seval]
 ·clear h
  have h := hy2
  refine cS h (fun hb h => ?_) fun hb h => ?_
  ·refine bsome h fun v4 hv4 h => ?_
   simp only [go_sem, seval]
   refine cH [0] (w_pwr_text hv4) ?_
   simp only [go_sem, seval]
   cases h
   exact atJ (wkn (Jy2) ⟨rfl, rfl, trivial⟩)
  ·simp only [go_sem, seval]
   cases h
   exact atJ (wkn (Jy2) ⟨rfl, rfl, trivial⟩)
theorem w_pwr_within {p0_w : pwr} {i : Int} {least : Int} {r : (Bool × pwr)} (h : pwr_within p0_w i least = some r) : ACall Tryz.prog 268 [.ptr 0 0, .int .i64 i, .int .i64 least] [hW p0_w] (.bool r.1) [hW r.2] := by
 refine acallHX 10000 hf268 ok268 (by first | rfl | simp only [go_sem]) meek_bool rfl (by first | rfl | simp only [go_sem, allLt]) ?_
 dsimp only [Tryz.f268, nums, Option.getD, List.append]
 unfold pwr_within at h
 refine lAt_s enc_tNd none .i64 ⟨59, 5, true, 80⟩ (fun _ => rfl) h fun v3 _ b1 e2 h => ?_
 simp only [go_sem, seval, b1, e2]
 refine bsome h fun y4 hy4 h => ?_
 refine rgJ 36 10000 (.inl rfl) (fun w => w [(6, .bool y4)] [hW p0_w, hN v3.K v3.S v3.N v3.L v3.Kids]) (runX 10000 ?_) (fun Jy4 => ?_)
 ·clear hy4
  simp only [go_sem, seval]
  refine retH_s (fun x => .bool x.1) (fun x => [hW x.2]) h ?_ ?_
  ·first | rfl | simp only [go_sem, resAV, resAll, resOne, seval]
  ·first | rfl | simp only [go_sem, resAV, resAll, resOne, seval]
 ·clear h
  have h := hy4
  simp only [go_sem, seval]
  refine grd_ (fun hb6 => ?_) fun hb6 => ?_
  ·have h := ite_f hb6 h
   simp only [go_sem, seval]
   refine grd_ (fun hb7 => ?_) fun hb7 => ?_
   ·have h := ite_f hb7 h
    simp only [go_sem, seval]
    refine grd_ (fun hb8 => ?_) fun hb8 => ?_
    ·have h := ite_t hb8 h
     refine bsome h fun v9 hv9 h => ?_
     simp only [go_sem, seval]
     refine cX (w_print_rank hv9) ?_
     simp only [go_sem, seval]
     cases h
     exact atJ (wkn (Jy4) ⟨rfl, trivial⟩)
    ·have h := ite_f hb8 h
     simp only [go_sem, seval]
     cases h
     exact atJ (wkn (Jy4) ⟨rfl, trivial⟩)
   ·have h := ite_t hb7 h
    simp only [go_sem, seval]
    cases h
    exact atJ (wkn (Jy4) ⟨rfl, trivial⟩)
  ·have h := ite_t hb6 h
   simp only [go_sem, seval]
   cases h
   exact atJ (wkn (Jy4) ⟨rfl, trivial⟩)
def R_pwr_stmts_ok (rec : R_pwr_stmts) : Prop := (∀ (p0_w : pwr) (l : (List Int)) (r : pwr), rec.pwr_stmts p0_w l = some r → ACall Tryz.prog 106 [.ptr 0 0, .sl none (List.map (AV.int .i64) l)] [hW p0_w] (.tup []) [hW r]) ∧ (∀ (p0_w : pwr) (i : Int) (r : pwr), rec.pwr_node p0_w i = some r → ACall Tryz.prog 164 [.ptr 0 0, .int .i64 i] [hW p0_w] (.tup []) [hW r]) ∧ (∀ (p0_w : pwr) (i : Int) (sel : Str) (r : pwr), rec.pwr_to p0_w i sel = some r → ACall Tryz.prog 204 [.ptr 0 0, .int .i64 i, .str sel] [hW p0_w] (.tup []) [hW r]) ∧ (∀ (p0_w : pwr) (sel : Str) (kids : (List Int)) (r : pwr), rec.pwr_message p0_w sel kids = some r → ACall Tryz.prog 205 [.ptr 0 0, .str sel, .sl none (List.map (AV.int .i64) kids)] [hW p0_w] (.tup []) [hW r]) ∧ (∀ (p0_w : pwr) (n : tNd) (r : pwr), rec.pwr_cascade p0_w n = some r → ACall Tryz.prog 206 [.ptr 0 0, enc_tNd n] [hW p0_w] (.tup []) [hW r]) ∧ (∀ (p0_w : pwr) (n : tNd) (r : pwr), rec.pwr_block p0_w n = some r → ACall Tryz.prog 207 [.ptr 0 0, enc_tNd n] [hW p0_w] (.tup []) [hW r]) ∧ (∀ (p0_w : pwr) (i : Int) (least : Int) (r : pwr), rec.pwr_kid p0_w i least = some r → ACall Tryz.prog 245 [.ptr 0 0, .int .i64 i, .int .i64 least] [hW p0_w] (.tup []) [hW r])
theorem w_pwr_stmts_b {rec : R_pwr_stmts} (hrec : R_pwr_stmts_ok rec) {p0_w : pwr} {l : (List Int)} {r : pwr} (h : pwr_stmts_b rec p0_w l = some r) : ACall Tryz.prog 106 [.ptr 0 0, .sl none (List.map (AV.int .i64) l)] [hW p0_w] (.tup []) [hW r] := by
 refine acallHX 10000 hf106 ok106 (by first | rfl | simp only [go_sem]) meek_tup rfl (by first | rfl | simp only [go_sem, allLt]) ?_
 dsimp only [Tryz.f106, nums, Option.getD, List.append]
 unfold pwr_stmts_b at h
 simp only [go_sem, seval]
 refine bsome h fun y1 hy1 h => ?_
 refine blkJ 22 10000 (fun w => w [] [hW y1]) (runX 10000 ?_) (fun Jy1 => ?_)
 ·clear hy1
  simp only [go_sem, seval]
  refine atEndF (retH_s (fun x => .tup []) (fun x => [hW x]) h ?_ ?_)
  ·first | rfl | simp only [go_sem, resAV, resAll, resOne, seval]
  ·first | rfl | simp only [go_sem, resAV, resAll, resOne, seval]
 ·clear h
  have h := hy1
  simp only [go_sem, seval]
  refine lpJ 22 fuel (fun q1 w => ∀ (v13 : Int) (v14 : pwr), pwr_stmts_l1 l rec q1 v13 v14 = some y1 → w [(0, .ptr 0 0), (6, .sl none (List.map (AV.int .i64) l)), (7, .int .i64 (l.length : Int)), (8, .int .i64 v13)] [hW v14]) (fun w _ _ h => nomatch h) (fun q1 ih1 v13 v14 h => ?_) (fun L1 => ?_)
  ·unfold pwr_stmts_l1 at h
   refine rL ?_
   simp only [go_sem, seval]
   refine cS h (fun hb h => ?_) fun hb h => ?_
   ·simp only [go_sem, seval]
    refine bK ?_
    refine lAt_s (AV.int .i64) none .i64 ⟨3, 1, false, 8⟩ (fun _ => rfl) h fun v17 _ b15 e16 h => ?_
    simp only [go_sem, seval, b15, e16]
    refine bsome h fun y18 hy18 h => ?_
    refine cndJ 22 10000 (fun w => w [(0, .ptr 0 0), (5, .int .i64 v17), (6, .sl none (List.map (AV.int .i64) l)), (7, .int .i64 (l.length : Int)), (8, .int .i64 v13)] [hW y18]) (runX 10000 ?_) (fun Jy18 => ?_)
    ·clear hy18
     refine bsome h fun v21 hv21 h => ?_
     simp only [go_sem, seval]
     refine cH [0] (hrec.2.1 _ _ _ hv21) ?_
     refine add_s h fun v23 _ e22 h => ?_
     simp only [go_sem, seval, e22]
     exact lp_back (ih1 v23 v21 h) ⟨rfl, rfl, rfl, rfl, trivial⟩
    ·clear h
     have h := hy18
     refine cS h (fun hb h => ?_) fun hb h => ?_
     ·refine bsome h fun v20 hv20 h => ?_
      simp only [go_sem, seval]
      refine cH [0] (w_pwr_add hv20) ?_
      simp only [go_sem, seval]
      cases h
      exact atJ (wkn (Jy18) ⟨rfl, rfl, rfl, rfl, rfl, trivial⟩)
     ·simp only [go_sem, seval]
      cases h
      exact atJ (wkn (Jy18) ⟨rfl, rfl, rfl, rfl, rfl, trivial⟩)
   ·simp only [go_sem, seval]
    cases h
    exact atJ (wkn (Jy1) trivial)
  ·exact lp_back (L1 0 p0_w h) ⟨rfl, rfl, rfl, rfl, trivial⟩
theorem w_pwr_node_b {rec : R_pwr_stmts} (hrec : R_pwr_stmts_ok rec) {p0_w : pwr} {i : Int} {r : pwr} (h : pwr_node_b rec p0_w i = some r) : ACall Tryz.prog 164 [.ptr 0 0, .int .i64 i] [hW p0_w] (.tup []) [hW r] := by
 refine acallHX 10000 hf164 ok164 (by first | rfl | simp only [go_sem]) meek_tup rfl (by first | rfl | simp only [go_sem, allLt]) ?_
 dsimp only [Tryz.f164, nums, Option.getD, List.append]
 unfold pwr_node_b at h
 refine lAt_s enc_tNd none .i64 ⟨59, 5, true, 80⟩ (fun _ => rfl) h fun v3 _ b1 e2 h => ?_
 simp only [go_sem, seval, b1, e2]
 refine bK ?_
 simp only [go_sem, seval]
 refine bsome h fun y4 hy4 h => ?_
 refine cndJ 92 10000 (fun w => w [] [hW y4, hN v3.K v3.S v3.N v3.L v3.Kids]) (runX 10000 ?_) (fun Jy4 => ?_)
 ·clear hy4
  simp only [go_sem, seval]
  refine atEndF (retH_s (fun x => .tup []) (fun x => [hW x]) h ?_ ?_)
  ·first | rfl | simp only [go_sem, resAV, resAll, resOne, seval]
  ·first | rfl | simp only [go_sem, resAV, resAll, resOne, seval]
 ·clear h
  have h := hy4
  refine cS h (fun hb h => ?_) fun hb h => ?_
  ·refine bsome h fun v6 hv6 h => ?_
   simp only [go_sem, seval]
   refine cH [0] (w_pwr_number hv6) ?_
   simp only [go_sem, seval]
   cases h
   exact atJ (wkn (Jy4) trivial)
  ·simp only [go_sem, seval]
   refine bsome h fun y7 hy7 h => ?_
   refine cndJ 92 10000 (fun w => w [] [hW y7, hN v3.K v3.S v3.N v3.L v3.Kids]) (runX 10000 ?_) (fun Jy7 => ?_)
   ·clear hy7
    simp only [go_sem, seval]
    cases h
    exact atJ (wkn (Jy4) trivial)
   ·clear h
    have h := hy7
    refine cS h (fun hb h => ?_) fun hb h => ?_
    ·refine bsome h fun v9 hv9 h => ?_
     simp only [go_sem, seval]
     refine cH [0] (w_pwr_text hv9) ?_
     simp only [go_sem, seval]
     cases h
     exact atJ (wkn (Jy7) trivial)
    ·simp only [go_sem, seval]
     refine bsome h fun y10 hy10 h => ?_
     refine cndJ 92 10000 (fun w => w [] [hW y10, hN v3.K v3.S v3.N v3.L v3.Kids]) (runX 10000 ?_) (fun Jy10 => ?_)
     ·clear hy10
      simp only [go_sem, seval]
      cases h
      exact atJ (wkn (Jy7) trivial)
     ·clear h
      have h := hy10
      refine cS h (fun hb h => ?_) fun hb h => ?_
      ·refine bsome h fun v12 hv12 h => ?_
       simp only [go_sem, seval]
       refine cH [0] (w_pwr_text hv12) ?_
       simp only [go_sem, seval]
       cases h
       exact atJ (wkn (Jy10) trivial)
      ·simp only [go_sem, seval]
       refine bsome h fun y13 hy13 h => ?_
       refine cndJ 92 10000 (fun w => w [] [hW y13, hN v3.K v3.S v3.N v3.L v3.Kids]) (runX 10000 ?_) (fun Jy13 => ?_)
       ·clear hy13
        simp only [go_sem, seval]
        cases h
        exact atJ (wkn (Jy10) trivial)
       ·clear h
        have h := hy13
        refine cS h (fun hb h => ?_) fun hb h => ?_
        ·refine bsome h fun v15 hv15 h => ?_
         simp only [go_sem, seval]
         refine cH [0] (w_pwr_text hv15) ?_
         refine bsome h fun v16 hv16 h => ?_
         simp only [go_sem, seval]
         refine cH [0] (w_pwr_add hv16) ?_
         refine lAt_s (AV.int .i64) none .i64 ⟨3, 1, false, 8⟩ (fun _ => rfl) h fun v19 _ b17 e18 h => ?_
         refine bsome h fun v20 hv20 h => ?_
         simp only [go_sem, seval, b17, e18]
         refine cH [0] (hrec.2.1 _ _ _ hv20) ?_
         simp only [go_sem, seval]
         cases h
         exact atJ (wkn (Jy13) trivial)
        ·simp only [go_sem, seval]
         refine bsome h fun y21 hy21 h => ?_
         refine cndJ 92 10000 (fun w => w [] [hW y21, hN v3.K v3.S v3.N v3.L v3.Kids]) (runX 10000 ?_) (fun Jy21 => ?_)
         ·clear hy21
          simp only [go_sem, seval]
          cases h
          exact atJ (wkn (Jy13) trivial)
         ·clear h
          have h := hy21
          refine cS h (fun hb h => ?_) fun hb h => ?_
          ·simp only [go_sem, seval]
           refine rg_ 10000 (.inr ⟨[], by kernel_rfl, by kernel_rfl, by rfl⟩) ?_
           refine lAt_s (AV.int .i64) none .i64 ⟨3, 1, false, 8⟩ (fun _ => rfl) h fun v25 _ b23 e24 h => ?_
           refine bsome h fun v26 hv26 h => ?_
           simp only [go_sem, seval, b23, e24]
           refine callHD_ 10000 [0] (by kernel_rfl) (hrec.2.2.1 _ _ _ _ hv26) (by first | rfl | simp only [go_sem]) (by first | rfl | simp only [go_sem]) (by first | rfl | simp only [go_sem]) ?_
           simp only [go_sem, seval]
           refine rg_ 10000 (.inr ⟨[], by kernel_rfl, by kernel_rfl, by rfl⟩) ?_
           refine subL_s (AV.int .i64) none ⟨3, 1, false, 8⟩ (fun _ => rfl) (some (.int .i64 1)) none rfl rfl h fun v29 _ b27 e28 h => ?_
           refine bsome h fun v30 hv30 h => ?_
           simp only [go_sem, seval, b27, e28]
           refine callHD_ 10000 [0] (by kernel_rfl) (hrec.2.2.2.1 _ _ _ _ hv30) (by first | rfl | simp only [go_sem]) (by first | rfl | simp only [go_sem]) (by first | rfl | simp only [go_sem]) ?_
           simp only [go_sem, seval]
           cases h
           exact atJ (wkn (Jy21) trivial)
          ·simp only [go_sem, seval]
           refine bsome h fun y31 hy31 h => ?_
           refine cndJ 92 10000 (fun w => w [] [hW y31, hN v3.K v3.S v3.N v3.L v3.Kids]) (runX 10000 ?_) (fun Jy31 => ?_)
           ·clear hy31
            simp only [go_sem, seval]
            cases h
            exact atJ (wkn (Jy21) trivial)
           ·clear h
            have h := hy31
            refine cS h (fun hb h => ?_) fun hb h => ?_
            ·refine bsome h fun v33 hv33 h => ?_
             simp only [go_sem, seval]
             refine cH [0] (hrec.2.2.2.2.1 _ _ _ hv33) ?_
             simp only [go_sem, seval]
             cases h
             exact atJ (wkn (Jy31) trivial)
            ·simp only [go_sem, seval]
             refine bsome h fun y34 hy34 h => ?_
             refine cndJ 92 10000 (fun w => w [] [hW y34, hN v3.K v3.S v3.N v3.L v3.Kids]) (runX 10000 ?_) (fun Jy34 => ?_)
             ·clear hy34
              simp only [go_sem, seval]
              cases h
              exact atJ (wkn (Jy31) trivial)
             ·clear h
              have h := hy34
              refine cS h (fun hb h => ?_) fun hb h => ?_
              ·refine bsome h fun v36 hv36 h => ?_
               simp only [go_sem, seval]
               refine cH [0] (hrec.2.2.2.2.2.1 _ _ _ hv36) ?_
               simp only [go_sem, seval]
               cases h
               exact atJ (wkn (Jy34) trivial)
              ·simp only [go_sem, seval]
               refine bsome h fun y37 hy37 h => ?_
               refine cndJ 92 10000 (fun w => w [] [hW y37, hN v3.K v3.S v3.N v3.L v3.Kids]) (runX 10000 ?_) (fun Jy37 => ?_)
               ·clear hy37
                simp only [go_sem, seval]
                cases h
                exact atJ (wkn (Jy34) trivial)
               ·clear h
                have h := hy37
                refine cS h (fun hb h => ?_) fun hb h => ?_
                ·refine bsome h fun v39 hv39 h => ?_
                 simp only [go_sem, seval]
                 refine cH [0] (w_pwr_add hv39) ?_
                 refine lAt_s (AV.int .i64) none .i64 ⟨3, 1, false, 8⟩ (fun _ => rfl) h fun v42 _ b40 e41 h => ?_
                 refine bsome h fun v43 hv43 h => ?_
                 simp only [go_sem, seval, b40, e41]
                 refine cH [0] (hrec.2.1 _ _ _ hv43) ?_
                 simp only [go_sem, seval]
                 cases h
                 exact atJ (wkn (Jy37) trivial)
                ·refine aIdx_s AV.str (fun _ => rfl) .u8 (n := 5) rfl h fun v46 _ (b44 : aidxC 5 (.agg [.str [115, 101, 108, 102], .str [115, 117, 112, 101, 114], .str [110, 105, 108], .str [116, 114, 117, 101], .str [102, 97, 108, 115, 101]]) (.int .u8 v3.K)) (e45 : aidxV (.agg [.str [115, 101, 108, 102], .str [115, 117, 112, 101, 114], .str [110, 105, 108], .str [116, 114, 117, 101], .str [102, 97, 108, 115, 101]]) (.int .u8 v3.K) = AV.str v46) h => ?_
                 refine bsome h fun v47 hv47 h => ?_
                 simp only [go_sem, seval, b44, e45]
                 refine cH [0] (w_pwr_text hv47) ?_
                 simp only [go_sem, seval]
                 cases h
                 exact atJ (wkn (Jy37) trivial)
theorem w_pwr_to_b {rec : R_pwr_stmts} (hrec : R_pwr_stmts_ok rec) {p0_w : pwr} {i : Int} {sel : Str} {r : pwr} (h : pwr_to_b rec p0_w i sel = some r) : ACall Tryz.prog 204 [.ptr 0 0, .int .i64 i, .str sel] [hW p0_w] (.tup []) [hW r] := by
 refine acallHX 10000 hf204 ok204 (by first | rfl | simp only [go_sem]) meek_tup rfl (by first | rfl | simp only [go_sem, allLt]) ?_
 dsimp only [Tryz.f204, nums, Option.getD, List.append]
 unfold pwr_to_b at h
 refine bsome h fun v1 hv1 h => ?_
 simp only [go_sem, seval]
 refine cX (w_print_rank hv1) ?_
 refine bsome h fun v2 hv2 h => ?_
 simp only [go_sem, seval, (mxv_e .i64 2 v1)]
 refine cH [0] (hrec.2.2.2.2.2.2 _ _ _ _ hv2) ?_
 simp only [go_sem, seval]
 refine atEndF (retH_s (fun x => .tup []) (fun x => [hW x]) h ?_ ?_)
 ·first | rfl | simp only [go_sem, resAV, resAll, resOne, seval]
 ·first | rfl | simp only [go_sem, resAV, resAll, resOne, seval]
theorem w_pwr_message_b {rec : R_pwr_stmts} (hrec : R_pwr_stmts_ok rec) {p0_w : pwr} {sel : Str} {kids : (List Int)} {r : pwr} (h : pwr_message_b rec p0_w sel kids = some r) : ACall Tryz.prog 205 [.ptr 0 0, .str sel, .sl none (List.map (AV.int .i64) kids)] [hW p0_w] (.tup []) [hW r] := by
 refine acallHX 10000 hf205 ok205 (by first | rfl | simp only [go_sem]) meek_tup rfl (by first | rfl | simp only [go_sem, allLt]) ?_
 dsimp only [Tryz.f205, nums, Option.getD, List.append]
 unfold pwr_message_b at h
 refine bsome h fun v1 hv1 h => ?_
 simp only [go_sem, seval]
 refine cX (w_print_rank hv1) ?_
 simp only [go_sem, seval]
 refine bK ?_
 simp only [go_sem, seval]
 refine bsome h fun y2 hy2 h => ?_
 refine cndJ 44 10000 (fun w => w [] [hW y2]) (runX 10000 ?_) (fun Jy2 => ?_)
 ·clear hy2
  simp only [go_sem, seval]
  refine atEndF (retH_s (fun x => .tup []) (fun x => [hW x]) h ?_ ?_)
  ·first | rfl | simp only [go_sem, resAV, resAll, resOne, seval]
  ·first | rfl | simp only [go_sem, resAV, resAll, resOne, seval]
 ·clear h
  have h := hy2
  refine cS h (fun hb h => ?_) fun hb h => ?_
  ·refine bsome h fun v4 hv4 h => ?_
   simp only [go_sem, seval]
   refine cH [0] (w_pwr_text hv4) ?_
   simp only [go_sem, seval]
   cases h
   exact atJ (wkn (Jy2) trivial)
  ·simp only [go_sem, seval]
   refine bsome h fun y5 hy5 h => ?_
   refine cndJ 44 10000 (fun w => w [] [hW y5]) (runX 10000 ?_) (fun Jy5 => ?_)
   ·clear hy5
    simp only [go_sem, seval]
    cases h
    exact atJ (wkn (Jy2) trivial)
   ·clear h
    have h := hy5
    refine cS h (fun hb h => ?_) fun hb h => ?_
    ·refine bsome h fun v7 hv7 h => ?_
     simp only [go_sem, seval]
     refine cH [0] (w_pwr_text hv7) ?_
     refine lAt_s (AV.int .i64) none .i64 ⟨3, 1, false, 8⟩ (fun _ => rfl) h fun v10 _ b8 e9 h => ?_
     refine bsome h fun v11 hv11 h => ?_
     simp only [go_sem, seval, b8, e9]
     refine cH [0] (hrec.2.2.2.2.2.2 _ _ _ _ hv11) ?_
     simp only [go_sem, seval]
     cases h
     exact atJ (wkn (Jy5) trivial)
    ·refine bsome h fun v12 hv12 h => ?_
     simp only [go_sem, seval]
     refine cX (w_sTSf hv12) ?_
     refine bsome h fun v13 hv13 h => ?_
     simp only [go_sem, seval]
     refine cX (w_strings_Split hv13) ?_
     simp only [go_sem, seval]
     refine bsome h fun y14 hy14 h => ?_
     refine blkJ 44 10000 (fun w => w [] [hW y14]) (runX 10000 ?_) (fun Jy14 => ?_)
     ·clear hy14
      simp only [go_sem, seval]
      cases h
      exact atJ (wkn (Jy5) trivial)
     ·clear h
      have h := hy14
      simp only [go_sem, seval]
      refine lpJ 44 fuel (fun q1 w => ∀ (v27 : Int) (v28 : pwr), pwr_message_l1 kids rec v13 q1 v27 v28 = some y14 → w [(0, .ptr 0 0), (2, .sl none (List.map (AV.int .i64) kids)), (12, .sl none (List.map AV.str v13)), (13, .int .i64 (v13.length : Int)), (14, .int .i64 v27)] [hW v28]) (fun w _ _ h => nomatch h) (fun q1 ih1 v27 v28 h => ?_) (fun L1 => ?_)
      ·unfold pwr_message_l1 at h
       refine rL ?_
       simp only [go_sem, seval]
       refine cS h (fun hb h => ?_) fun hb h => ?_
       ·simp only [go_sem, seval]
        refine bK ?_
        refine lAt_s AV.str none .i64 ⟨9, 1, false, 16⟩ (fun _ => rfl) h fun v31 _ b29 e30 h => ?_
        refine bsome h fun v32 hv32 h => ?_
        simp only [go_sem, seval, b29, e30]
        refine cH [0] (w_pwr_text hv32) ?_
        refine lAt_s (AV.int .i64) none .i64 ⟨3, 1, false, 8⟩ (fun _ => rfl) h fun v35 _ b33 e34 h => ?_
        refine bsome h fun v36 hv36 h => ?_
        simp only [go_sem, seval, b33, e34]
        refine cH [0] (hrec.2.2.2.2.2.2 _ _ _ _ hv36) ?_
        refine add_s h fun v38 _ e37 h => ?_
        simp only [go_sem, seval, e37]
        exact lp_back (ih1 v38 v36 h) ⟨rfl, rfl, rfl, rfl, rfl, trivial⟩
       ·simp only [go_sem, seval]
        cases h
        exact atJ (wkn (Jy14) trivial)
      ·exact lp_back (L1 0 p0_w h) ⟨rfl, rfl, rfl, rfl, rfl, trivial⟩
theorem w_pwr_cascade_b {rec : R_pwr_stmts} (hrec : R_pwr_stmts_ok rec) {p0_w : pwr} {n : tNd} {r : pwr} (h : pwr_cascade_b rec p0_w n = some r) : ACall Tryz.prog 206 [.ptr 0 0, enc_tNd n] [hW p0_w] (.tup []) [hW r] := by
 refine acallHX 10000 hf206 ok206 (by first | rfl | simp only [go_sem]) meek_tup rfl (by first | rfl | simp only [go_sem, allLt]) ?_
 dsimp only [Tryz.f206, nums, Option.getD, List.append]
 unfold pwr_cascade_b at h
 refine subL_s (AV.int .i64) none ⟨3, 1, false, 8⟩ (fun _ => rfl) (some (.int .i64 1)) none rfl rfl h fun v3 _ b1 e2 h => ?_
 simp only [go_sem, seval, b1, e2]
 refine bsome h fun y4 hy4 h => ?_
 refine blkJ 44 10000 (fun w => w [] [hW y4, hN n.K n.S n.N n.L n.Kids]) (runX 10000 ?_) (fun Jy4 => ?_)
 ·clear hy4
  simp only [go_sem, seval]
  refine atEndF (retH_s (fun x => .tup []) (fun x => [hW x]) h ?_ ?_)
  ·first | rfl | simp only [go_sem, resAV, resAll, resOne, seval]
  ·first | rfl | simp only [go_sem, resAV, resAll, resOne, seval]
 ·clear h
  have h := hy4
  simp only [go_sem, seval]
  refine lpJ 44 fuel (fun q1 w => ∀ (v23 : Int) (v24 : pwr), pwr_cascade_l1 n rec v3 q1 v23 v24 = some y4 → w [(0, .ptr 0 0), (3, .ptr 1 0), (9, .sl none (List.map (AV.int .i64) v3)), (10, .int .i64 (v3.length : Int)), (11, .int .i64 v23)] [hW v24, hN n.K n.S n.N n.L n.Kids]) (fun w _ _ h => nomatch h) (fun q1 ih1 v23 v24 h => ?_) (fun L1 => ?_)
  ·unfold pwr_cascade_l1 at h
   refine rL ?_
   simp only [go_sem, seval]
   refine cS h (fun hb h => ?_) fun hb h => ?_
   ·simp only [go_sem, seval]
    refine bK ?_
    refine lAt_s (AV.int .i64) none .i64 ⟨3, 1, false, 8⟩ (fun _ => rfl) h fun v27 _ b25 e26 h => ?_
    refine lAt_s enc_tNd none .i64 ⟨59, 5, true, 80⟩ (fun _ => rfl) h fun v30 _ b28 e29 h => ?_
    simp only [go_sem, seval, b25, e26, b28, e29]
    refine bsome h fun y31 hy31 h => ?_
    refine cndJ 44 10000 (fun w => w [(0, .ptr 0 0), (3, .ptr 1 0), (6, .ptr 2 0), (9, .sl none (List.map (AV.int .i64) v3)), (10, .int .i64 (v3.length : Int)), (11, .int .i64 v23)] [hW y31, hN n.K n.S n.N n.L n.Kids, hN v30.K v30.S v30.N v30.L v30.Kids]) (runX 10000 ?_) (fun Jy31 => ?_)
    ·clear hy31
     refine bsome h fun v38 hv38 h => ?_
     simp only [go_sem, seval]
     refine cH [0] (hrec.2.2.2.1 _ _ _ _ hv38) ?_
     refine add_s h fun v40 _ e39 h => ?_
     simp only [go_sem, seval, e39]
     exact lp_backH 2 (ih1 v40 v38 h) ⟨rfl, rfl, rfl, rfl, rfl, trivial⟩ rfl rfl rfl (by first | rfl | simp only [go_sem, ltF]) (by first | rfl | simp only [go_sem, allLt])
    ·clear h
     have h := hy31
     refine cS h (fun hb h => ?_) fun hb h => ?_
     ·simp only [go_sem, seval]
      refine rg_ 10000 (.inr ⟨[], by kernel_rfl, by kernel_rfl, by rfl⟩) ?_
      refine lAt_s (AV.int .i64) none .i64 ⟨3, 1, false, 8⟩ (fun _ => rfl) h fun v35 _ b33 e34 h => ?_
      refine bsome h fun v36 hv36 h => ?_
      simp only [go_sem, seval, b33, e34]
      refine callHD_ 10000 [0] (by kernel_rfl) (hrec.2.2.1 _ _ _ _ hv36) (by first | rfl | simp only [go_sem]) (by first | rfl | simp only [go_sem]) (by first | rfl | simp only [go_sem]) ?_
      simp only [go_sem, seval]
      cases h
      exact atJ (wkn (Jy31) ⟨rfl, rfl, rfl, rfl, rfl, rfl, trivial⟩)
     ·refine bsome h fun v37 hv37 h => ?_
      simp only [go_sem, seval]
      refine cH [0] (w_pwr_add hv37) ?_
      simp only [go_sem, seval]
      cases h
      exact atJ (wkn (Jy31) ⟨rfl, rfl, rfl, rfl, rfl, rfl, trivial⟩)
   ·simp only [go_sem, seval]
    cases h
    exact atJ (wkn (Jy4) trivial)
  ·exact lp_back (L1 0 p0_w h) ⟨rfl, rfl, rfl, rfl, rfl, trivial⟩
theorem w_pwr_block_b {rec : R_pwr_stmts} (hrec : R_pwr_stmts_ok rec) {p0_w : pwr} {n : tNd} {r : pwr} (h : pwr_block_b rec p0_w n = some r) : ACall Tryz.prog 207 [.ptr 0 0, enc_tNd n] [hW p0_w] (.tup []) [hW r] := by
 refine acallHX 10000 hf207 ok207 (by first | rfl | simp only [go_sem]) meek_tup rfl (by first | rfl | simp only [go_sem, allLt]) ?_
 dsimp only [Tryz.f207, nums, Option.getD, List.append]
 unfold pwr_block_b at h
 refine bsome h fun v1 hv1 h => ?_
 simp only [go_sem, seval]
 refine cH [0] (w_pwr_add hv1) ?_
 refine subL_s AV.str none ⟨9, 1, false, 16⟩ (fun _ => rfl) none (some (.int .i64 n.N)) rfl rfl h fun v4 _ b2 e3 h => ?_
 simp only [go_sem, seval, b2, e3]
 refine bsome h fun y5 hy5 h => ?_
 refine blkJ 43 10000 (fun w => w [(0, .ptr 0 0), (3, .ptr 1 0)] [hW y5, hN n.K n.S n.N n.L n.Kids]) (runX 10000 ?_) (fun Jy5 => ?_)
 ·clear hy5
  simp only [go_sem, seval]
  refine bsome h fun y22 hy22 h => ?_
  refine cndJ 43 10000 (fun w => w [(0, .ptr 0 0), (3, .ptr 1 0)] [hW y22, hN n.K n.S n.N n.L n.Kids]) (runX 10000 ?_) (fun Jy22 => ?_)
  ·clear hy22
   refine subL_s AV.str none ⟨9, 1, false, 16⟩ (fun _ => rfl) (some (.int .i64 n.N)) none rfl rfl h fun v27 _ b25 e26 h => ?_
   refine bsome h fun v28 hv28 h => ?_
   simp only [go_sem, seval, b25, e26]
   refine cH [0] (w_pwr_vars hv28) ?_
   refine bsome h fun v29 hv29 h => ?_
   simp only [go_sem, seval]
   refine cH [0] (hrec.1 _ _ _ hv29) ?_
   refine bsome h fun v30 hv30 h => ?_
   simp only [go_sem, seval]
   refine cH [0] (w_pwr_add hv30) ?_
   simp only [go_sem, seval]
   refine atEndF (retH_s (fun x => .tup []) (fun x => [hW x]) h ?_ ?_)
   ·first | rfl | simp only [go_sem, resAV, resAll, resOne, seval]
   ·first | rfl | simp only [go_sem, resAV, resAll, resOne, seval]
  ·clear h
   have h := hy22
   refine cS h (fun hb h => ?_) fun hb h => ?_
   ·refine bsome h fun v24 hv24 h => ?_
    simp only [go_sem, seval]
    refine cH [0] (w_pwr_add hv24) ?_
    simp only [go_sem, seval]
    cases h
    exact atJ (wkn (Jy22) ⟨rfl, rfl, trivial⟩)
   ·simp only [go_sem, seval]
    cases h
    exact atJ (wkn (Jy22) ⟨rfl, rfl, trivial⟩)
 ·clear h
  have h := hy5
  simp only [go_sem, seval]
  refine lpJ 43 fuel (fun q1 w => ∀ (v14 : Int) (v15 : pwr), pwr_block_l1 v4 q1 v14 v15 = some y5 → w [(0, .ptr 0 0), (3, .ptr 1 0), (13, .sl none (List.map AV.str v4)), (14, .int .i64 (v4.length : Int)), (15, .int .i64 v14)] [hW v15, hN n.K n.S n.N n.L n.Kids]) (fun w _ _ h => nomatch h) (fun q1 ih1 v14 v15 h => ?_) (fun L1 => ?_)
  ·unfold pwr_block_l1 at h
   refine rL ?_
   simp only [go_sem, seval]
   refine cS h (fun hb h => ?_) fun hb h => ?_
   ·simp only [go_sem, seval]
    refine bK ?_
    refine lAt_s AV.str none .i64 ⟨9, 1, false, 16⟩ (fun _ => rfl) h fun v18 _ b16 e17 h => ?_
    refine bsome h fun v19 hv19 h => ?_
    simp only [go_sem, seval, b16, e17]
    refine cH [0] (w_pwr_text hv19) ?_
    refine add_s h fun v21 _ e20 h => ?_
    simp only [go_sem, seval, e20]
    exact lp_back (ih1 v21 v19 h) ⟨rfl, rfl, rfl, rfl, rfl, trivial⟩
   ·simp only [go_sem, seval]
    cases h
    exact atJ (wkn (Jy5) ⟨rfl, rfl, trivial⟩)
  ·exact lp_back (L1 0 v1 h) ⟨rfl, rfl, rfl, rfl, rfl, trivial⟩
theorem w_pwr_kid_b {rec : R_pwr_stmts} (hrec : R_pwr_stmts_ok rec) {p0_w : pwr} {i : Int} {least : Int} {r : pwr} (h : pwr_kid_b rec p0_w i least = some r) : ACall Tryz.prog 245 [.ptr 0 0, .int .i64 i, .int .i64 least] [hW p0_w] (.tup []) [hW r] := by
 refine acallHX 10000 hf245 ok245 (by first | rfl | simp only [go_sem]) meek_tup rfl (by first | rfl | simp only [go_sem, allLt]) ?_
 dsimp only [Tryz.f245, nums, Option.getD, List.append]
 unfold pwr_kid_b at h
 refine bsome h fun v1 hv1 h => ?_
 simp only [go_sem, seval]
 refine cH [0] (w_pwr_within hv1) ?_
 simp only [go_sem, seval]
 refine cS h (fun hb h => ?_) fun hb h => ?_
 ·refine bsome h fun v2 hv2 h => ?_
  simp only [go_sem, seval]
  refine cH [0] (hrec.2.1 _ _ _ hv2) ?_
  simp only [go_sem, seval]
  refine retH_s (fun x => .tup []) (fun x => [hW x]) h ?_ ?_
  ·first | rfl | simp only [go_sem, resAV, resAll, resOne, seval]
  ·first | rfl | simp only [go_sem, resAV, resAll, resOne, seval]
 ·refine bsome h fun v3 hv3 h => ?_
  simp only [go_sem, seval]
  refine cH [0] (w_pwr_add hv3) ?_
  refine bsome h fun v4 hv4 h => ?_
  simp only [go_sem, seval]
  refine cH [0] (hrec.2.1 _ _ _ hv4) ?_
  refine bsome h fun v5 hv5 h => ?_
  simp only [go_sem, seval]
  refine cH [0] (w_pwr_add hv5) ?_
  simp only [go_sem, seval]
  refine atEndF (retH_s (fun x => .tup []) (fun x => [hW x]) h ?_ ?_)
  ·first | rfl | simp only [go_sem, resAV, resAll, resOne, seval]
  ·first | rfl | simp only [go_sem, resAV, resAll, resOne, seval]
theorem R_pwr_stmts_all : ∀ n, R_pwr_stmts_ok (R_pwr_stmts_n n)
 | 0 => ⟨(fun _ _ _ h => nomatch h), (fun _ _ _ h => nomatch h), (fun _ _ _ _ h => nomatch h), (fun _ _ _ _ h => nomatch h), (fun _ _ _ h => nomatch h), (fun _ _ _ h => nomatch h), (fun _ _ _ _ h => nomatch h)⟩
 | n+1 => ⟨fun _ _ _ h => w_pwr_stmts_b (R_pwr_stmts_all n) h, fun _ _ _ h => w_pwr_node_b (R_pwr_stmts_all n) h, fun _ _ _ _ h => w_pwr_to_b (R_pwr_stmts_all n) h, fun _ _ _ _ h => w_pwr_message_b (R_pwr_stmts_all n) h, fun _ _ _ h => w_pwr_cascade_b (R_pwr_stmts_all n) h, fun _ _ _ h => w_pwr_block_b (R_pwr_stmts_all n) h, fun _ _ _ _ h => w_pwr_kid_b (R_pwr_stmts_all n) h⟩
theorem w_pwr_stmts {p0_w : pwr} {l : (List Int)} {r : pwr} (h : pwr_stmts p0_w l = some r) : ACall Tryz.prog 106 [.ptr 0 0, .sl none (List.map (AV.int .i64) l)] [hW p0_w] (.tup []) [hW r] := (R_pwr_stmts_all fuel).1 _ _ _ h
theorem w_print_words {m : tMt} {r : (List lWd)} (h : print_words m = some r) : ACall Tryz.prog 53 [enc_tMt m] [] (.sl none (List.map enc_lWd r)) [] := by
 refine aX hf53 ok53 meek_sl ?_
 dsimp only [Tryz.f53, nums, Option.getD, List.append]
 unfold print_words at h
 refine bsome h fun v1 hv1 h => ?_
 simp only [go_sem, seval]
 refine cH [1] (w_pwr_pattern hv1) ?_
 refine bsome h fun v2 hv2 h => ?_
 simp only [go_sem, seval]
 refine cH [1] (w_pwr_add hv2) ?_
 refine bsome h fun v3 hv3 h => ?_
 simp only [go_sem, seval]
 refine cH [1] (w_pwr_vars hv3) ?_
 refine bsome h fun v4 hv4 h => ?_
 simp only [go_sem, seval]
 refine cH [1] (w_pwr_stmts hv4) ?_
 refine bsome h fun v5 hv5 h => ?_
 simp only [go_sem, seval]
 refine cH [1] (w_pwr_add hv5) ?_
 simp only [go_sem, seval]
 exact rS (fun x => .sl none (List.map enc_lWd x)) h
theorem w_print_Method {m : tMt} {r : (Str × (Option Int))} (h : print_Method m = some r) : ACall Tryz.prog 15 [enc_tMt m] [] (.tup [.str r.1, encE 86 r.2]) [] := by
 refine aX hf15 ok15 meek_tup ?_
 dsimp only [Tryz.f15, nums, Option.getD, List.append]
 unfold print_Method at h
 refine bsome h fun v1 hv1 h => ?_
 simp only [go_sem, seval]
 refine cX (w_tree_Check hv1) ?_
 simp only [go_sem, seval]
 refine cS h (fun hb h => ?_) fun hb h => ?_
 ·simp only [go_sem, seval]
  refine ret_s (fun x => .tup [.str x.1, encE 86 x.2]) h ?_
  first | rfl | simp only [go_sem, resAV, resAll, resOne, seval]
 ·refine bsome h fun v2 hv2 h => ?_
  simp only [go_sem, seval]
  refine cX (w_print_words hv2) ?_
  refine bsome h fun v3 hv3 h => ?_
  simp only [go_sem, seval]
  refine cX (w_lex_Text hv3) ?_
  simp only [go_sem, seval]
  refine ret_s (fun x => .tup [.str x.1, encE 86 x.2]) h ?_
  first | rfl | simp only [go_sem, resAV, resAll, resOne, seval]
theorem w_sIFtCl_tCl {s : (List tCl)} {p1_f : (tCl → Option Bool)} (fv_p1_f : FuncId) (hf_p1_f : ∀ (a0 : tCl) (z : Bool), p1_f a0 = some z → ACall Tryz.prog fv_p1_f [enc_tCl a0] [] (.bool z) []) {r : Int} (h : sIFtCl_tCl s p1_f = some r) : ACall Tryz.prog 128 [.sl none (List.map enc_tCl s), .fn (.func fv_p1_f) [] []] [] (.int .i64 r) [] := by
 refine aX hf128 ok128 meek_int ?_
 dsimp only [Tryz.f128, nums, Option.getD, List.append]
 unfold sIFtCl_tCl at h
 simp only [go_sem, seval]
 refine letK_s h fun K2 hK2 h => ?_
 refine blkJ 19 10000 (fun w => K2 () = some r → w [] []) (fun h => runX 10000 ?_) (fun JK2 => ?_)
 ·subst hK2
  dsimp only at h
  simp only [go_sem, seval]
  exact rS (fun x => .int .i64 x) h
 ·clear hK2
  simp only [go_sem, seval]
  refine lpJ 19 fuel (fun q1 w => ∀ (v3 : Int), sIFtCl_tCl_l1 s p1_f K2 q1 v3 = some r → w [(0, .sl none (List.map enc_tCl s)), (1, .fn (.func fv_p1_f) [] []), (7, .int .i64 (s.length : Int)), (8, .int .i64 v3)] []) (fun w _ h => nomatch h) (fun q1 ih1 v3 h => ?_) (fun L1 => ?_)
  ·unfold sIFtCl_tCl_l1 at h
   refine rL ?_
   simp only [go_sem, seval]
   refine cS h (fun hb h => ?_) fun hb h => ?_
   ·simp only [go_sem, seval]
    refine bK ?_
    refine lAt_s enc_tCl none .i64 ⟨81, 4, true, 80⟩ (fun _ => rfl) h fun v6 _ b4 e5 h => ?_
    refine bsome h fun v7 hv7 h => ?_
    simp only [go_sem, seval, b4, e5]
    refine cX (hf_p1_f _ _ hv7) ?_
    simp only [go_sem, seval]
    refine cS h (fun hb h => ?_) fun hb h => ?_
    ·simp only [go_sem, seval]
     exact rS (fun x => .int .i64 x) h
    ·refine add_s h fun v9 _ e8 h => ?_
     simp only [go_sem, seval, e8]
     exact lp_back (ih1 v9 h) ⟨rfl, rfl, rfl, rfl, trivial⟩
   ·simp only [go_sem, seval]
    exact atJ (wkn (JK2 h) trivial)
  ·exact lp_back (L1 0 h) ⟨rfl, rfl, rfl, rfl, trivial⟩
theorem w_sCFtCl_tCl {s : (List tCl)} {p1_f : (tCl → Option Bool)} (fv_p1_f : FuncId) (hf_p1_f : ∀ (a0 : tCl) (z : Bool), p1_f a0 = some z → ACall Tryz.prog fv_p1_f [enc_tCl a0] [] (.bool z) []) {r : Bool} (h : sCFtCl_tCl s p1_f = some r) : ACall Tryz.prog 82 [.sl none (List.map enc_tCl s), .fn (.func fv_p1_f) [] []] [] (.bool r) [] := by
 refine aX hf82 ok82 meek_bool ?_
 dsimp only [Tryz.f82, nums, Option.getD, List.append]
 unfold sCFtCl_tCl at h
 refine bsome h fun v1 hv1 h => ?_
 simp only [go_sem, seval]
 refine cX (w_sIFtCl_tCl fv_p1_f hf_p1_f hv1) ?_
 simp only [go_sem, seval]
 exact rS (fun x => .bool x) h
theorem w_tCl_may_1 {s : Str} {r : Bool} (h : tCl_may_1 s = some r) : ACall Tryz.prog 131 [.str s] [] (.bool r) [] := by
 refine aX hf131 ok131 meek_bool ?_
 dsimp only [Tryz.f131, nums, Option.getD, List.append]
 unfold tCl_may_1 at h
 refine bsome h fun v1 hv1 h => ?_
 simp only [go_sem, seval]
 refine cX (w_tree_variable hv1) ?_
 simp only [go_sem, seval]
 exact rS (fun x => .bool x) h
theorem w_sIFtMt_tMt {s : (List tMt)} {p1_f : (tMt → Option Bool)} (fv_p1_f : FuncId) (hf_p1_f : ∀ (a0 : tMt) (z : Bool), p1_f a0 = some z → ACall Tryz.prog fv_p1_f [enc_tMt a0] [] (.bool z) []) {r : Int} (h : sIFtMt_tMt s p1_f = some r) : ACall Tryz.prog 186 [.sl none (List.map enc_tMt s), .fn (.func fv_p1_f) [] []] [] (.int .i64 r) [] := by
 refine aX hf186 ok186 meek_int ?_
 dsimp only [Tryz.f186, nums, Option.getD, List.append]
 unfold sIFtMt_tMt at h
 simp only [go_sem, seval]
 refine letK_s h fun K2 hK2 h => ?_
 refine blkJ 19 10000 (fun w => K2 () = some r → w [] []) (fun h => runX 10000 ?_) (fun JK2 => ?_)
 ·subst hK2
  dsimp only at h
  simp only [go_sem, seval]
  exact rS (fun x => .int .i64 x) h
 ·clear hK2
  simp only [go_sem, seval]
  refine lpJ 19 fuel (fun q1 w => ∀ (v3 : Int), sIFtMt_tMt_l1 s p1_f K2 q1 v3 = some r → w [(0, .sl none (List.map enc_tMt s)), (1, .fn (.func fv_p1_f) [] []), (7, .int .i64 (s.length : Int)), (8, .int .i64 v3)] []) (fun w _ h => nomatch h) (fun q1 ih1 v3 h => ?_) (fun L1 => ?_)
  ·unfold sIFtMt_tMt_l1 at h
   refine rL ?_
   simp only [go_sem, seval]
   refine cS h (fun hb h => ?_) fun hb h => ?_
   ·simp only [go_sem, seval]
    refine bK ?_
    refine lAt_s enc_tMt none .i64 ⟨35, 5, true, 112⟩ (fun _ => rfl) h fun v6 _ b4 e5 h => ?_
    refine bsome h fun v7 hv7 h => ?_
    simp only [go_sem, seval, b4, e5]
    refine cX (hf_p1_f _ _ hv7) ?_
    simp only [go_sem, seval]
    refine cS h (fun hb h => ?_) fun hb h => ?_
    ·simp only [go_sem, seval]
     exact rS (fun x => .int .i64 x) h
    ·refine add_s h fun v9 _ e8 h => ?_
     simp only [go_sem, seval, e8]
     exact lp_back (ih1 v9 h) ⟨rfl, rfl, rfl, rfl, trivial⟩
   ·simp only [go_sem, seval]
    exact atJ (wkn (JK2 h) trivial)
  ·exact lp_back (L1 0 h) ⟨rfl, rfl, rfl, rfl, trivial⟩
theorem w_sCFtMt_tMt {s : (List tMt)} {p1_f : (tMt → Option Bool)} (fv_p1_f : FuncId) (hf_p1_f : ∀ (a0 : tMt) (z : Bool), p1_f a0 = some z → ACall Tryz.prog fv_p1_f [enc_tMt a0] [] (.bool z) []) {r : Bool} (h : sCFtMt_tMt s p1_f = some r) : ACall Tryz.prog 132 [.sl none (List.map enc_tMt s), .fn (.func fv_p1_f) [] []] [] (.bool r) [] := by
 refine aX hf132 ok132 meek_bool ?_
 dsimp only [Tryz.f132, nums, Option.getD, List.append]
 unfold sCFtMt_tMt at h
 refine bsome h fun v1 hv1 h => ?_
 simp only [go_sem, seval]
 refine cX (w_sIFtMt_tMt fv_p1_f hf_p1_f hv1) ?_
 simp only [go_sem, seval]
 exact rS (fun x => .bool x) h
theorem w_tCl_may_2 {m : tMt} {r : Bool} (h : tCl_may_2 m = some r) : ACall Tryz.prog 133 [enc_tMt m] [] (.bool r) [] := by
 refine aX hf133 ok133 meek_bool ?_
 dsimp only [Tryz.f133, nums, Option.getD, List.append]
 unfold tCl_may_2 at h
 refine bsome h fun v1 hv1 h => ?_
 simp only [go_sem, seval]
 refine cX (w_tree_Check hv1) ?_
 simp only [go_sem, seval]
 exact rS (fun x => .bool x) h
theorem w_tCl_may {c : tCl} {r : Bool} (h : tCl_may c = some r) : ACall Tryz.prog 84 [enc_tCl c] [] (.bool r) [] := by
 refine aX hf84 ok84 meek_bool ?_
 dsimp only [Tryz.f84, nums, Option.getD, List.append]
 unfold tCl_may at h
 simp only [go_sem, seval]
 refine bsome h fun y1 hy1 h => ?_
 refine rgJ 35 10000 (.inl rfl) (fun w => w [(1, .ptr 0 0), (24, .bool y1)] [some [.str c.Name, .str c.Super, .sl none (List.map AV.str c.Vars), .sl none (List.map enc_tMt c.Methods)]]) (runX 10000 ?_) (fun Jy1 => ?_)
 ·clear hy1
  simp only [go_sem, seval]
  refine cS h (fun hb h => ?_) fun hb h => ?_
  ·simp only [go_sem, seval]
   exact rS (fun x => .bool x) h
  ·simp only [go_sem, seval]
   refine bsome h fun y8 hy8 h => ?_
   refine rgJ 35 10000 (.inl rfl) (fun w => w [(2, .bool y8)] [some [.str c.Name, .str c.Super, .sl none (List.map AV.str c.Vars), .sl none (List.map enc_tMt c.Methods)]]) (runX 10000 ?_) (fun Jy8 => ?_)
   ·clear hy8
    simp only [go_sem, seval]
    exact rS (fun x => .bool x) h
   ·clear h
    have h := hy8
    refine bsome h fun v10 hv10 h => ?_
    simp only [go_sem, seval]
    refine cX (w_sCFstring_string 131 (fun _ _ h => w_tCl_may_1 h) hv10) ?_
    simp only [go_sem, seval]
    refine grd_ (fun hb11 => ?_) fun hb11 => ?_
    ·have h := ite_t hb11 h
     refine bsome h fun v12 hv12 h => ?_
     simp only [go_sem, seval]
     refine cX (w_sCFtMt_tMt 133 (fun _ _ h => w_tCl_may_2 h) hv12) ?_
     simp only [go_sem, seval]
     cases h
     exact atJ (wkn (Jy8) ⟨rfl, trivial⟩)
    ·have h := ite_f hb11 h
     simp only [go_sem, seval]
     cases h
     exact atJ (wkn (Jy8) ⟨rfl, trivial⟩)
 ·clear h
  have h := hy1
  refine bsome h fun v3 hv3 h => ?_
  simp only [go_sem, seval]
  refine cX (w_tree_named hv3) ?_
  simp only [go_sem, seval]
  refine grd_ (fun hb4 => ?_) fun hb4 => ?_
  ·have h := ite_f hb4 h
   refine bsome h fun v5 hv5 h => ?_
   simp only [go_sem, seval]
   refine cX (w_tree_named hv5) ?_
   simp only [go_sem, seval]
   refine grd_ (fun hb6 => ?_) fun hb6 => ?_
   ·have h := ite_f hb6 h
    simp only [go_sem, seval]
    refine grd_ (fun hb7 => ?_) fun hb7 => ?_
    ·have h := ite_f hb7 h
     simp only [go_sem, seval]
     cases h
     exact atJ (wkn (Jy1) ⟨rfl, rfl, trivial⟩)
    ·have h := ite_t hb7 h
     simp only [go_sem, seval]
     cases h
     exact atJ (wkn (Jy1) ⟨rfl, rfl, trivial⟩)
   ·have h := ite_t hb6 h
    simp only [go_sem, seval]
    cases h
    exact atJ (wkn (Jy1) ⟨rfl, rfl, trivial⟩)
  ·have h := ite_t hb4 h
   simp only [go_sem, seval]
   cases h
   exact atJ (wkn (Jy1) ⟨rfl, rfl, trivial⟩)
theorem w_tree_CheckAll_1 {c : tCl} {r : Bool} (h : tree_CheckAll_1 c = some r) : ACall Tryz.prog 83 [enc_tCl c] [] (.bool r) [] := by
 refine aX hf83 ok83 meek_bool ?_
 dsimp only [Tryz.f83, nums, Option.getD, List.append]
 unfold tree_CheckAll_1 at h
 refine bsome h fun v1 hv1 h => ?_
 simp only [go_sem, seval]
 refine cX (w_tCl_may hv1) ?_
 simp only [go_sem, seval]
 exact rS (fun x => .bool x) h
theorem w_tree_CheckAll {l : (List tCl)} {r : (Option Int)} (h : tree_CheckAll l = some r) : ACall Tryz.prog 37 [.sl none (List.map enc_tCl l)] [] (encE 86 r) [] := by
 refine aX hf37 ok37 meek_encE ?_
 dsimp only [Tryz.f37, nums, Option.getD, List.append]
 unfold tree_CheckAll at h
 simp only [go_sem, seval]
 refine bsome h fun y1 hy1 h => ?_
 refine rgJ 11 10000 (.inl rfl) (fun w => w [(9, .bool y1)] []) (runX 10000 ?_) (fun Jy1 => ?_)
 ·clear hy1
  simp only [go_sem, seval]
  refine cS h (fun hb h => ?_) fun hb h => ?_
  ·simp only [go_sem, seval]
   exact rS (fun x => encE 86 x) h
  ·simp only [go_sem, seval]
   exact rS (fun x => encE 86 x) h
 ·clear h
  have h := hy1
  simp only [go_sem, seval]
  refine grd_ (fun hb3 => ?_) fun hb3 => ?_
  ·have h := ite_f hb3 h
   refine bsome h fun v4 hv4 h => ?_
   simp only [go_sem, seval]
   refine cX (w_sCFtCl_tCl 83 (fun _ _ h => w_tree_CheckAll_1 h) hv4) ?_
   simp only [go_sem, seval]
   cases h
   exact atJ (wkn (Jy1) ⟨rfl, trivial⟩)
  ·have h := ite_t hb3 h
   simp only [go_sem, seval]
   cases h
   exact atJ (wkn (Jy1) ⟨rfl, trivial⟩)
theorem w_sColWd_lWd {slices : (List (List lWd))} {r : (List lWd)} (h : sColWd_lWd slices = some r) : ACallO Tryz.prog 60 [.sl none (List.map encL_lWd slices)] (.sl (some (some (74, 3))) (List.map enc_lWd r)) := by
 refine acallXO (i := 2) 10000 hf60 ok60 (by kernel_rfl) ?_
 dsimp only [Tryz.f60, nums, Option.getD, List.append]
 unfold sColWd_lWd at h
 simp only [go_sem, seval]
 refine bsome h fun y1 hy1 h => ?_
 refine blkJ 36 10000 (fun w => w [(0, .sl none (List.map encL_lWd slices)), (3, .int .i64 y1)] []) (runX 10000 ?_) (fun Jy1 => ?_)
 ·clear hy1
  refine bsome h fun v14 hv14 h => ?_
  simp only [go_sem, seval]
  refine cO (w_slices_GrowW hv14) ?_
  simp only [go_sem, seval]
  refine bsome h fun y15 hy15 h => ?_
  refine blkJ 36 10000 (fun w => w [(6, .sl (some (some (74, 3))) (List.map enc_lWd y15))] []) (runX 10000 ?_) (fun Jy15 => ?_)
  ·clear hy15
   simp only [go_sem, seval]
   refine retO_s (fun x => .sl (some (some (74, 3))) (List.map enc_lWd x)) h ?_
   first | rfl | simp only [go_sem, resAV, resAll, resOne, seval]
  ·clear h
   have h := hy15
   simp only [go_sem, seval]
   refine lpJ 36 fuel (fun q2 w => ∀ (v17 : (List lWd)) (v18 : Int), sColWd_lWd_l2 slices q2 v17 v18 = some y15 → w [(6, .sl (some (some (74, 3))) (List.map enc_lWd v17)), (25, .sl none (List.map encL_lWd slices)), (26, .int .i64 (slices.length : Int)), (27, .int .i64 v18)] []) (fun w _ _ h => nomatch h) (fun q2 ih2 v17 v18 h => ?_) (fun L2 => ?_)
   ·unfold sColWd_lWd_l2 at h
    refine rL ?_
    simp only [go_sem, seval]
    refine cS h (fun hb h => ?_) fun hb h => ?_
    ·simp only [go_sem, seval]
     refine bK ?_
     refine lAt_s encL_lWd none .i64 ⟨70, 1, false, 24⟩ (fun _ => rfl) h fun v21 _ b19 e20 h => ?_
     refine appE_s (E := (74, 3)) enc_lWd none ⟨74, 3, true, 32⟩ (fun _ => rfl) (by decide) ⟨rfl, by first | exact .inl rfl | exact .inr rfl⟩ rfl h fun v24 _ b22 e23 h => ?_
     refine add_s h fun v26 _ e25 h => ?_
     simp only [go_sem, seval, b19, e20, b22, e23, e25]
     exact lp_back (ih2 v24 v26 h) ⟨rfl, rfl, rfl, rfl, trivial⟩
    ·simp only [go_sem, seval]
     cases h
     exact atJ (wkn (Jy15) ⟨rfl, trivial⟩)
   ·exact lp_back (L2 v14 0 h) ⟨rfl, rfl, rfl, rfl, trivial⟩
 ·clear h
  have h := hy1
  simp only [go_sem, seval]
  refine lpJ 36 fuel (fun q1 w => ∀ (v3 : Int) (v4 : Int), sColWd_lWd_l1 slices q1 v3 v4 = some y1 → w [(0, .sl none (List.map encL_lWd slices)), (3, .int .i64 v3), (9, .sl none (List.map encL_lWd slices)), (10, .int .i64 (slices.length : Int)), (11, .int .i64 v4)] []) (fun w _ _ h => nomatch h) (fun q1 ih1 v3 v4 h => ?_) (fun L1 => ?_)
  ·unfold sColWd_lWd_l1 at h
   refine rL ?_
   simp only [go_sem, seval]
   refine cS h (fun hb h => ?_) fun hb h => ?_
   ·simp only [go_sem, seval]
    refine bK ?_
    refine lAt_s encL_lWd none .i64 ⟨70, 1, false, 24⟩ (fun _ => rfl) h fun v7 _ b5 e6 h => ?_
    refine add_s h fun v9 _ e8 h => ?_
    simp only [go_sem, seval, b5, e6, e8]
    refine bsome h fun y10 hy10 h => ?_
    refine cndJ 36 10000 (fun w => w [(0, .sl none (List.map encL_lWd slices)), (3, .int .i64 v9), (9, .sl none (List.map encL_lWd slices)), (10, .int .i64 (slices.length : Int)), (11, .int .i64 v4)] []) (runX 10000 ?_) (fun Jy10 => ?_)
    ·clear hy10
     refine add_s h fun v13 _ e12 h => ?_
     simp only [go_sem, seval, e12]
     exact lp_back (ih1 v9 v13 h) ⟨rfl, rfl, rfl, rfl, rfl, trivial⟩
    ·clear h
     have h := hy10
     refine cS h (fun hb h => ?_) fun hb h => ?_
     ·exact nomatch h
     ·simp only [go_sem, seval]
      cases h
      exact atJ (wkn (Jy10) ⟨rfl, rfl, rfl, rfl, rfl, trivial⟩)
   ·simp only [go_sem, seval]
    cases h
    exact atJ (wkn (Jy1) ⟨rfl, rfl, trivial⟩)
  ·exact lp_back (L1 0 0 h) ⟨rfl, rfl, rfl, rfl, rfl, trivial⟩
theorem w_print_Source {l : (List tCl)} {r : (Str × (Option Int))} (h : print_Source l = some r) : ACall Tryz.prog 20 [.sl none (List.map enc_tCl l)] [] (.tup [.str r.1, encE 86 r.2]) [] := by
 refine aX hf20 ok20 meek_tup ?_
 dsimp only [Tryz.f20, nums, Option.getD, List.append]
 unfold print_Source at h
 refine bsome h fun v1 hv1 h => ?_
 simp only [go_sem, seval]
 refine cX (w_tree_CheckAll hv1) ?_
 simp only [go_sem, seval]
 refine cS h (fun hb h => ?_) fun hb h => ?_
 ·simp only [go_sem, seval]
  refine ret_s (fun x => .tup [.str x.1, encE 86 x.2]) h ?_
  first | rfl | simp only [go_sem, resAV, resAll, resOne, seval]
 ·simp only [go_sem, seval]
  refine typ_blk 0 1 none [some [.str [], .sl none [], .sl (some none) [], .sl (some none) [], .sl (some none) [], .sl (some none) []]] rfl rfl ?_
  refine typ_blk 0 2 none [some [.str [], .sl none [], .sl none [], .sl (some none) [], .sl (some none) [], .sl (some none) []]] rfl rfl ?_
  refine typ_blk 0 3 none [some [.str [], .sl none [], .sl none [], .sl none [], .sl (some none) [], .sl (some none) []]] rfl rfl ?_
  refine typ_blk 0 4 none [some [.str [], .sl none [], .sl none [], .sl none [], .sl none [], .sl (some none) []]] rfl rfl ?_
  refine typ_blk 0 5 (some (some (74, 3))) [some [.str [], .sl none [], .sl none [], .sl none [], .sl none [], .sl (some (some (74, 3))) []]] rfl rfl ?_
  refine letK_s h fun K3 hK3 h => ?_
  refine blkJ 77 10000 (fun w => ∀ (v67 : pwr), K3 v67 = some r → w [(5, .ptr 0 0)] [hT v67]) (fun v67 h => runX 10000 ?_) (fun JK3 => ?_)
  ·subst hK3
   dsimp only at h
   refine bsome h fun v68 hv68 h => ?_
   simp only [go_sem, seval]
   refine cX (w_lex_Text hv68) ?_
   simp only [go_sem, seval]
   refine ret_s (fun x => .tup [.str x.1, encE 86 x.2]) h ?_
   first | rfl | simp only [go_sem, resAV, resAll, resOne, seval]
  ·clear hK3
   simp only [go_sem, seval]
   refine lpJ 77 fuel (fun q1 w => ∀ (v35 : Int) (v36 : pwr), print_Source_l1 l K3 q1 v35 v36 = some r → w [(5, .ptr 0 0), (17, .sl none (List.map enc_tCl l)), (18, .int .i64 (l.length : Int)), (19, .int .i64 v35)] [hT v36]) (fun w _ _ h => nomatch h) (fun q1 ih1 v35 v36 h => ?_) (fun L1 => ?_)
   ·unfold print_Source_l1 at h
    refine rL ?_
    simp only [go_sem, seval]
    refine cS h (fun hb h => ?_) fun hb h => ?_
    ·simp only [go_sem, seval]
     refine bK ?_
     refine lAt_s enc_tCl none .i64 ⟨81, 4, true, 80⟩ (fun _ => rfl) h fun v39 _ b37 e38 h => ?_
     refine bsome h fun v40 hv40 h => ?_
     simp only [go_sem, seval, b37, e38]
     refine cH [0] (w_pwr_textT hv40) ?_
     refine bsome h fun v41 hv41 h => ?_
     simp only [go_sem, seval]
     refine cH [0] (w_pwr_textT hv41) ?_
     refine bsome h fun v42 hv42 h => ?_
     simp only [go_sem, seval]
     refine cH [0] (w_pwr_textT hv42) ?_
     refine bsome h fun v43 hv43 h => ?_
     simp only [go_sem, seval]
     refine cH [0] (w_pwr_varsT hv43) ?_
     refine bsome h fun v44 hv44 h => ?_
     simp only [go_sem, seval]
     refine cH [0] (w_pwr_addT hv44) ?_
     simp only [go_sem, seval]
     refine bsome h fun y45 hy45 h => ?_
     refine blkJ 77 10000 (fun w => w [(5, .ptr 0 0), (17, .sl none (List.map enc_tCl l)), (18, .int .i64 (l.length : Int)), (19, .int .i64 v35)] [some [.str v44.m.Sel, .sl none (List.map AV.str v44.m.Args), .sl none (List.map AV.str v44.m.Temps), .sl none (List.map enc_tNd v44.m.Nodes), .sl none (List.map (AV.int .i64) v44.m.Body), .sl (some (some (74, 3))) (List.map enc_lWd y45)], some [.str v39.Name, .str v39.Super, .sl none (List.map AV.str v39.Vars), .sl none (List.map enc_tMt v39.Methods)]]) (runX 10000 ?_) (fun Jy45 => ?_)
     ·clear hy45
      refine bsome h fun v64 hv64 h => ?_
      simp only [go_sem, seval]
      refine cH [0] (w_pwr_addT hv64) ?_
      simp only [go_sem, seval]
      refine cS h (fun hb h => ?_) fun hb h => ?_
      ·simp only [go_sem, seval]
       refine ret_s (fun x => .tup [.str x.1, encE 86 x.2]) h ?_
       first | rfl | simp only [go_sem, resAV, resAll, resOne, seval]
      ·refine add_s h fun v66 _ e65 h => ?_
       simp only [go_sem, seval, e65]
       exact lp_backH 1 (ih1 v66 v64 h) ⟨rfl, rfl, rfl, rfl, trivial⟩ rfl rfl rfl (by first | rfl | simp only [go_sem, ltF]) (by first | rfl | simp only [go_sem, allLt])
     ·clear h
      have h := hy45
      simp only [go_sem, seval]
      refine lpJ 77 fuel (fun q3 w => ∀ (v55 : Int) (v56 : (List lWd)), print_Source_l3 v39 q3 v55 v56 = some y45 → w [(5, .ptr 0 0), (17, .sl none (List.map enc_tCl l)), (18, .int .i64 (l.length : Int)), (19, .int .i64 v35), (41, .sl none (List.map enc_tMt v39.Methods)), (42, .int .i64 (v39.Methods.length : Int)), (43, .int .i64 v55)] [some [.str v44.m.Sel, .sl none (List.map AV.str v44.m.Args), .sl none (List.map AV.str v44.m.Temps), .sl none (List.map enc_tNd v44.m.Nodes), .sl none (List.map (AV.int .i64) v44.m.Body), .sl (some (some (74, 3))) (List.map enc_lWd v56)], some [.str v39.Name, .str v39.Super, .sl none (List.map AV.str v39.Vars), .sl none (List.map enc_tMt v39.Methods)]]) (fun w _ _ h => nomatch h) (fun q3 ih3 v55 v56 h => ?_) (fun L3 => ?_)
      ·unfold print_Source_l3 at h
       refine rL ?_
       simp only [go_sem, seval]
       refine cS h (fun hb h => ?_) fun hb h => ?_
       ·simp only [go_sem, seval]
        refine bK ?_
        refine lAt_s enc_tMt none .i64 ⟨35, 5, true, 112⟩ (fun _ => rfl) h fun v59 _ b57 e58 h => ?_
        simp only [go_sem, seval, b57, e58]
        refine rg_ 10000 (.inr ⟨[(5, 0), (9, 2), (47, 0), (48, 0), (49, 0), (50, 0), (56, 0), (57, 0)], by kernel_rfl, by kernel_rfl, by rfl⟩) ?_
        refine bsome h fun v60 hv60 h => ?_
        simp only [go_sem, seval]
        refine cX (w_print_words hv60) ?_
        refine bsome h fun v61 hv61 h => ?_
        simp only [go_sem, seval]
        refine cO (w_sColWd_lWd hv61) ?_
        refine add_s h fun v63 _ e62 h => ?_
        simp only [go_sem, seval, e62]
        exact lp_backH 2 (ih3 v63 v61 h) ⟨rfl, rfl, rfl, rfl, rfl, rfl, rfl, trivial⟩ rfl rfl rfl (by first | rfl | simp only [go_sem, ltF]) (by first | rfl | simp only [go_sem, allLt])
       ·simp only [go_sem, seval]
        cases h
        exact atJ (wkn (Jy45) ⟨rfl, rfl, rfl, rfl, trivial⟩)
      ·exact lp_back (L3 0 v44.l h) ⟨rfl, rfl, rfl, rfl, rfl, rfl, rfl, trivial⟩
    ·simp only [go_sem, seval]
     exact atJ (wkn (JK3 v36 h) ⟨rfl, trivial⟩)
   ·exact lp_back (L1 0 (pwr.mk (tMt.mk [] [] [] [] []) []) h) ⟨rfl, rfl, rfl, rfl, trivial⟩
theorem w_law16_sure {r : Bool} (h : law16_sure = some r) : ACall Tryz.prog 14 [] [] (.bool r) [] := by
 refine aX hf14 ok14 meek_bool ?_
 dsimp only [Tryz.f14, nums, Option.getD, List.append]
 unfold law16_sure at h
 refine bsome h fun v1 hv1 h => ?_
 simp only [go_sem, seval]
 refine cX (w_print_Method hv1) ?_
 refine bsome h fun v2 hv2 h => ?_
 simp only [go_sem, seval]
 refine cX (w_print_Method hv2) ?_
 refine bsome h fun v3 hv3 h => ?_
 simp only [go_sem, seval]
 refine cX (w_print_Source hv3) ?_
 simp only [go_sem, seval]
 refine bsome h fun y4 hy4 h => ?_
 refine rgJ 58 10000 (.inl rfl) (fun w => w [(0, .bool y4)] [some [.str [102, 111, 111], .sl (some none) [], .sl (some none) [], .sl (some none) [.agg [.int .u8 7, .str [120], .int .i64 0, .sl none [], .sl none []], .agg [.int .u8 5, .str [49], .int .i64 0, .sl none [], .sl none []], .agg [.int .u8 5, .str [45, 50], .int .i64 0, .sl none [], .sl none []], .agg [.int .u8 9, .str [43], .int .i64 0, .sl none [], .sl none [.int .i64 1, .int .i64 2]], .agg [.int .u8 9, .str [43], .int .i64 0, .sl none [], .sl none [.int .i64 0, .int .i64 3]], .agg [.int .u8 13, .str [], .int .i64 0, .sl none [], .sl none [.int .i64 4]]], .sl (some none) [.int .i64 5]]]) (runX 10000 ?_) (fun Jy4 => ?_)
 ·clear hy4
  simp only [go_sem, seval]
  exact rS (fun x => .bool x) h
 ·clear h
  have h := hy4
  simp only [go_sem, seval]
  refine grd_ (fun hb6 => ?_) fun hb6 => ?_
  ·have h := ite_t hb6 h
   simp only [go_sem, seval]
   refine grd_ (fun hb7 => ?_) fun hb7 => ?_
   ·have h := ite_t hb7 h
    refine bsome h fun v8 hv8 h => ?_
    simp only [go_sem, seval]
    refine cX (w_law_num hv8) ?_
    simp only [go_sem, seval]
    refine grd_ (fun hb9 => ?_) fun hb9 => ?_
    ·have h := ite_t hb9 h
     simp only [go_sem, seval]
     refine grd_ (fun hb10 => ?_) fun hb10 => ?_
     ·have h := ite_t hb10 h
      simp only [go_sem, seval]
      cases h
      exact atJ (wkn (Jy4) ⟨rfl, trivial⟩)
     ·have h := ite_f hb10 h
      simp only [go_sem, seval]
      cases h
      exact atJ (wkn (Jy4) ⟨rfl, trivial⟩)
    ·have h := ite_f hb9 h
     simp only [go_sem, seval]
     cases h
     exact atJ (wkn (Jy4) ⟨rfl, trivial⟩)
   ·have h := ite_f hb7 h
    simp only [go_sem, seval]
    cases h
    exact atJ (wkn (Jy4) ⟨rfl, trivial⟩)
  ·have h := ite_f hb6 h
   simp only [go_sem, seval]
   cases h
   exact atJ (wkn (Jy4) ⟨rfl, trivial⟩)
theorem w_law16_giveMethod {m : rMt} {r : tMt} (h : law16_giveMethod m = some r) : ACall Tryz.prog 16 [enc_rMt m] [] (enc_tMt r) [] := by
 refine aX hf16 ok16 meek_agg ?_
 dsimp only [Tryz.f16, nums, Option.getD, List.append]
 unfold law16_giveMethod at h
 simp only [go_sem, seval]
 refine rg_ 10000 (.inr ⟨[(1, 0), (6, 0), (9, 0), (13, 0), (17, 0)], by kernel_rfl, by kernel_rfl, by rfl⟩) ?_
 refine app_s AV.str none ⟨9, 1, false, 16⟩ (fun _ => rfl) (by decide) rfl h fun v3 _ (b1 : appc ⟨9, 1, false, 16⟩ (.sl (some none) []) (.sl none (List.map AV.str m.Args))) (e2 : appv (.sl (some none) []) (.sl none (List.map AV.str m.Args)) = .sl (some none) (List.map AV.str v3)) h => ?_
 refine app_s AV.str none ⟨9, 1, false, 16⟩ (fun _ => rfl) (by decide) rfl h fun v6 _ (b4 : appc ⟨9, 1, false, 16⟩ (.sl (some none) []) (.sl none (List.map AV.str m.Temps))) (e5 : appv (.sl (some none) []) (.sl none (List.map AV.str m.Temps)) = .sl (some none) (List.map AV.str v6)) h => ?_
 refine app_s (AV.int .i64) none ⟨3, 1, false, 8⟩ (fun _ => rfl) (by decide) rfl h fun v9 _ (b7 : appc ⟨3, 1, false, 8⟩ (.sl (some none) []) (.sl none (List.map (AV.int .i64) m.Body))) (e8 : appv (.sl (some none) []) (.sl none (List.map (AV.int .i64) m.Body)) = .sl (some none) (List.map (AV.int .i64) v9)) h => ?_
 simp only [go_sem, seval, b1, e2, b4, e5, b7, e8]
 refine bsome h fun y10 hy10 h => ?_
 refine blkJ 54 10000 (fun w => w [(2, .ptr 1 0), (3, .ptr 2 0)] [hR m, some [.str [], .sl (some none) [], .sl (some none) [], .sl (some none) [], .sl (some none) []], some [.str m.Sel, .sl none (List.map AV.str v3), .sl none (List.map AV.str v6), .sl (some none) (List.map enc_tNd y10), .sl none (List.map (AV.int .i64) v9)]]) (runX 10000 ?_) (fun Jy10 => ?_)
 ·clear hy10
  simp only [go_sem, seval]
  exact rS (fun x => enc_tMt x) h
 ·clear h
  have h := hy10
  simp only [go_sem, seval]
  refine lpJ 54 fuel (fun q1 w => ∀ (v27 : Int) (v28 : (List tNd)), law16_giveMethod_l1 m q1 v27 v28 = some y10 → w [(1, .ptr 0 0), (2, .ptr 1 0), (3, .ptr 2 0), (4, .int .i64 v27)] [hR m, some [.str [], .sl (some none) [], .sl (some none) [], .sl (some none) [], .sl (some none) []], some [.str m.Sel, .sl none (List.map AV.str v3), .sl none (List.map AV.str v6), .sl (some none) (List.map enc_tNd v28), .sl none (List.map (AV.int .i64) v9)]]) (fun w _ _ h => nomatch h) (fun q1 ih1 v27 v28 h => ?_) (fun L1 => ?_)
  ·unfold law16_giveMethod_l1 at h
   refine rL ?_
   simp only [go_sem, seval]
   refine cS h (fun hb h => ?_) fun hb h => ?_
   ·simp only [go_sem, seval]
    refine bK ?_
    refine lAt_s enc_rNd none .i64 ⟨78, 5, true, 80⟩ (fun _ => rfl) h fun v31 _ b29 e30 h => ?_
    simp only [go_sem, seval, b29, e30]
    refine rg_ 10000 (.inr ⟨[(3, 2), (5, 3), (33, 2), (35, 3), (37, 3), (39, 3), (42, 3), (46, 3), (52, 2)], by kernel_rfl, by kernel_rfl, by rfl⟩) ?_
    refine app_s AV.str none ⟨9, 1, false, 16⟩ (fun _ => rfl) (by decide) rfl h fun v34 _ (b32 : appc ⟨9, 1, false, 16⟩ (.sl (some none) []) (.sl none (List.map AV.str v31.L))) (e33 : appv (.sl (some none) []) (.sl none (List.map AV.str v31.L)) = .sl (some none) (List.map AV.str v34)) h => ?_
    refine app_s (AV.int .i64) none ⟨3, 1, false, 8⟩ (fun _ => rfl) (by decide) rfl h fun v37 _ (b35 : appc ⟨3, 1, false, 8⟩ (.sl (some none) []) (.sl none (List.map (AV.int .i64) v31.Kids))) (e36 : appv (.sl (some none) []) (.sl none (List.map (AV.int .i64) v31.Kids)) = .sl (some none) (List.map (AV.int .i64) v37)) h => ?_
    refine app_s enc_tNd (some none) ⟨59, 5, true, 80⟩ (fun _ => rfl) (by decide) rfl h fun v40 _ (b38 : appc ⟨59, 5, true, 80⟩ (.sl (some none) (List.map enc_tNd v28)) (.sl (some none) [.agg [.int .u8 v31.K, .str v31.S, .int .i64 v31.N, .sl none (List.map AV.str v34), .sl none (List.map (AV.int .i64) v37)]])) (e39 : appv (.sl (some none) (List.map enc_tNd v28)) (.sl (some none) [.agg [.int .u8 v31.K, .str v31.S, .int .i64 v31.N, .sl none (List.map AV.str v34), .sl none (List.map (AV.int .i64) v37)]]) = .sl (some none) (List.map enc_tNd v40)) h => ?_
    refine add_s h fun v42 _ e41 h => ?_
    simp only [go_sem, seval, b32, e33, b35, e36, b38, e39, e41]
    exact lp_backH 3 (ih1 v42 v40 h) ⟨rfl, rfl, rfl, rfl, trivial⟩ rfl rfl rfl (by first | rfl | simp only [go_sem, ltF]) (by first | rfl | simp only [go_sem, allLt])
   ·simp only [go_sem, seval]
    cases h
    exact atJ (wkn (Jy10) ⟨rfl, rfl, trivial⟩)
  ·exact lp_back (L1 0 [] h) ⟨rfl, rfl, rfl, rfl, trivial⟩
theorem w_ref09_sign {c : Int} {r : Bool} (h : ref09_sign c = some r) : ACall Tryz.prog 180 [.int .u8 c] [] (.bool r) [] := by
 refine aX hf180 ok180 meek_bool ?_
 dsimp only [Tryz.f180, nums, Option.getD, List.append]
 unfold ref09_sign at h
 simp only [go_sem, seval]
 refine letK_s h fun K2 hK2 h => ?_
 refine blkJ 16 10000 (fun w => K2 () = some r → w [] []) (fun h => runX 10000 ?_) (fun JK2 => ?_)
 ·subst hK2
  dsimp only at h
  simp only [go_sem, seval]
  exact rS (fun x => .bool x) h
 ·clear hK2
  simp only [go_sem, seval]
  refine lpJ 16 fuel (fun q1 w => ∀ (v3 : Int), ref09_sign_l1 c K2 q1 v3 = some r → w [(0, .int .u8 c), (3, .str [43, 45, 42, 47, 92, 60, 62, 61, 126, 44]), (4, .int .i64 v3)] []) (fun w _ h => nomatch h) (fun q1 ih1 v3 h => ?_) (fun L1 => ?_)
  ·unfold ref09_sign_l1 at h
   refine rL ?_
   simp only [go_sem, seval]
   refine cS h (fun hb h => ?_) fun hb h => ?_
   ·simp only [go_sem, seval]
    refine bK ?_
    refine sIdx_s .i64 h fun v6 _ b4 e5 h => ?_
    simp only [go_sem, seval, b4, e5]
    refine cS h (fun hb h => ?_) fun hb h => ?_
    ·simp only [go_sem, seval]
     exact rS (fun x => .bool x) h
    ·refine add_s h fun v8 _ e7 h => ?_
     simp only [go_sem, seval, e7]
     exact lp_back (ih1 v8 h) ⟨rfl, rfl, rfl, trivial⟩
   ·simp only [go_sem, seval]
    exact atJ (wkn (JK2 h) trivial)
  ·exact lp_back (L1 0 h) ⟨rfl, rfl, rfl, trivial⟩
theorem w_ref09_small {c : Int} {r : Bool} (h : ref09_small c = some r) : ACall Tryz.prog 181 [.int .u8 c] [] (.bool r) [] := by
 refine aX hf181 ok181 meek_bool ?_
 dsimp only [Tryz.f181, nums, Option.getD, List.append]
 unfold ref09_small at h
 simp only [go_sem, seval]
 refine rgJ 9 10000 (.inl rfl) (fun w => w [(2, .bool ((decide ((97 : Int) ≤ c)) && (decide (c ≤ 122))))] []) (runX 10000 ?_) (fun Jg1 => ?_)
 ·simp only [go_sem, seval]
  exact rS (fun x => .bool x) h
 ·simp only [go_sem, seval]
  refine grd_ (fun hb2 => ?_) fun hb2 => ?_
  ·simp only [go_sem, seval]
   exact atJ (wkn Jg1 ⟨congrArg AV.bool (by first | rfl | (rw [hb2]; rfl) | (simp [hb2]; done) | simp_all), trivial⟩)
  ·simp only [go_sem, seval]
   exact atJ (wkn Jg1 ⟨congrArg AV.bool (by first | rfl | (rw [hb2]; rfl) | (simp [hb2]; done) | simp_all), trivial⟩)
end Go.Cq

