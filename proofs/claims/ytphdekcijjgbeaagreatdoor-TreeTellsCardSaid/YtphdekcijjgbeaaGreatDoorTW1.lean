import Derived.Test.YtphdekcijjgbeaaGreatDoorTEn
import Derived.Test.YtphdekcijjgbeaaGreatDoorTHa
set_option linter.unusedSectionVars false
set_option linter.unusedVariables false
set_option linter.unusedSimpArgs false
set_option linter.unnecessarySimpa false
set_option maxRecDepth 100000
set_option maxHeartbeats 4000000
namespace Go.Cq
open Go Go.Av Go.Proofs
variable [Lay] [SeatLay]
attribute [local irreducible] hold ex W Wr nd cndV rgO exitO grdO grdV grdG callX alcX stX nckX
theorem w_law14_bigTexts {l : (List Str)}   {r : Bool} (h : law14_bigTexts l = some r) : ACall Tryz.prog 18 [.sl none (List.map AV.str l)] [] (.bool r) [] := by
  refine acallX 10000 hf18 ok18 (by first | rfl | simp only [go_sem]) meek_bool ?_
  dsimp only [Tryz.f18, nums, Option.getD, List.append]
  unfold law14_bigTexts at h
  simp only [go_sem, seval]
  refine letK_s h fun K2 hK2 h => ?_
  refine blkJ 23 10000 (fun w => K2 () = some r → w [(0, .sl none (List.map AV.str l))] []) (fun  h => runX 10000 ?_) (fun JK2 => ?_)
  · subst hK2
    dsimp only at h
    simp only [go_sem, seval]
    refine ret_s (fun x => .bool x) h ?_
    first | rfl | simp only [go_sem, resAV, resAll, resOne, seval]
  · clear hK2
    simp only [go_sem, seval]
    refine lpJ 23 fuel (fun q1 w => ∀ (v3 : Int), law14_bigTexts_l1 l K2 q1 v3 = some r → w [(0, .sl none (List.map AV.str l)), (3, .int .i64 v3)] []) (fun w _ h => nomatch h) (fun q1 ih1 v3 h => ?_) (fun L1 => ?_)
    · unfold law14_bigTexts_l1 at h
      refine runL 10000 ?_
      simp only [go_sem, seval]
      refine rgJ 23 10000 (.inl rfl) (fun w => w [(0, .sl none (List.map AV.str l)), (3, .int .i64 v3), (11, .bool ((decide (v3 < (l.length : Int))) && (decide (v3 < 40))))] []) (runX 10000 ?_) (fun Jg4 => ?_)
      · simp only [go_sem, seval]
        refine cnd_s 10000 h (fun hb h => ?_) (fun hb h => ?_)
        · simp only [go_sem, seval]
          refine blk_ 10000 ?_
          refine lAt_s AV.str none .i64 ⟨9, 1, false, 16⟩ (fun _ => rfl) h fun v7 _ b5 e6 h => ?_
          simp only [go_sem, seval, b5, e6]
          refine cnd_s 10000 h (fun hb h => ?_) (fun hb h => ?_)
          · simp only [go_sem, seval]
            refine ret_s (fun x => .bool x) h ?_
            first | rfl | simp only [go_sem, resAV, resAll, resOne, seval]
          · refine add_s h fun v9 _ e8 h => ?_
            simp only [go_sem, seval, e8]
            exact lp_back (ih1 v9 h) ⟨rfl, rfl, trivial⟩
        · simp only [go_sem, seval]
          exact atJ (wkn (JK2  h) ⟨rfl, trivial⟩)
      · simp only [go_sem, seval]
        refine grd_ (fun hb10 => ?_) (fun hb10 => ?_)
        · simp only [go_sem, seval]
          exact atJ (wkn Jg4 ⟨rfl, rfl, congrArg AV.bool (by first | rfl | (rw [hb10]; rfl) | (simp [hb10]; done) | simp_all), trivial⟩)
        · simp only [go_sem, seval]
          exact atJ (wkn Jg4 ⟨rfl, rfl, congrArg AV.bool (by first | rfl | (rw [hb10]; rfl) | (simp [hb10]; done) | simp_all), trivial⟩)
    · exact lp_back (L1 0 h) ⟨rfl, rfl, trivial⟩
theorem w_law14_bigTree {m : ref14_Method}   {r : Bool} (h : law14_bigTree m = some r) : ACall Tryz.prog 5 [enc_ref14_Method m] [] (.bool r) [] := by
  refine acallX 10000 hf5 ok5 (by first | rfl | simp only [go_sem]) meek_bool ?_
  dsimp only [Tryz.f5, nums, Option.getD, List.append]
  unfold law14_bigTree at h
  simp only [go_sem, seval]
  refine bsome h fun y1 hy1 h => ?_
  refine rgJ 58 10000 (.inl rfl) (fun w => w [(1, .ptr 0 0), (30, .bool y1)] [some [.str m.Sel, .sl none (List.map AV.str m.Args), .sl none (List.map AV.str m.Temps), .sl none (List.map enc_ref14_Node m.Nodes), .sl none (List.map (AV.int .i64) m.Body)]]) (runX 10000 ?_) (fun Jy1 => ?_)
  · clear hy1
    simp only [go_sem, seval]
    refine cnd_s 10000 h (fun hb h => ?_) (fun hb h => ?_)
    · simp only [go_sem, seval]
      refine ret_s (fun x => .bool x) h ?_
      first | rfl | simp only [go_sem, resAV, resAll, resOne, seval]
    · simp only [go_sem, seval]
      refine letK_s h fun K10 hK10 h => ?_
      refine blkJ 58 10000 (fun w => K10 () = some r → w [] [some [.str m.Sel, .sl none (List.map AV.str m.Args), .sl none (List.map AV.str m.Temps), .sl none (List.map enc_ref14_Node m.Nodes), .sl none (List.map (AV.int .i64) m.Body)]]) (fun  h => runX 10000 ?_) (fun JK10 => ?_)
      · subst hK10
        dsimp only at h
        simp only [go_sem, seval]
        refine ret_s (fun x => .bool x) h ?_
        first | rfl | simp only [go_sem, resAV, resAll, resOne, seval]
      · clear hK10
        simp only [go_sem, seval]
        refine lpJ 58 fuel (fun q1 w => ∀ (v11 : Int), law14_bigTree_l1 m K10 q1 v11 = some r → w [(1, .ptr 0 0), (3, .int .i64 v11)] [some [.str m.Sel, .sl none (List.map AV.str m.Args), .sl none (List.map AV.str m.Temps), .sl none (List.map enc_ref14_Node m.Nodes), .sl none (List.map (AV.int .i64) m.Body)]]) (fun w _ h => nomatch h) (fun q1 ih1 v11 h => ?_) (fun L1 => ?_)
        · unfold law14_bigTree_l1 at h
          refine runL 10000 ?_
          simp only [go_sem, seval]
          refine cnd_s 10000 h (fun hb h => ?_) (fun hb h => ?_)
          · simp only [go_sem, seval]
            refine blk_ 10000 ?_
            refine lAt_s enc_ref14_Node none .i64 ⟨45, 5, true, 80⟩ (fun _ => rfl) h fun v14 _ b12 e13 h => ?_
            simp only [go_sem, seval, b12, e13]
            refine bsome h fun y15 hy15 h => ?_
            refine rgJ 58 10000 (.inl rfl) (fun w => w [(1, .ptr 0 0), (3, .int .i64 v11), (57, .bool y15)] [some [.str m.Sel, .sl none (List.map AV.str m.Args), .sl none (List.map AV.str m.Temps), .sl none (List.map enc_ref14_Node m.Nodes), .sl none (List.map (AV.int .i64) m.Body)], some [.int .u8 v14.K, .str v14.S, .int .i64 v14.N, .sl none (List.map AV.str v14.L), .sl none (List.map (AV.int .i64) v14.Kids)]]) (runX 10000 ?_) (fun Jy15 => ?_)
            · clear hy15
              simp only [go_sem, seval]
              refine cnd_s 10000 h (fun hb h => ?_) (fun hb h => ?_)
              · simp only [go_sem, seval]
                refine ret_s (fun x => .bool x) h ?_
                first | rfl | simp only [go_sem, resAV, resAll, resOne, seval]
              · refine add_s h fun v21 _ e20 h => ?_
                simp only [go_sem, seval, e20]
                exact lp_backH 1 (ih1 v21 h) ⟨rfl, rfl, trivial⟩ rfl rfl rfl (by first | rfl | simp only [go_sem, ltF]) (by first | rfl | simp only [go_sem, allLt])
            · clear h
              have h := hy15
              simp only [go_sem, seval]
              refine grd_ (fun hb17 => ?_) (fun hb17 => ?_)
              · have h := ite_f hb17 h
                refine bsome h fun v18 hv18 h => ?_
                simp only [go_sem, seval]
                refine callX_ 10000 (w_law14_bigTexts  hv18) (by first | rfl | simp only [go_sem]) (by first | rfl | simp only [go_sem]) ?_
                simp only [go_sem, seval]
                refine grd_ (fun hb19 => ?_) (fun hb19 => ?_)
                · have h := ite_f hb19 h
                  simp only [go_sem, seval]
                  obtain rfl := Option.some.inj h
                  exact atJ (wkn (Jy15) ⟨rfl, rfl, rfl, trivial⟩)
                · have h := ite_t hb19 h
                  simp only [go_sem, seval]
                  obtain rfl := Option.some.inj h
                  exact atJ (wkn (Jy15) ⟨rfl, rfl, rfl, trivial⟩)
              · have h := ite_t hb17 h
                simp only [go_sem, seval]
                obtain rfl := Option.some.inj h
                exact atJ (wkn (Jy15) ⟨rfl, rfl, rfl, trivial⟩)
          · simp only [go_sem, seval]
            exact atJ (wkn (JK10  h) trivial)
        · exact lp_back (L1 0 h) ⟨rfl, rfl, trivial⟩
  · clear h
    have h := hy1
    simp only [go_sem, seval]
    refine grd_ (fun hb3 => ?_) (fun hb3 => ?_)
    · have h := ite_f hb3 h
      refine bsome h fun v4 hv4 h => ?_
      simp only [go_sem, seval]
      refine callX_ 10000 (w_law14_bigTexts  hv4) (by first | rfl | simp only [go_sem]) (by first | rfl | simp only [go_sem]) ?_
      simp only [go_sem, seval]
      refine grd_ (fun hb5 => ?_) (fun hb5 => ?_)
      · have h := ite_f hb5 h
        refine bsome h fun v6 hv6 h => ?_
        simp only [go_sem, seval]
        refine callX_ 10000 (w_law14_bigTexts  hv6) (by first | rfl | simp only [go_sem]) (by first | rfl | simp only [go_sem]) ?_
        simp only [go_sem, seval]
        refine grd_ (fun hb7 => ?_) (fun hb7 => ?_)
        · have h := ite_f hb7 h
          simp only [go_sem, seval]
          refine grd_ (fun hb8 => ?_) (fun hb8 => ?_)
          · have h := ite_f hb8 h
            simp only [go_sem, seval]
            obtain rfl := Option.some.inj h
            exact atJ (wkn (Jy1) ⟨rfl, rfl, trivial⟩)
          · have h := ite_t hb8 h
            simp only [go_sem, seval]
            obtain rfl := Option.some.inj h
            exact atJ (wkn (Jy1) ⟨rfl, rfl, trivial⟩)
        · have h := ite_t hb7 h
          simp only [go_sem, seval]
          obtain rfl := Option.some.inj h
          exact atJ (wkn (Jy1) ⟨rfl, rfl, trivial⟩)
      · have h := ite_t hb5 h
        simp only [go_sem, seval]
        obtain rfl := Option.some.inj h
        exact atJ (wkn (Jy1) ⟨rfl, rfl, trivial⟩)
    · have h := ite_t hb3 h
      simp only [go_sem, seval]
      obtain rfl := Option.some.inj h
      exact atJ (wkn (Jy1) ⟨rfl, rfl, trivial⟩)
theorem w_slices_Concat_Lstring_string {slices : (List (List Str))}   {r : (List Str)} (h : slices_Concat_Lstring_string slices = some r) : ACall Tryz.prog 20 [.sl none (List.map encL_string slices)] [] (.sl none (List.map AV.str r)) [] := by
  refine acallX 10000 hf20 ok20 (by first | rfl | simp only [go_sem]) meek_sl ?_
  dsimp only [Tryz.f20, nums, Option.getD, List.append]
  unfold slices_Concat_Lstring_string at h
  simp only [go_sem, seval]
  refine bsome h fun y1 hy1 h => ?_
  refine blkJ 36 10000 (fun w => w [(0, .sl none (List.map encL_string slices)), (3, .int .i64 y1)] []) (runX 10000 ?_) (fun Jy1 => ?_)
  · clear hy1
    refine bsome h fun v14 hv14 h => ?_
    simp only [go_sem, seval]
    refine callO_ 10000 (w_slices_Grow hv14) (by first | rfl | simp only [go_sem]) (by first | rfl | simp only [go_sem]) ?_
    simp only [go_sem, seval]
    refine bsome h fun y15 hy15 h => ?_
    refine blkJ 36 10000 (fun w => w [(6, .sl (some (some (9, 1))) (List.map AV.str y15))] []) (runX 10000 ?_) (fun Jy15 => ?_)
    · clear hy15
      simp only [go_sem, seval]
      refine ret_s (fun x => .sl none (List.map AV.str x)) h ?_
      first | rfl | simp only [go_sem, resAV, resAll, resOne, seval]
    · clear h
      have h := hy15
      simp only [go_sem, seval]
      refine lpJ 36 fuel (fun q2 w => ∀ (v17 : (List Str)) (v18 : Int), slices_Concat_Lstring_string_l2 slices q2 v17 v18 = some y15 → w [(6, .sl (some (some (9, 1))) (List.map AV.str v17)), (25, .sl none (List.map encL_string slices)), (26, .int .i64 (slices.length : Int)), (27, .int .i64 v18)] []) (fun w _ _ h => nomatch h) (fun q2 ih2 v17 v18 h => ?_) (fun L2 => ?_)
      · unfold slices_Concat_Lstring_string_l2 at h
        refine runL 10000 ?_
        simp only [go_sem, seval]
        refine cnd_s 10000 h (fun hb h => ?_) (fun hb h => ?_)
        · simp only [go_sem, seval]
          refine blk_ 10000 ?_
          refine lAt_s encL_string none .i64 ⟨22, 1, false, 24⟩ (fun _ => rfl) h fun v21 _ b19 e20 h => ?_
          refine appE_s (E := (9, 1)) AV.str none ⟨9, 1, false, 16⟩ (fun _ => rfl) (by decide) ⟨rfl, by first | exact .inl rfl | exact .inr rfl⟩ rfl h fun v24 _ b22 e23 h => ?_
          refine add_s h fun v26 _ e25 h => ?_
          simp only [go_sem, seval, b19, e20, b22, e23, e25]
          exact lp_back (ih2 v24 v26 h) ⟨rfl, rfl, rfl, rfl, trivial⟩
        · simp only [go_sem, seval]
          obtain rfl := Option.some.inj h
          exact atJ (wkn (Jy15) ⟨rfl, trivial⟩)
      · exact lp_back (L2 v14 0 h) ⟨rfl, rfl, rfl, rfl, trivial⟩
  · clear h
    have h := hy1
    simp only [go_sem, seval]
    refine lpJ 36 fuel (fun q1 w => ∀ (v3 : Int) (v4 : Int), slices_Concat_Lstring_string_l1 slices q1 v3 v4 = some y1 → w [(0, .sl none (List.map encL_string slices)), (3, .int .i64 v3), (9, .sl none (List.map encL_string slices)), (10, .int .i64 (slices.length : Int)), (11, .int .i64 v4)] []) (fun w _ _ h => nomatch h) (fun q1 ih1 v3 v4 h => ?_) (fun L1 => ?_)
    · unfold slices_Concat_Lstring_string_l1 at h
      refine runL 10000 ?_
      simp only [go_sem, seval]
      refine cnd_s 10000 h (fun hb h => ?_) (fun hb h => ?_)
      · simp only [go_sem, seval]
        refine blk_ 10000 ?_
        refine lAt_s encL_string none .i64 ⟨22, 1, false, 24⟩ (fun _ => rfl) h fun v7 _ b5 e6 h => ?_
        refine add_s h fun v9 _ e8 h => ?_
        simp only [go_sem, seval, b5, e6, e8]
        refine bsome h fun y10 hy10 h => ?_
        refine cndJ 36 10000 (fun w => w [(0, .sl none (List.map encL_string slices)), (3, .int .i64 v9), (9, .sl none (List.map encL_string slices)), (10, .int .i64 (slices.length : Int)), (11, .int .i64 v4)] []) (runX 10000 ?_) (fun Jy10 => ?_)
        · clear hy10
          refine add_s h fun v13 _ e12 h => ?_
          simp only [go_sem, seval, e12]
          exact lp_back (ih1 v9 v13 h) ⟨rfl, rfl, rfl, rfl, rfl, trivial⟩
        · clear h
          have h := hy10
          refine cnd_s 10000 h (fun hb h => ?_) (fun hb h => ?_)
          · exact nomatch h
          · simp only [go_sem, seval]
            obtain rfl := Option.some.inj h
            exact atJ (wkn (Jy10) ⟨rfl, rfl, rfl, rfl, rfl, trivial⟩)
      · simp only [go_sem, seval]
        obtain rfl := Option.some.inj h
        exact atJ (wkn (Jy1) ⟨rfl, rfl, trivial⟩)
    · exact lp_back (L1 0 0 h) ⟨rfl, rfl, rfl, rfl, rfl, trivial⟩
theorem w_slices_IndexFunc_Lstring_string {s : (List Str)} {p1_f : (Str → Option Bool)}  (fv_p1_f : FuncId) (hf_p1_f : ∀ (a0 : Str) (z : Bool), p1_f a0 = some z → ACall Tryz.prog fv_p1_f [.str a0] [] (.bool z) []) {r : Int} (h : slices_IndexFunc_Lstring_string s p1_f = some r) : ACall Tryz.prog 84 [.sl none (List.map AV.str s), .fn (.func fv_p1_f) [] []] [] (.int .i64 r) [] := by
  refine acallX 10000 hf84 ok84 (by first | rfl | simp only [go_sem]) meek_int ?_
  dsimp only [Tryz.f84, nums, Option.getD, List.append]
  unfold slices_IndexFunc_Lstring_string at h
  simp only [go_sem, seval]
  refine letK_s h fun K2 hK2 h => ?_
  refine blkJ 19 10000 (fun w => K2 () = some r → w [] []) (fun  h => runX 10000 ?_) (fun JK2 => ?_)
  · subst hK2
    dsimp only at h
    simp only [go_sem, seval]
    refine ret_s (fun x => .int .i64 x) h ?_
    first | rfl | simp only [go_sem, resAV, resAll, resOne, seval]
  · clear hK2
    simp only [go_sem, seval]
    refine lpJ 19 fuel (fun q1 w => ∀ (v3 : Int), slices_IndexFunc_Lstring_string_l1 s p1_f K2 q1 v3 = some r → w [(0, .sl none (List.map AV.str s)), (1, .fn (.func fv_p1_f) [] []), (7, .int .i64 (s.length : Int)), (8, .int .i64 v3)] []) (fun w _ h => nomatch h) (fun q1 ih1 v3 h => ?_) (fun L1 => ?_)
    · unfold slices_IndexFunc_Lstring_string_l1 at h
      refine runL 10000 ?_
      simp only [go_sem, seval]
      refine cnd_s 10000 h (fun hb h => ?_) (fun hb h => ?_)
      · simp only [go_sem, seval]
        refine blk_ 10000 ?_
        refine lAt_s AV.str none .i64 ⟨9, 1, false, 16⟩ (fun _ => rfl) h fun v6 _ b4 e5 h => ?_
        refine bsome h fun v7 hv7 h => ?_
        simp only [go_sem, seval, b4, e5]
        refine callX_ 10000 (hf_p1_f _ _ hv7) (by first | rfl | simp only [go_sem]) (by first | rfl | simp only [go_sem]) ?_
        simp only [go_sem, seval]
        refine cnd_s 10000 h (fun hb h => ?_) (fun hb h => ?_)
        · simp only [go_sem, seval]
          refine ret_s (fun x => .int .i64 x) h ?_
          first | rfl | simp only [go_sem, resAV, resAll, resOne, seval]
        · refine add_s h fun v9 _ e8 h => ?_
          simp only [go_sem, seval, e8]
          exact lp_back (ih1 v9 h) ⟨rfl, rfl, rfl, rfl, trivial⟩
      · simp only [go_sem, seval]
        exact atJ (wkn (JK2  h) trivial)
    · exact lp_back (L1 0 h) ⟨rfl, rfl, rfl, rfl, trivial⟩
theorem w_slices_ContainsFunc_Lstring_string {s : (List Str)} {p1_f : (Str → Option Bool)}  (fv_p1_f : FuncId) (hf_p1_f : ∀ (a0 : Str) (z : Bool), p1_f a0 = some z → ACall Tryz.prog fv_p1_f [.str a0] [] (.bool z) []) {r : Bool} (h : slices_ContainsFunc_Lstring_string s p1_f = some r) : ACall Tryz.prog 62 [.sl none (List.map AV.str s), .fn (.func fv_p1_f) [] []] [] (.bool r) [] := by
  refine acallX 10000 hf62 ok62 (by first | rfl | simp only [go_sem]) meek_bool ?_
  dsimp only [Tryz.f62, nums, Option.getD, List.append]
  unfold slices_ContainsFunc_Lstring_string at h
  refine bsome h fun v1 hv1 h => ?_
  simp only [go_sem, seval]
  refine callX_ 10000 (w_slices_IndexFunc_Lstring_string fv_p1_f hf_p1_f hv1) (by first | rfl | simp only [go_sem]) (by first | rfl | simp only [go_sem]) ?_
  simp only [go_sem, seval]
  refine ret_s (fun x => .bool x) h ?_
  first | rfl | simp only [go_sem, resAV, resAll, resOne, seval]
theorem w_slices_IndexFunc_Lbyte_byte {s : (List Int)} {p1_f : (Int → Option Bool)}  (fv_p1_f : FuncId) (hf_p1_f : ∀ (a0 : Int) (z : Bool), p1_f a0 = some z → ACall Tryz.prog fv_p1_f [.int .u8 a0] [] (.bool z) []) {r : Int} (h : slices_IndexFunc_Lbyte_byte s p1_f = some r) : ACall Tryz.prog 114 [.sl none (List.map (AV.int .u8) s), .fn (.func fv_p1_f) [] []] [] (.int .i64 r) [] := by
  refine acallX 10000 hf114 ok114 (by first | rfl | simp only [go_sem]) meek_int ?_
  dsimp only [Tryz.f114, nums, Option.getD, List.append]
  unfold slices_IndexFunc_Lbyte_byte at h
  simp only [go_sem, seval]
  refine letK_s h fun K2 hK2 h => ?_
  refine blkJ 19 10000 (fun w => K2 () = some r → w [] []) (fun  h => runX 10000 ?_) (fun JK2 => ?_)
  · subst hK2
    dsimp only at h
    simp only [go_sem, seval]
    refine ret_s (fun x => .int .i64 x) h ?_
    first | rfl | simp only [go_sem, resAV, resAll, resOne, seval]
  · clear hK2
    simp only [go_sem, seval]
    refine lpJ 19 fuel (fun q1 w => ∀ (v3 : Int), slices_IndexFunc_Lbyte_byte_l1 s p1_f K2 q1 v3 = some r → w [(0, .sl none (List.map (AV.int .u8) s)), (1, .fn (.func fv_p1_f) [] []), (7, .int .i64 (s.length : Int)), (8, .int .i64 v3)] []) (fun w _ h => nomatch h) (fun q1 ih1 v3 h => ?_) (fun L1 => ?_)
    · unfold slices_IndexFunc_Lbyte_byte_l1 at h
      refine runL 10000 ?_
      simp only [go_sem, seval]
      refine cnd_s 10000 h (fun hb h => ?_) (fun hb h => ?_)
      · simp only [go_sem, seval]
        refine blk_ 10000 ?_
        refine lAt_s (AV.int .u8) none .i64 ⟨5, 1, false, 1⟩ (fun _ => rfl) h fun v6 _ b4 e5 h => ?_
        refine bsome h fun v7 hv7 h => ?_
        simp only [go_sem, seval, b4, e5]
        refine callX_ 10000 (hf_p1_f _ _ hv7) (by first | rfl | simp only [go_sem]) (by first | rfl | simp only [go_sem]) ?_
        simp only [go_sem, seval]
        refine cnd_s 10000 h (fun hb h => ?_) (fun hb h => ?_)
        · simp only [go_sem, seval]
          refine ret_s (fun x => .int .i64 x) h ?_
          first | rfl | simp only [go_sem, resAV, resAll, resOne, seval]
        · refine add_s h fun v9 _ e8 h => ?_
          simp only [go_sem, seval, e8]
          exact lp_back (ih1 v9 h) ⟨rfl, rfl, rfl, rfl, trivial⟩
      · simp only [go_sem, seval]
        exact atJ (wkn (JK2  h) trivial)
    · exact lp_back (L1 0 h) ⟨rfl, rfl, rfl, rfl, trivial⟩
theorem w_slices_ContainsFunc_Lbyte_byte {s : (List Int)} {p1_f : (Int → Option Bool)}  (fv_p1_f : FuncId) (hf_p1_f : ∀ (a0 : Int) (z : Bool), p1_f a0 = some z → ACall Tryz.prog fv_p1_f [.int .u8 a0] [] (.bool z) []) {r : Bool} (h : slices_ContainsFunc_Lbyte_byte s p1_f = some r) : ACall Tryz.prog 86 [.sl none (List.map (AV.int .u8) s), .fn (.func fv_p1_f) [] []] [] (.bool r) [] := by
  refine acallX 10000 hf86 ok86 (by first | rfl | simp only [go_sem]) meek_bool ?_
  dsimp only [Tryz.f86, nums, Option.getD, List.append]
  unfold slices_ContainsFunc_Lbyte_byte at h
  refine bsome h fun v1 hv1 h => ?_
  simp only [go_sem, seval]
  refine callX_ 10000 (w_slices_IndexFunc_Lbyte_byte fv_p1_f hf_p1_f hv1) (by first | rfl | simp only [go_sem]) (by first | rfl | simp only [go_sem]) ?_
  simp only [go_sem, seval]
  refine ret_s (fun x => .bool x) h ?_
  first | rfl | simp only [go_sem, resAV, resAll, resOne, seval]
theorem w_method_letter {c : Int}   {r : Bool} (h : method_letter c = some r) : ACall Tryz.prog 88 [.int .u8 c] [] (.bool r) [] := by
  refine acallX 10000 hf88 ok88 (by first | rfl | simp only [go_sem]) meek_bool ?_
  dsimp only [Tryz.f88, nums, Option.getD, List.append]
  unfold method_letter at h
  simp only [go_sem, seval]
  refine rgJ 25 10000 (.inl rfl) (fun w => w [(2, .bool ((((decide ((97 : Int) ≤ c)) && (decide (c ≤ 122))) || ((decide ((65 : Int) ≤ c)) && (decide (c ≤ 90)))) || ((decide ((48 : Int) ≤ c)) && (decide (c ≤ 57)))))] []) (runX 10000 ?_) (fun Jg1 => ?_)
  · simp only [go_sem, seval]
    refine ret_s (fun x => .bool x) h ?_
    first | rfl | simp only [go_sem, resAV, resAll, resOne, seval]
  · simp only [go_sem, seval]
    refine grd_ (fun hb2 => ?_) (fun hb2 => ?_)
    · simp only [go_sem, seval]
      refine grd_ (fun hb3 => ?_) (fun hb3 => ?_)
      · simp only [go_sem, seval]
        refine grd_ (fun hb4 => ?_) (fun hb4 => ?_)
        · simp only [go_sem, seval]
          refine grd_ (fun hb5 => ?_) (fun hb5 => ?_)
          · simp only [go_sem, seval]
            refine grd_ (fun hb6 => ?_) (fun hb6 => ?_)
            · simp only [go_sem, seval]
              exact atJ (wkn Jg1 ⟨congrArg AV.bool (by first | rfl | (rw [hb2, hb3, hb4, hb5, hb6]; rfl) | (simp [hb2, hb3, hb4, hb5, hb6]; done) | simp_all), trivial⟩)
            · simp only [go_sem, seval]
              exact atJ (wkn Jg1 ⟨congrArg AV.bool (by first | rfl | (rw [hb2, hb3, hb4, hb5, hb6]; rfl) | (simp [hb2, hb3, hb4, hb5, hb6]; done) | simp_all), trivial⟩)
          · simp only [go_sem, seval]
            exact atJ (wkn Jg1 ⟨congrArg AV.bool (by first | rfl | (rw [hb2, hb3, hb4, hb5]; rfl) | (simp [hb2, hb3, hb4, hb5]; done) | simp_all), trivial⟩)
        · simp only [go_sem, seval]
          refine grd_ (fun hb7 => ?_) (fun hb7 => ?_)
          · simp only [go_sem, seval]
            exact atJ (wkn Jg1 ⟨congrArg AV.bool (by first | rfl | (rw [hb2, hb3, hb4, hb7]; rfl) | (simp [hb2, hb3, hb4, hb7]; done) | simp_all), trivial⟩)
          · simp only [go_sem, seval]
            exact atJ (wkn Jg1 ⟨congrArg AV.bool (by first | rfl | (rw [hb2, hb3, hb4, hb7]; rfl) | (simp [hb2, hb3, hb4, hb7]; done) | simp_all), trivial⟩)
      · simp only [go_sem, seval]
        exact atJ (wkn Jg1 ⟨congrArg AV.bool (by first | rfl | (rw [hb2, hb3]; rfl) | (simp [hb2, hb3]; done) | simp_all), trivial⟩)
    · simp only [go_sem, seval]
      refine grd_ (fun hb8 => ?_) (fun hb8 => ?_)
      · simp only [go_sem, seval]
        refine grd_ (fun hb9 => ?_) (fun hb9 => ?_)
        · simp only [go_sem, seval]
          refine grd_ (fun hb10 => ?_) (fun hb10 => ?_)
          · simp only [go_sem, seval]
            exact atJ (wkn Jg1 ⟨congrArg AV.bool (by first | rfl | (rw [hb2, hb8, hb9, hb10]; rfl) | (simp [hb2, hb8, hb9, hb10]; done) | simp_all), trivial⟩)
          · simp only [go_sem, seval]
            exact atJ (wkn Jg1 ⟨congrArg AV.bool (by first | rfl | (rw [hb2, hb8, hb9, hb10]; rfl) | (simp [hb2, hb8, hb9, hb10]; done) | simp_all), trivial⟩)
        · simp only [go_sem, seval]
          exact atJ (wkn Jg1 ⟨congrArg AV.bool (by first | rfl | (rw [hb2, hb8, hb9]; rfl) | (simp [hb2, hb8, hb9]; done) | simp_all), trivial⟩)
      · simp only [go_sem, seval]
        refine grd_ (fun hb11 => ?_) (fun hb11 => ?_)
        · simp only [go_sem, seval]
          exact atJ (wkn Jg1 ⟨congrArg AV.bool (by first | rfl | (rw [hb2, hb8, hb11]; rfl) | (simp [hb2, hb8, hb11]; done) | simp_all), trivial⟩)
        · simp only [go_sem, seval]
          exact atJ (wkn Jg1 ⟨congrArg AV.bool (by first | rfl | (rw [hb2, hb8, hb11]; rfl) | (simp [hb2, hb8, hb11]; done) | simp_all), trivial⟩)
theorem w_method_name_1 {c : Int}   {r : Bool} (h : method_name_1 c = some r) : ACall Tryz.prog 87 [.int .u8 c] [] (.bool r) [] := by
  refine acallX 10000 hf87 ok87 (by first | rfl | simp only [go_sem]) meek_bool ?_
  dsimp only [Tryz.f87, nums, Option.getD, List.append]
  unfold method_name_1 at h
  refine bsome h fun v1 hv1 h => ?_
  simp only [go_sem, seval]
  refine callX_ 10000 (w_method_letter  hv1) (by first | rfl | simp only [go_sem]) (by first | rfl | simp only [go_sem]) ?_
  simp only [go_sem, seval]
  refine ret_s (fun x => .bool x) h ?_
  first | rfl | simp only [go_sem, resAV, resAll, resOne, seval]
theorem w_method_name {s : Str}   {r : Bool} (h : method_name s = some r) : ACall Tryz.prog 66 [.str s] [] (.bool r) [] := by
  refine acallX 10000 hf66 ok66 (by first | rfl | simp only [go_sem]) meek_bool ?_
  dsimp only [Tryz.f66, nums, Option.getD, List.append]
  unfold method_name at h
  simp only [go_sem, seval]
  refine bsome h fun y1 hy1 h => ?_
  refine rgJ 19 10000 (.inl rfl) (fun w => w [(0, .str s), (14, .bool y1)] []) (runX 10000 ?_) (fun Jy1 => ?_)
  · clear hy1
    simp only [go_sem, seval]
    refine cnd_s 10000 h (fun hb h => ?_) (fun hb h => ?_)
    · simp only [go_sem, seval]
      refine ret_s (fun x => .bool x) h ?_
      first | rfl | simp only [go_sem, resAV, resAll, resOne, seval]
    · refine bsome h fun v10 hv10 h => ?_
      simp only [go_sem, seval, (bytes_e (P := Tryz.prog) (s := 9) (d := 112) (by rw [kd112]; rfl) (by rw [kd112]; rfl) s)]
      refine callX_ 10000 (w_slices_ContainsFunc_Lbyte_byte 87 (fun _ _ h => w_method_name_1 h) hv10) (by first | rfl | simp only [go_sem]) (by first | rfl | simp only [go_sem]) ?_
      simp only [go_sem, seval]
      refine ret_s (fun x => .bool x) h ?_
      first | rfl | simp only [go_sem, resAV, resAll, resOne, seval]
  · clear h
    have h := hy1
    simp only [go_sem, seval]
    refine grd_ (fun hb3 => ?_) (fun hb3 => ?_)
    · have h := ite_f hb3 h
      refine sIdx_s .i64 h fun v6 _ b4 e5 h => ?_
      simp only [go_sem, seval, b4, e5]
      refine grd_ (fun hb7 => ?_) (fun hb7 => ?_)
      · have h := ite_f hb7 h
        simp only [go_sem, seval, b4, e5]
        obtain rfl := Option.some.inj h
        exact atJ (wkn (Jy1) ⟨rfl, rfl, trivial⟩)
      · have h := ite_t hb7 h
        simp only [go_sem, seval]
        obtain rfl := Option.some.inj h
        exact atJ (wkn (Jy1) ⟨rfl, rfl, trivial⟩)
    · have h := ite_t hb3 h
      simp only [go_sem, seval]
      obtain rfl := Option.some.inj h
      exact atJ (wkn (Jy1) ⟨rfl, rfl, trivial⟩)
theorem w_internal_stringslite_HasSuffix {s : Str} {suffix : Str}   {r : Bool} (h : internal_stringslite_HasSuffix s suffix = some r) : ACall Tryz.prog 96 [.str s, .str suffix] [] (.bool r) [] := by
  refine acallX 10000 hf96 ok96 (by first | rfl | simp only [go_sem]) meek_bool ?_
  dsimp only [Tryz.f96, nums, Option.getD, List.append]
  unfold internal_stringslite_HasSuffix at h
  simp only [go_sem, seval]
  refine bsome h fun y1 hy1 h => ?_
  refine rgJ 21 10000 (.inl rfl) (fun w => w [(4, .bool y1)] []) (runX 10000 ?_) (fun Jy1 => ?_)
  · clear hy1
    simp only [go_sem, seval]
    refine ret_s (fun x => .bool x) h ?_
    first | rfl | simp only [go_sem, resAV, resAll, resOne, seval]
  · clear h
    have h := hy1
    simp only [go_sem, seval]
    refine grd_ (fun hb3 => ?_) (fun hb3 => ?_)
    · have h := ite_t hb3 h
      refine sub_s h fun v5 _ e4 h => ?_
      refine subS_s (some (.int .i64 v5)) none rfl rfl h fun v8 _ b6 e7 h => ?_
      simp only [go_sem, seval, e4, b6, e7]
      obtain rfl := Option.some.inj h
      exact atJ (wkn (Jy1) ⟨rfl, trivial⟩)
    · have h := ite_f hb3 h
      simp only [go_sem, seval]
      obtain rfl := Option.some.inj h
      exact atJ (wkn (Jy1) ⟨rfl, trivial⟩)
theorem w_strings_HasSuffix {s : Str} {suffix : Str}   {r : Bool} (h : strings_HasSuffix s suffix = some r) : ACall Tryz.prog 68 [.str s, .str suffix] [] (.bool r) [] := by
  refine acallX 10000 hf68 ok68 (by first | rfl | simp only [go_sem]) meek_bool ?_
  dsimp only [Tryz.f68, nums, Option.getD, List.append]
  unfold strings_HasSuffix at h
  refine bsome h fun v1 hv1 h => ?_
  simp only [go_sem, seval]
  refine callX_ 10000 (w_internal_stringslite_HasSuffix  hv1) (by first | rfl | simp only [go_sem]) (by first | rfl | simp only [go_sem]) ?_
  simp only [go_sem, seval]
  refine ret_s (fun x => .bool x) h ?_
  first | rfl | simp only [go_sem, resAV, resAll, resOne, seval]
theorem w_internal_stringslite_TrimSuffix {s : Str} {suffix : Str}   {r : Str} (h : internal_stringslite_TrimSuffix s suffix = some r) : ACall Tryz.prog 98 [.str s, .str suffix] [] (.str r) [] := by
  refine acallX 10000 hf98 ok98 (by first | rfl | simp only [go_sem]) meek_str ?_
  dsimp only [Tryz.f98, nums, Option.getD, List.append]
  unfold internal_stringslite_TrimSuffix at h
  refine bsome h fun v1 hv1 h => ?_
  simp only [go_sem, seval]
  refine callX_ 10000 (w_internal_stringslite_HasSuffix  hv1) (by first | rfl | simp only [go_sem]) (by first | rfl | simp only [go_sem]) ?_
  simp only [go_sem, seval]
  refine cnd_s 10000 h (fun hb h => ?_) (fun hb h => ?_)
  · refine sub_s h fun v3 _ e2 h => ?_
    refine subS_s none (some (.int .i64 v3)) rfl rfl h fun v6 _ b4 e5 h => ?_
    simp only [go_sem, seval, e2, b4, e5]
    refine ret_s (fun x => .str x) h ?_
    first | rfl | simp only [go_sem, resAV, resAll, resOne, seval]
  · simp only [go_sem, seval]
    refine ret_s (fun x => .str x) h ?_
    first | rfl | simp only [go_sem, resAV, resAll, resOne, seval]
theorem w_strings_TrimSuffix {s : Str} {suffix : Str}   {r : Str} (h : strings_TrimSuffix s suffix = some r) : ACall Tryz.prog 70 [.str s, .str suffix] [] (.str r) [] := by
  refine acallX 10000 hf70 ok70 (by first | rfl | simp only [go_sem]) meek_str ?_
  dsimp only [Tryz.f70, nums, Option.getD, List.append]
  unfold strings_TrimSuffix at h
  refine bsome h fun v1 hv1 h => ?_
  simp only [go_sem, seval]
  refine callX_ 10000 (w_internal_stringslite_TrimSuffix  hv1) (by first | rfl | simp only [go_sem]) (by first | rfl | simp only [go_sem]) ?_
  simp only [go_sem, seval]
  refine ret_s (fun x => .str x) h ?_
  first | rfl | simp only [go_sem, resAV, resAll, resOne, seval]
theorem w_method_Arity_1 {s : Str}   {r : Bool} (h : method_Arity_1 s = some r) : ACall Tryz.prog 71 [.str s] [] (.bool r) [] := by
  refine acallX 10000 hf71 ok71 (by first | rfl | simp only [go_sem]) meek_bool ?_
  dsimp only [Tryz.f71, nums, Option.getD, List.append]
  unfold method_Arity_1 at h
  refine bsome h fun v1 hv1 h => ?_
  simp only [go_sem, seval]
  refine callX_ 10000 (w_method_name  hv1) (by first | rfl | simp only [go_sem]) (by first | rfl | simp only [go_sem]) ?_
  simp only [go_sem, seval]
  refine ret_s (fun x => .bool x) h ?_
  first | rfl | simp only [go_sem, resAV, resAll, resOne, seval]
theorem w_method_Arity {sel : Str}   {r : (Int × Bool)} (h : method_Arity sel = some r) : ACall Tryz.prog 44 [.str sel] [] (.tup [.int .i64 r.1, .bool r.2]) [] := by
  refine acallX 10000 hf44 ok44 (by first | rfl | simp only [go_sem]) meek_tup ?_
  dsimp only [Tryz.f44, nums, Option.getD, List.append]
  unfold method_Arity at h
  simp only [go_sem, seval]
  refine blk_ 10000 ?_
  simp only [go_sem, seval]
  refine rgJ 41 10000 (.inl rfl) (fun w => w [(0, .str sel), (5, .bool ((sel == []) || (decide ((64 : Int) < (sel.length : Int)))))] []) (runX 10000 ?_) (fun Jg1 => ?_)
  · simp only [go_sem, seval]
    refine cnd_s 10000 h (fun hb h => ?_) (fun hb h => ?_)
    · simp only [go_sem, seval]
      refine ret_s (fun x => .tup [.int .i64 x.1, .bool x.2]) h ?_
      first | rfl | simp only [go_sem, resAV, resAll, resOne, seval]
    · refine bsome h fun v2 hv2 h => ?_
      simp only [go_sem, seval]
      refine callX_ 10000 (w_method_name  hv2) (by first | rfl | simp only [go_sem]) (by first | rfl | simp only [go_sem]) ?_
      simp only [go_sem, seval]
      refine cnd_s 10000 h (fun hb h => ?_) (fun hb h => ?_)
      · simp only [go_sem, seval]
        refine ret_s (fun x => .tup [.int .i64 x.1, .bool x.2]) h ?_
        first | rfl | simp only [go_sem, resAV, resAll, resOne, seval]
      · simp only [go_sem, seval]
        refine bsome h fun y3 hy3 h => ?_
        refine rgJ 41 10000 (.inl rfl) (fun w => w [(0, .str sel), (16, .bool y3)] []) (runX 10000 ?_) (fun Jy3 => ?_)
        · clear hy3
          simp only [go_sem, seval]
          refine cnd_s 10000 h (fun hb h => ?_) (fun hb h => ?_)
          · simp only [go_sem, seval]
            refine ret_s (fun x => .tup [.int .i64 x.1, .bool x.2]) h ?_
            first | rfl | simp only [go_sem, resAV, resAll, resOne, seval]
          · refine bsome h fun v7 hv7 h => ?_
            simp only [go_sem, seval]
            refine callX_ 10000 (w_strings_HasSuffix  hv7) (by first | rfl | simp only [go_sem]) (by first | rfl | simp only [go_sem]) ?_
            simp only [go_sem, seval]
            refine cnd_s 10000 h (fun hb h => ?_) (fun hb h => ?_)
            · simp only [go_sem, seval]
              refine ret_s (fun x => .tup [.int .i64 x.1, .bool x.2]) h ?_
              first | rfl | simp only [go_sem, resAV, resAll, resOne, seval]
            · refine bsome h fun v8 hv8 h => ?_
              simp only [go_sem, seval]
              refine callX_ 10000 (w_strings_TrimSuffix  hv8) (by first | rfl | simp only [go_sem]) (by first | rfl | simp only [go_sem]) ?_
              refine bsome h fun v9 hv9 h => ?_
              simp only [go_sem, seval]
              refine callX_ 10000 (w_strings_Split  hv9) (by first | rfl | simp only [go_sem]) (by first | rfl | simp only [go_sem]) ?_
              simp only [go_sem, seval]
              refine bsome h fun y10 hy10 h => ?_
              refine rgJ 41 10000 (.inl rfl) (fun w => w [(4, .sl none (List.map AV.str v9)), (38, .bool y10)] []) (runX 10000 ?_) (fun Jy10 => ?_)
              · clear hy10
                simp only [go_sem, seval]
                refine cnd_s 10000 h (fun hb h => ?_) (fun hb h => ?_)
                · simp only [go_sem, seval]
                  refine ret_s (fun x => .tup [.int .i64 x.1, .bool x.2]) h ?_
                  first | rfl | simp only [go_sem, resAV, resAll, resOne, seval]
                · simp only [go_sem, seval]
                  refine ret_s (fun x => .tup [.int .i64 x.1, .bool x.2]) h ?_
                  first | rfl | simp only [go_sem, resAV, resAll, resOne, seval]
              · clear h
                have h := hy10
                simp only [go_sem, seval]
                refine grd_ (fun hb12 => ?_) (fun hb12 => ?_)
                · have h := ite_f hb12 h
                  refine bsome h fun v13 hv13 h => ?_
                  simp only [go_sem, seval]
                  refine callX_ 10000 (w_slices_ContainsFunc_Lstring_string 71 (fun _ _ h => w_method_Arity_1 h) hv13) (by first | rfl | simp only [go_sem]) (by first | rfl | simp only [go_sem]) ?_
                  simp only [go_sem, seval]
                  obtain rfl := Option.some.inj h
                  exact atJ (wkn (Jy10) ⟨rfl, rfl, trivial⟩)
                · have h := ite_t hb12 h
                  simp only [go_sem, seval]
                  obtain rfl := Option.some.inj h
                  exact atJ (wkn (Jy10) ⟨rfl, rfl, trivial⟩)
        · clear h
          have h := hy3
          refine bsome h fun v5 hv5 h => ?_
          simp only [go_sem, seval]
          refine callX_ 10000 (w_strings_Trim  hv5) (by first | rfl | simp only [go_sem]) (by first | rfl | simp only [go_sem]) ?_
          simp only [go_sem, seval]
          refine grd_ (fun hb6 => ?_) (fun hb6 => ?_)
          · have h := ite_t hb6 h
            simp only [go_sem, seval]
            obtain rfl := Option.some.inj h
            exact atJ (wkn (Jy3) ⟨rfl, rfl, trivial⟩)
          · have h := ite_f hb6 h
            simp only [go_sem, seval]
            obtain rfl := Option.some.inj h
            exact atJ (wkn (Jy3) ⟨rfl, rfl, trivial⟩)
  · simp only [go_sem, seval]
    refine grd_ (fun hb14 => ?_) (fun hb14 => ?_)
    · simp only [go_sem, seval]
      exact atJ (wkn Jg1 ⟨rfl, congrArg AV.bool (by first | rfl | (rw [hb14]; rfl) | (simp [hb14]; done) | simp_all), trivial⟩)
    · simp only [go_sem, seval]
      exact atJ (wkn Jg1 ⟨rfl, congrArg AV.bool (by first | rfl | (rw [hb14]; rfl) | (simp [hb14]; done) | simp_all), trivial⟩)
theorem w_tree_sends {sel : Str} {n : Int}   {r : Bool} (h : tree_sends sel n = some r) : ACall Tryz.prog 21 [.str sel, .int .i64 n] [] (.bool r) [] := by
  refine acallX 10000 hf21 ok21 (by first | rfl | simp only [go_sem]) meek_bool ?_
  dsimp only [Tryz.f21, nums, Option.getD, List.append]
  unfold tree_sends at h
  refine bsome h fun v1 hv1 h => ?_
  simp only [go_sem, seval]
  refine callX_ 10000 (w_method_Arity  hv1) (by first | rfl | simp only [go_sem]) (by first | rfl | simp only [go_sem]) ?_
  simp only [go_sem, seval]
  refine rgJ 18 10000 (.inl rfl) (fun w => w [(4, .bool (v1.2 && (decide (v1.1 = n))))] []) (runX 10000 ?_) (fun Jg2 => ?_)
  · simp only [go_sem, seval]
    refine ret_s (fun x => .bool x) h ?_
    first | rfl | simp only [go_sem, resAV, resAll, resOne, seval]
  · simp only [go_sem, seval]
    refine grd_ (fun hb3 => ?_) (fun hb3 => ?_)
    · simp only [go_sem, seval]
      exact atJ (wkn Jg2 ⟨congrArg AV.bool (by first | rfl | (rw [hb3]; rfl) | (simp [hb3]; done) | simp_all), trivial⟩)
    · simp only [go_sem, seval]
      exact atJ (wkn Jg2 ⟨congrArg AV.bool (by first | rfl | (rw [hb3]; rfl) | (simp [hb3]; done) | simp_all), trivial⟩)
theorem w_slices_Index_Lstring_string {s : (List Str)} {p1_v : Str}   {r : Int} (h : slices_Index_Lstring_string s p1_v = some r) : ACall Tryz.prog 72 [.sl none (List.map AV.str s), .str p1_v] [] (.int .i64 r) [] := by
  refine acallX 10000 hf72 ok72 (by first | rfl | simp only [go_sem]) meek_int ?_
  dsimp only [Tryz.f72, nums, Option.getD, List.append]
  unfold slices_Index_Lstring_string at h
  simp only [go_sem, seval]
  refine letK_s h fun K2 hK2 h => ?_
  refine blkJ 19 10000 (fun w => K2 () = some r → w [] []) (fun  h => runX 10000 ?_) (fun JK2 => ?_)
  · subst hK2
    dsimp only at h
    simp only [go_sem, seval]
    refine ret_s (fun x => .int .i64 x) h ?_
    first | rfl | simp only [go_sem, resAV, resAll, resOne, seval]
  · clear hK2
    simp only [go_sem, seval]
    refine lpJ 19 fuel (fun q1 w => ∀ (v3 : Int), slices_Index_Lstring_string_l1 s p1_v K2 q1 v3 = some r → w [(0, .sl none (List.map AV.str s)), (1, .str p1_v), (7, .int .i64 (s.length : Int)), (8, .int .i64 v3)] []) (fun w _ h => nomatch h) (fun q1 ih1 v3 h => ?_) (fun L1 => ?_)
    · unfold slices_Index_Lstring_string_l1 at h
      refine runL 10000 ?_
      simp only [go_sem, seval]
      refine cnd_s 10000 h (fun hb h => ?_) (fun hb h => ?_)
      · simp only [go_sem, seval]
        refine blk_ 10000 ?_
        refine lAt_s AV.str none .i64 ⟨9, 1, false, 16⟩ (fun _ => rfl) h fun v6 _ b4 e5 h => ?_
        simp only [go_sem, seval, b4, e5]
        refine cnd_s 10000 h (fun hb h => ?_) (fun hb h => ?_)
        · simp only [go_sem, seval]
          refine ret_s (fun x => .int .i64 x) h ?_
          first | rfl | simp only [go_sem, resAV, resAll, resOne, seval]
        · refine add_s h fun v8 _ e7 h => ?_
          simp only [go_sem, seval, e7]
          exact lp_back (ih1 v8 h) ⟨rfl, rfl, rfl, rfl, trivial⟩
      · simp only [go_sem, seval]
        exact atJ (wkn (JK2  h) trivial)
    · exact lp_back (L1 0 h) ⟨rfl, rfl, rfl, rfl, trivial⟩
theorem w_slices_Contains_Lstring_string {s : (List Str)} {p1_v : Str}   {r : Bool} (h : slices_Contains_Lstring_string s p1_v = some r) : ACall Tryz.prog 46 [.sl none (List.map AV.str s), .str p1_v] [] (.bool r) [] := by
  refine acallX 10000 hf46 ok46 (by first | rfl | simp only [go_sem]) meek_bool ?_
  dsimp only [Tryz.f46, nums, Option.getD, List.append]
  unfold slices_Contains_Lstring_string at h
  refine bsome h fun v1 hv1 h => ?_
  simp only [go_sem, seval]
  refine callX_ 10000 (w_slices_Index_Lstring_string  hv1) (by first | rfl | simp only [go_sem]) (by first | rfl | simp only [go_sem]) ?_
  simp only [go_sem, seval]
  refine ret_s (fun x => .bool x) h ?_
  first | rfl | simp only [go_sem, resAV, resAll, resOne, seval]
theorem w_internal_stringslite_IndexByte {s : Str} {c : Int}   {r : Int} (h : internal_stringslite_IndexByte s c = some r) : ACall Tryz.prog 113 [.str s, .int .u8 c] [] (.int .i64 r) [] := by
  refine acallX 10000 hf113 ok113 (by first | rfl | simp only [go_sem]) meek_int ?_
  dsimp only [Tryz.f113, nums, Option.getD, List.append]
  unfold internal_stringslite_IndexByte at h
  refine bsome h fun v1 hv1 h => ?_
  simp only [go_sem, seval]
  refine callX_ 10000 (w_bytealg_idx  hv1) (by first | rfl | simp only [go_sem]) (by first | rfl | simp only [go_sem]) ?_
  simp only [go_sem, seval]
  refine ret_s (fun x => .int .i64 x) h ?_
  first | rfl | simp only [go_sem, resAV, resAll, resOne, seval]
theorem w_strings_IndexByte {s : Str} {c : Int}   {r : Int} (h : strings_IndexByte s c = some r) : ACall Tryz.prog 83 [.str s, .int .u8 c] [] (.int .i64 r) [] := by
  refine acallX 10000 hf83 ok83 (by first | rfl | simp only [go_sem]) meek_int ?_
  dsimp only [Tryz.f83, nums, Option.getD, List.append]
  unfold strings_IndexByte at h
  refine bsome h fun v1 hv1 h => ?_
  simp only [go_sem, seval]
  refine callX_ 10000 (w_internal_stringslite_IndexByte  hv1) (by first | rfl | simp only [go_sem]) (by first | rfl | simp only [go_sem]) ?_
  simp only [go_sem, seval]
  refine ret_s (fun x => .int .i64 x) h ?_
  first | rfl | simp only [go_sem, resAV, resAll, resOne, seval]
theorem w_tree_named {s : Str} {first : Str}   {r : Bool} (h : tree_named s first = some r) : ACall Tryz.prog 61 [.str s, .str first] [] (.bool r) [] := by
  refine acallX 10000 hf61 ok61 (by first | rfl | simp only [go_sem]) meek_bool ?_
  dsimp only [Tryz.f61, nums, Option.getD, List.append]
  unfold tree_named at h
  simp only [go_sem, seval]
  refine bsome h fun y1 hy1 h => ?_
  refine rgJ 24 10000 (.inl rfl) (fun w => w [(4, .bool y1)] []) (runX 10000 ?_) (fun Jy1 => ?_)
  · clear hy1
    simp only [go_sem, seval]
    refine ret_s (fun x => .bool x) h ?_
    first | rfl | simp only [go_sem, resAV, resAll, resOne, seval]
  · clear h
    have h := hy1
    simp only [go_sem, seval]
    refine grd_ (fun hb3 => ?_) (fun hb3 => ?_)
    · have h := ite_t hb3 h
      simp only [go_sem, seval]
      refine grd_ (fun hb4 => ?_) (fun hb4 => ?_)
      · have h := ite_t hb4 h
        refine sIdx_s .i64 h fun v7 _ b5 e6 h => ?_
        refine bsome h fun v8 hv8 h => ?_
        simp only [go_sem, seval, b5, e6]
        refine callX_ 10000 (w_strings_IndexByte  hv8) (by first | rfl | simp only [go_sem]) (by first | rfl | simp only [go_sem]) ?_
        simp only [go_sem, seval]
        refine grd_ (fun hb9 => ?_) (fun hb9 => ?_)
        · have h := ite_t hb9 h
          refine bsome h fun v10 hv10 h => ?_
          simp only [go_sem, seval]
          refine callX_ 10000 (w_strings_Trim  hv10) (by first | rfl | simp only [go_sem]) (by first | rfl | simp only [go_sem]) ?_
          simp only [go_sem, seval]
          obtain rfl := Option.some.inj h
          exact atJ (wkn (Jy1) ⟨rfl, trivial⟩)
        · have h := ite_f hb9 h
          simp only [go_sem, seval]
          obtain rfl := Option.some.inj h
          exact atJ (wkn (Jy1) ⟨rfl, trivial⟩)
      · have h := ite_f hb4 h
        simp only [go_sem, seval]
        obtain rfl := Option.some.inj h
        exact atJ (wkn (Jy1) ⟨rfl, trivial⟩)
    · have h := ite_f hb3 h
      simp only [go_sem, seval]
      obtain rfl := Option.some.inj h
      exact atJ (wkn (Jy1) ⟨rfl, trivial⟩)
theorem w_tree_variable {s : Str}   {r : Bool} (h : tree_variable s = some r) : ACall Tryz.prog 45 [.str s] [] (.bool r) [] := by
  refine acallX 10000 hf45 ok45 (by first | rfl | simp only [go_sem]) meek_bool ?_
  dsimp only [Tryz.f45, nums, Option.getD, List.append]
  unfold tree_variable at h
  simp only [go_sem, seval]
  refine bsome h fun y1 hy1 h => ?_
  refine rgJ 11 10000 (.inl rfl) (fun w => w [(2, .bool y1)] []) (runX 10000 ?_) (fun Jy1 => ?_)
  · clear hy1
    simp only [go_sem, seval]
    refine ret_s (fun x => .bool x) h ?_
    first | rfl | simp only [go_sem, resAV, resAll, resOne, seval]
  · clear h
    have h := hy1
    refine bsome h fun v3 hv3 h => ?_
    simp only [go_sem, seval]
    refine callX_ 10000 (w_tree_named  hv3) (by first | rfl | simp only [go_sem]) (by first | rfl | simp only [go_sem]) ?_
    simp only [go_sem, seval]
    refine grd_ (fun hb4 => ?_) (fun hb4 => ?_)
    · have h := ite_t hb4 h
      refine bsome h fun v5 hv5 h => ?_
      simp only [go_sem, seval]
      refine callX_ 10000 (w_slices_Contains_Lstring_string  hv5) (by first | rfl | simp only [go_sem]) (by first | rfl | simp only [go_sem]) ?_
      simp only [go_sem, seval]
      obtain rfl := Option.some.inj h
      exact atJ (wkn (Jy1) ⟨rfl, trivial⟩)
    · have h := ite_f hb4 h
      simp only [go_sem, seval]
      obtain rfl := Option.some.inj h
      exact atJ (wkn (Jy1) ⟨rfl, trivial⟩)
theorem w_tree_unlike {l : (List Str)}   {r : Bool} (h : tree_unlike l = some r) : ACall Tryz.prog 22 [.sl none (List.map AV.str l)] [] (.bool r) [] := by
  refine acallX 10000 hf22 ok22 (by first | rfl | simp only [go_sem]) meek_bool ?_
  dsimp only [Tryz.f22, nums, Option.getD, List.append]
  unfold tree_unlike at h
  simp only [go_sem, seval]
  refine letK_s h fun K2 hK2 h => ?_
  refine blkJ 23 10000 (fun w => K2 () = some r → w [] []) (fun  h => runX 10000 ?_) (fun JK2 => ?_)
  · subst hK2
    dsimp only at h
    simp only [go_sem, seval]
    refine ret_s (fun x => .bool x) h ?_
    first | rfl | simp only [go_sem, resAV, resAll, resOne, seval]
  · clear hK2
    simp only [go_sem, seval]
    refine lpJ 23 fuel (fun q1 w => ∀ (v3 : Int), tree_unlike_l1 l K2 q1 v3 = some r → w [(0, .sl none (List.map AV.str l)), (5, .sl none (List.map AV.str l)), (6, .int .i64 (l.length : Int)), (7, .int .i64 v3)] []) (fun w _ h => nomatch h) (fun q1 ih1 v3 h => ?_) (fun L1 => ?_)
    · unfold tree_unlike_l1 at h
      refine runL 10000 ?_
      simp only [go_sem, seval]
      refine cnd_s 10000 h (fun hb h => ?_) (fun hb h => ?_)
      · simp only [go_sem, seval]
        refine blk_ 10000 ?_
        refine lAt_s AV.str none .i64 ⟨9, 1, false, 16⟩ (fun _ => rfl) h fun v6 _ b4 e5 h => ?_
        simp only [go_sem, seval, b4, e5]
        refine bsome h fun y7 hy7 h => ?_
        refine rgJ 23 10000 (.inl rfl) (fun w => w [(0, .sl none (List.map AV.str l)), (5, .sl none (List.map AV.str l)), (6, .int .i64 (l.length : Int)), (7, .int .i64 v3), (21, .bool y7)] []) (runX 10000 ?_) (fun Jy7 => ?_)
        · clear hy7
          simp only [go_sem, seval]
          refine cnd_s 10000 h (fun hb h => ?_) (fun hb h => ?_)
          · simp only [go_sem, seval]
            refine ret_s (fun x => .bool x) h ?_
            first | rfl | simp only [go_sem, resAV, resAll, resOne, seval]
          · refine add_s h fun v16 _ e15 h => ?_
            simp only [go_sem, seval, e15]
            exact lp_back (ih1 v16 h) ⟨rfl, rfl, rfl, rfl, trivial⟩
        · clear h
          have h := hy7
          refine bsome h fun v9 hv9 h => ?_
          simp only [go_sem, seval]
          refine callX_ 10000 (w_tree_variable  hv9) (by first | rfl | simp only [go_sem]) (by first | rfl | simp only [go_sem]) ?_
          simp only [go_sem, seval]
          refine grd_ (fun hb10 => ?_) (fun hb10 => ?_)
          · have h := ite_f hb10 h
            refine subL_s AV.str none ⟨9, 1, false, 16⟩ (fun _ => rfl) none (some (.int .i64 v3)) rfl rfl h fun v13 _ b11 e12 h => ?_
            refine bsome h fun v14 hv14 h => ?_
            simp only [go_sem, seval, b11, e12]
            refine callX_ 10000 (w_slices_Contains_Lstring_string  hv14) (by first | rfl | simp only [go_sem]) (by first | rfl | simp only [go_sem]) ?_
            simp only [go_sem, seval]
            obtain rfl := Option.some.inj h
            exact atJ (wkn (Jy7) ⟨rfl, rfl, rfl, rfl, rfl, trivial⟩)
          · have h := ite_t hb10 h
            simp only [go_sem, seval]
            obtain rfl := Option.some.inj h
            exact atJ (wkn (Jy7) ⟨rfl, rfl, rfl, rfl, rfl, trivial⟩)
      · simp only [go_sem, seval]
        exact atJ (wkn (JK2  h) trivial)
    · exact lp_back (L1 0 h) ⟨rfl, rfl, rfl, rfl, trivial⟩
theorem w_tree_Node_bare {n : tree_Node} {text : Bool} {names : Bool} {kids : Bool}   {r : Bool} (h : tree_Node_bare n text names kids = some r) : ACall Tryz.prog 73 [enc_tree_Node n, .bool text, .bool names, .bool kids] [] (.bool r) [] := by
  refine acallX 10000 hf73 ok73 (by first | rfl | simp only [go_sem]) meek_bool ?_
  dsimp only [Tryz.f73, nums, Option.getD, List.append]
  unfold tree_Node_bare at h
  simp only [go_sem, seval]
  refine rgJ 38 10000 (.inl rfl) (fun w => w [(8, .bool (((text || (n.S == [])) && (names || ((decide (n.N = 0)) && (decide ((n.L.length : Int) = 0))))) && (kids || (decide ((n.Kids.length : Int) = 0)))))] [some [.int .u8 n.K, .str n.S, .int .i64 n.N, .sl none (List.map AV.str n.L), .sl none (List.map (AV.int .i64) n.Kids)]]) (runX 10000 ?_) (fun Jg1 => ?_)
  · simp only [go_sem, seval]
    refine ret_s (fun x => .bool x) h ?_
    first | rfl | simp only [go_sem, resAV, resAll, resOne, seval]
  · simp only [go_sem, seval]
    refine grd_ (fun hb2 => ?_) (fun hb2 => ?_)
    · simp only [go_sem, seval]
      refine grd_ (fun hb3 => ?_) (fun hb3 => ?_)
      · simp only [go_sem, seval]
        refine grd_ (fun hb4 => ?_) (fun hb4 => ?_)
        · simp only [go_sem, seval]
          refine grd_ (fun hb5 => ?_) (fun hb5 => ?_)
          · simp only [go_sem, seval]
            refine grd_ (fun hb6 => ?_) (fun hb6 => ?_)
            · simp only [go_sem, seval]
              refine grd_ (fun hb7 => ?_) (fun hb7 => ?_)
              · simp only [go_sem, seval]
                exact atJ (wkn Jg1 ⟨congrArg AV.bool (by first | rfl | (rw [hb2, hb3, hb4, hb5, hb6, hb7]; rfl) | (simp [hb2, hb3, hb4, hb5, hb6, hb7]; done) | simp_all), trivial⟩)
              · simp only [go_sem, seval]
                exact atJ (wkn Jg1 ⟨congrArg AV.bool (by first | rfl | (rw [hb2, hb3, hb4, hb5, hb6, hb7]; rfl) | (simp [hb2, hb3, hb4, hb5, hb6, hb7]; done) | simp_all), trivial⟩)
            · simp only [go_sem, seval]
              exact atJ (wkn Jg1 ⟨congrArg AV.bool (by first | rfl | (rw [hb2, hb3, hb4, hb5, hb6]; rfl) | (simp [hb2, hb3, hb4, hb5, hb6]; done) | simp_all), trivial⟩)
          · simp only [go_sem, seval]
            exact atJ (wkn Jg1 ⟨congrArg AV.bool (by first | rfl | (rw [hb2, hb3, hb4, hb5]; rfl) | (simp [hb2, hb3, hb4, hb5]; done) | simp_all), trivial⟩)
        · simp only [go_sem, seval]
          refine grd_ (fun hb8 => ?_) (fun hb8 => ?_)
          · simp only [go_sem, seval]
            exact atJ (wkn Jg1 ⟨congrArg AV.bool (by first | rfl | (rw [hb2, hb3, hb4, hb8]; rfl) | (simp [hb2, hb3, hb4, hb8]; done) | simp_all), trivial⟩)
          · simp only [go_sem, seval]
            exact atJ (wkn Jg1 ⟨congrArg AV.bool (by first | rfl | (rw [hb2, hb3, hb4, hb8]; rfl) | (simp [hb2, hb3, hb4, hb8]; done) | simp_all), trivial⟩)
      · simp only [go_sem, seval]
        exact atJ (wkn Jg1 ⟨congrArg AV.bool (by first | rfl | (rw [hb2, hb3]; rfl) | (simp [hb2, hb3]; done) | simp_all), trivial⟩)
    · simp only [go_sem, seval]
      refine grd_ (fun hb9 => ?_) (fun hb9 => ?_)
      · simp only [go_sem, seval]
        refine grd_ (fun hb10 => ?_) (fun hb10 => ?_)
        · simp only [go_sem, seval]
          refine grd_ (fun hb11 => ?_) (fun hb11 => ?_)
          · simp only [go_sem, seval]
            refine grd_ (fun hb12 => ?_) (fun hb12 => ?_)
            · simp only [go_sem, seval]
              exact atJ (wkn Jg1 ⟨congrArg AV.bool (by first | rfl | (rw [hb2, hb9, hb10, hb11, hb12]; rfl) | (simp [hb2, hb9, hb10, hb11, hb12]; done) | simp_all), trivial⟩)
            · simp only [go_sem, seval]
              exact atJ (wkn Jg1 ⟨congrArg AV.bool (by first | rfl | (rw [hb2, hb9, hb10, hb11, hb12]; rfl) | (simp [hb2, hb9, hb10, hb11, hb12]; done) | simp_all), trivial⟩)
          · simp only [go_sem, seval]
            exact atJ (wkn Jg1 ⟨congrArg AV.bool (by first | rfl | (rw [hb2, hb9, hb10, hb11]; rfl) | (simp [hb2, hb9, hb10, hb11]; done) | simp_all), trivial⟩)
        · simp only [go_sem, seval]
          exact atJ (wkn Jg1 ⟨congrArg AV.bool (by first | rfl | (rw [hb2, hb9, hb10]; rfl) | (simp [hb2, hb9, hb10]; done) | simp_all), trivial⟩)
      · simp only [go_sem, seval]
        refine grd_ (fun hb13 => ?_) (fun hb13 => ?_)
        · simp only [go_sem, seval]
          exact atJ (wkn Jg1 ⟨congrArg AV.bool (by first | rfl | (rw [hb2, hb9, hb13]; rfl) | (simp [hb2, hb9, hb13]; done) | simp_all), trivial⟩)
        · simp only [go_sem, seval]
          exact atJ (wkn Jg1 ⟨congrArg AV.bool (by first | rfl | (rw [hb2, hb9, hb13]; rfl) | (simp [hb2, hb9, hb13]; done) | simp_all), trivial⟩)
theorem w_internal_stringslite_HasPrefix {s : Str} {prefix_ : Str}   {r : Bool} (h : internal_stringslite_HasPrefix s prefix_ = some r) : ACall Tryz.prog 146 [.str s, .str prefix_] [] (.bool r) [] := by
  refine acallX 10000 hf146 ok146 (by first | rfl | simp only [go_sem]) meek_bool ?_
  dsimp only [Tryz.f146, nums, Option.getD, List.append]
  unfold internal_stringslite_HasPrefix at h
  simp only [go_sem, seval]
  refine bsome h fun y1 hy1 h => ?_
  refine rgJ 18 10000 (.inl rfl) (fun w => w [(4, .bool y1)] []) (runX 10000 ?_) (fun Jy1 => ?_)
  · clear hy1
    simp only [go_sem, seval]
    refine ret_s (fun x => .bool x) h ?_
    first | rfl | simp only [go_sem, resAV, resAll, resOne, seval]
  · clear h
    have h := hy1
    simp only [go_sem, seval]
    refine grd_ (fun hb3 => ?_) (fun hb3 => ?_)
    · have h := ite_t hb3 h
      refine subS_s none (some (.int .i64 (prefix_.length : Int))) rfl rfl h fun v6 _ b4 e5 h => ?_
      simp only [go_sem, seval, b4, e5]
      obtain rfl := Option.some.inj h
      exact atJ (wkn (Jy1) ⟨rfl, trivial⟩)
    · have h := ite_f hb3 h
      simp only [go_sem, seval]
      obtain rfl := Option.some.inj h
      exact atJ (wkn (Jy1) ⟨rfl, trivial⟩)
theorem w_internal_stringslite_CutPrefix {s : Str} {prefix_ : Str}   {r : (Str × Bool)} (h : internal_stringslite_CutPrefix s prefix_ = some r) : ACall Tryz.prog 144 [.str s, .str prefix_] [] (.tup [.str r.1, .bool r.2]) [] := by
  refine acallX 10000 hf144 ok144 (by first | rfl | simp only [go_sem]) meek_tup ?_
  dsimp only [Tryz.f144, nums, Option.getD, List.append]
  unfold internal_stringslite_CutPrefix at h
  refine bsome h fun v1 hv1 h => ?_
  simp only [go_sem, seval]
  refine callX_ 10000 (w_internal_stringslite_HasPrefix  hv1) (by first | rfl | simp only [go_sem]) (by first | rfl | simp only [go_sem]) ?_
  simp only [go_sem, seval]
  refine cnd_s 10000 h (fun hb h => ?_) (fun hb h => ?_)
  · simp only [go_sem, seval]
    refine ret_s (fun x => .tup [.str x.1, .bool x.2]) h ?_
    first | rfl | simp only [go_sem, resAV, resAll, resOne, seval]
  · refine subS_s (some (.int .i64 (prefix_.length : Int))) none rfl rfl h fun v4 _ b2 e3 h => ?_
    simp only [go_sem, seval, b2, e3]
    refine ret_s (fun x => .tup [.str x.1, .bool x.2]) h ?_
    first | rfl | simp only [go_sem, resAV, resAll, resOne, seval]
theorem w_strings_CutPrefix {s : Str} {prefix_ : Str}   {r : (Str × Bool)} (h : strings_CutPrefix s prefix_ = some r) : ACall Tryz.prog 137 [.str s, .str prefix_] [] (.tup [.str r.1, .bool r.2]) [] := by
  refine acallX 10000 hf137 ok137 (by first | rfl | simp only [go_sem]) meek_tup ?_
  dsimp only [Tryz.f137, nums, Option.getD, List.append]
  unfold strings_CutPrefix at h
  refine bsome h fun v1 hv1 h => ?_
  simp only [go_sem, seval]
  refine callX_ 10000 (w_internal_stringslite_CutPrefix  hv1) (by first | rfl | simp only [go_sem]) (by first | rfl | simp only [go_sem]) ?_
  simp only [go_sem, seval]
  refine ret_s (fun x => .tup [.str x.1, .bool x.2]) h ?_
  first | rfl | simp only [go_sem, resAV, resAll, resOne, seval]
theorem w_large_digits {s : Str}   {r : (Str × Bool × Bool)} (h : large_digits s = some r) : ACall Tryz.prog 122 [.str s] [] (.tup [.str r.1, .bool r.2.1, .bool r.2.2]) [] := by
  refine acallX 10000 hf122 ok122 (by first | rfl | simp only [go_sem]) meek_tup ?_
  dsimp only [Tryz.f122, nums, Option.getD, List.append]
  unfold large_digits at h
  refine bsome h fun v1 hv1 h => ?_
  simp only [go_sem, seval]
  refine callX_ 10000 (w_strings_CutPrefix  hv1) (by first | rfl | simp only [go_sem]) (by first | rfl | simp only [go_sem]) ?_
  simp only [go_sem, seval]
  refine bsome h fun y2 hy2 h => ?_
  refine rgJ 43 10000 (.inl rfl) (fun w => w [(5, .str v1.1), (6, .bool v1.2), (40, .bool y2)] []) (runX 10000 ?_) (fun Jy2 => ?_)
  · clear hy2
    simp only [go_sem, seval]
    refine cnd_s 10000 h (fun hb h => ?_) (fun hb h => ?_)
    · simp only [go_sem, seval]
      refine ret_s (fun x => .tup [.str x.1, .bool x.2.1, .bool x.2.2]) h ?_
      first | rfl | simp only [go_sem, resAV, resAll, resOne, seval]
    · simp only [go_sem, seval]
      refine ret_s (fun x => .tup [.str x.1, .bool x.2.1, .bool x.2.2]) h ?_
      first | rfl | simp only [go_sem, resAV, resAll, resOne, seval]
  · clear h
    have h := hy2
    simp only [go_sem, seval]
    refine grd_ (fun hb4 => ?_) (fun hb4 => ?_)
    · have h := ite_f hb4 h
      simp only [go_sem, seval]
      refine grd_ (fun hb5 => ?_) (fun hb5 => ?_)
      · have h := ite_f hb5 h
        simp only [go_sem, seval]
        refine grd_ (fun hb6 => ?_) (fun hb6 => ?_)
        · have h := ite_t hb6 h
          refine sIdx_s .i64 h fun v9 _ b7 e8 h => ?_
          simp only [go_sem, seval, b7, e8]
          refine grd_ (fun hb10 => ?_) (fun hb10 => ?_)
          · have h := ite_f hb10 h
            simp only [go_sem, seval]
            refine grd_ (fun hb11 => ?_) (fun hb11 => ?_)
            · have h := ite_t hb11 h
              simp only [go_sem, seval]
              refine grd_ (fun hb12 => ?_) (fun hb12 => ?_)
              · have h := ite_f hb12 h
                refine bsome h fun v13 hv13 h => ?_
                simp only [go_sem, seval]
                refine callX_ 10000 (w_strings_Trim  hv13) (by first | rfl | simp only [go_sem]) (by first | rfl | simp only [go_sem]) ?_
                simp only [go_sem, seval]
                obtain rfl := Option.some.inj h
                exact atJ (wkn (Jy2) ⟨rfl, rfl, rfl, trivial⟩)
              · have h := ite_t hb12 h
                simp only [go_sem, seval]
                obtain rfl := Option.some.inj h
                exact atJ (wkn (Jy2) ⟨rfl, rfl, rfl, trivial⟩)
            · have h := ite_f hb11 h
              refine bsome h fun v14 hv14 h => ?_
              simp only [go_sem, seval]
              refine callX_ 10000 (w_strings_Trim  hv14) (by first | rfl | simp only [go_sem]) (by first | rfl | simp only [go_sem]) ?_
              simp only [go_sem, seval]
              obtain rfl := Option.some.inj h
              exact atJ (wkn (Jy2) ⟨rfl, rfl, rfl, trivial⟩)
          · have h := ite_t hb10 h
            simp only [go_sem, seval]
            obtain rfl := Option.some.inj h
            exact atJ (wkn (Jy2) ⟨rfl, rfl, rfl, trivial⟩)
        · have h := ite_f hb6 h
          simp only [go_sem, seval]
          refine grd_ (fun hb15 => ?_) (fun hb15 => ?_)
          · have h := ite_t hb15 h
            simp only [go_sem, seval]
            refine grd_ (fun hb16 => ?_) (fun hb16 => ?_)
            · have h := ite_f hb16 h
              refine bsome h fun v17 hv17 h => ?_
              simp only [go_sem, seval]
              refine callX_ 10000 (w_strings_Trim  hv17) (by first | rfl | simp only [go_sem]) (by first | rfl | simp only [go_sem]) ?_
              simp only [go_sem, seval]
              obtain rfl := Option.some.inj h
              exact atJ (wkn (Jy2) ⟨rfl, rfl, rfl, trivial⟩)
            · have h := ite_t hb16 h
              simp only [go_sem, seval]
              obtain rfl := Option.some.inj h
              exact atJ (wkn (Jy2) ⟨rfl, rfl, rfl, trivial⟩)
          · have h := ite_f hb15 h
            refine bsome h fun v18 hv18 h => ?_
            simp only [go_sem, seval]
            refine callX_ 10000 (w_strings_Trim  hv18) (by first | rfl | simp only [go_sem]) (by first | rfl | simp only [go_sem]) ?_
            simp only [go_sem, seval]
            obtain rfl := Option.some.inj h
            exact atJ (wkn (Jy2) ⟨rfl, rfl, rfl, trivial⟩)
      · have h := ite_t hb5 h
        simp only [go_sem, seval]
        obtain rfl := Option.some.inj h
        exact atJ (wkn (Jy2) ⟨rfl, rfl, rfl, trivial⟩)
    · have h := ite_t hb4 h
      simp only [go_sem, seval]
      obtain rfl := Option.some.inj h
      exact atJ (wkn (Jy2) ⟨rfl, rfl, rfl, trivial⟩)
theorem w_large_cut {m : (List Int)}   {r : (List Int)} (h : large_cut m = some r) : ACall Tryz.prog 138 [.sl none (List.map (AV.int .u32) m)] [] (.sl none (List.map (AV.int .u32) r)) [] := by
  refine acallX 10000 hf138 ok138 (by first | rfl | simp only [go_sem]) meek_sl ?_
  dsimp only [Tryz.f138, nums, Option.getD, List.append]
  unfold large_cut at h
  simp only [go_sem, seval]
  refine bsome h fun y1 hy1 h => ?_
  refine blkJ 21 10000 (fun w => w [(0, .sl none (List.map (AV.int .u32) y1))] []) (runX 10000 ?_) (fun Jy1 => ?_)
  · clear hy1
    simp only [go_sem, seval]
    refine ret_s (fun x => .sl none (List.map (AV.int .u32) x)) h ?_
    first | rfl | simp only [go_sem, resAV, resAll, resOne, seval]
  · clear h
    have h := hy1
    simp only [go_sem, seval]
    refine lpJ 21 fuel (fun q1 w => ∀ (v3 : (List Int)), large_cut_l1  q1 v3 = some y1 → w [(0, .sl none (List.map (AV.int .u32) v3))] []) (fun w _ h => nomatch h) (fun q1 ih1 v3 h => ?_) (fun L1 => ?_)
    · unfold large_cut_l1 at h
      refine runL 10000 ?_
      simp only [go_sem, seval]
      refine bsome h fun y4 hy4 h => ?_
      refine rgJ 21 10000 (.inl rfl) (fun w => w [(0, .sl none (List.map (AV.int .u32) v3)), (14, .bool y4)] []) (runX 10000 ?_) (fun Jy4 => ?_)
      · clear hy4
        simp only [go_sem, seval]
        refine cnd_s 10000 h (fun hb h => ?_) (fun hb h => ?_)
        · simp only [go_sem, seval]
          refine blk_ 10000 ?_
          refine sub_s h fun v13 _ e12 h => ?_
          refine subL_s (AV.int .u32) none ⟨156, 1, false, 4⟩ (fun _ => rfl) none (some (.int .i64 v13)) rfl rfl h fun v16 _ b14 e15 h => ?_
          simp only [go_sem, seval, e12, b14, e15]
          exact lp_back (ih1 v16 h) ⟨rfl, trivial⟩
        · simp only [go_sem, seval]
          obtain rfl := Option.some.inj h
          exact atJ (wkn (Jy1) ⟨rfl, trivial⟩)
      · clear h
        have h := hy4
        simp only [go_sem, seval]
        refine grd_ (fun hb6 => ?_) (fun hb6 => ?_)
        · have h := ite_t hb6 h
          refine sub_s h fun v8 _ e7 h => ?_
          refine lAt_s (AV.int .u32) none .i64 ⟨156, 1, false, 4⟩ (fun _ => rfl) h fun v11 _ b9 e10 h => ?_
          simp only [go_sem, seval, e7, b9, e10]
          obtain rfl := Option.some.inj h
          exact atJ (wkn (Jy4) ⟨rfl, rfl, trivial⟩)
        · have h := ite_f hb6 h
          simp only [go_sem, seval]
          obtain rfl := Option.some.inj h
          exact atJ (wkn (Jy4) ⟨rfl, rfl, trivial⟩)
    · exact lp_back (L1 m h) ⟨rfl, trivial⟩
theorem w_large_made {neg : Bool} {m : (List Int)}   {r : (large_Num × (Option Int))} (h : large_made neg m = some r) : ACall Tryz.prog 123 [.bool neg, .sl none (List.map (AV.int .u32) m)] [] (.tup [enc_large_Num r.1, encE 54 r.2]) [] := by
  refine acallX 10000 hf123 ok123 (by first | rfl | simp only [go_sem]) meek_tup ?_
  dsimp only [Tryz.f123, nums, Option.getD, List.append]
  unfold large_made at h
  refine bsome h fun v1 hv1 h => ?_
  simp only [go_sem, seval]
  refine callX_ 10000 (w_large_cut  hv1) (by first | rfl | simp only [go_sem]) (by first | rfl | simp only [go_sem]) ?_
  simp only [go_sem, seval]
  refine cnd_s 10000 h (fun hb h => ?_) (fun hb h => ?_)
  · simp only [go_sem, seval]
    refine ret_s (fun x => .tup [enc_large_Num x.1, encE 54 x.2]) h ?_
    first | rfl | simp only [go_sem, resAV, resAll, resOne, seval]
  · simp only [go_sem, seval]
    refine bsome h fun y2 hy2 h => ?_
    refine rgJ 21 10000 (.inl rfl) (fun w => w [(4, .ptr 0 0), (5, .nilI)] [some [.bool y2, .sl none (List.map (AV.int .u32) v1)]]) (runX 10000 ?_) (fun Jy2 => ?_)
    · clear hy2
      simp only [go_sem, seval]
      refine ret_s (fun x => .tup [enc_large_Num x.1, encE 54 x.2]) h ?_
      first | rfl | simp only [go_sem, resAV, resAll, resOne, seval]
    · clear h
      have h := hy2
      simp only [go_sem, seval]
      refine grd_ (fun hb4 => ?_) (fun hb4 => ?_)
      · have h := ite_t hb4 h
        simp only [go_sem, seval]
        obtain rfl := Option.some.inj h
        exact atJ (wkn (Jy2) ⟨rfl, rfl, trivial⟩)
      · have h := ite_f hb4 h
        simp only [go_sem, seval]
        obtain rfl := Option.some.inj h
        exact atJ (wkn (Jy2) ⟨rfl, rfl, trivial⟩)
theorem w_large_Parse {s : Str}   {r : (large_Num × (Option Int))} (h : large_Parse s = some r) : ACall Tryz.prog 99 [.str s] [] (.tup [enc_large_Num r.1, encE 54 r.2]) [] := by
  refine acallX 10000 hf99 ok99 (by first | rfl | simp only [go_sem]) meek_tup ?_
  dsimp only [Tryz.f99, nums, Option.getD, List.append]
  unfold large_Parse at h
  refine bsome h fun v1 hv1 h => ?_
  simp only [go_sem, seval]
  refine callX_ 10000 (w_large_digits  hv1) (by first | rfl | simp only [go_sem]) (by first | rfl | simp only [go_sem]) ?_
  simp only [go_sem, seval]
  refine cnd_s 10000 h (fun hb h => ?_) (fun hb h => ?_)
  · simp only [go_sem, seval]
    refine ret_s (fun x => .tup [enc_large_Num x.1, encE 54 x.2]) h ?_
    first | rfl | simp only [go_sem, resAV, resAll, resOne, seval]
  · simp only [go_sem, seval, (bytes_e (P := Tryz.prog) (s := 9) (d := 112) (by rw [kd112]; rfl) (by rw [kd112]; rfl) v1.1)]
    refine prom_blk 7 1 false rfl (by first | rfl | simp only [go_sem]) rfl ?_
    refine bsome h fun y2 hy2 h => ?_
    refine blkJ 66 10000 (fun w => w [(2, .ptr 0 0), (5, .bool v1.2.1), (7, .rs 1 0 y2.length 1 false false)] [some [.bool false, .sl (some none) []], some (List.map (AV.int .u32) y2)]) (runX 10000 ?_) (fun Jy2 => ?_)
    · clear hy2
      simp only [go_sem, seval]
      refine mvF_ 10000 (AV.int .u32) plain_int (v := y2) rfl rfl (by first | rfl | simp only [go_sem]) (by first | rfl | simp only [go_sem]) (by first | rfl | simp only [go_sem]) rfl rfl ?_
      refine bsome h fun v103 hv103 h => ?_
      simp only [go_sem, seval]
      refine callX_ 10000 (w_large_made  hv103) (by first | rfl | simp only [go_sem]) (by first | rfl | simp only [go_sem]) ?_
      simp only [go_sem, seval]
      refine ret_s (fun x => .tup [enc_large_Num x.1, encE 54 x.2]) h ?_
      first | rfl | simp only [go_sem, resAV, resAll, resOne, seval]
    · clear h
      have h := hy2
      simp only [go_sem, seval]
      refine lpJ 66 fuel (fun q1 w => ∀ (v53 : Int) (v54 : (List Int)), large_Parse_l1 v1 q1 v53 v54 = some y2 → w [(2, .ptr 0 0), (5, .bool v1.2.1), (7, .rs 1 0 v54.length 1 false false), (24, .sl none (List.map (AV.int .u8) (toInts v1.1))), (25, .int .i64 ((toInts v1.1).length : Int)), (26, .int .i64 v53)] [some [.bool false, .sl (some none) []], some (List.map (AV.int .u32) v54)]) (fun w _ _ h => nomatch h) (fun q1 ih1 v53 v54 h => ?_) (fun L1 => ?_)
      · unfold large_Parse_l1 at h
        refine runL 10000 ?_
        simp only [go_sem, seval]
        refine cnd_s 10000 h (fun hb h => ?_) (fun hb h => ?_)
        · simp only [go_sem, seval]
          refine blk_ 10000 ?_
          refine lAt_s (AV.int .u8) none .i64 ⟨5, 1, false, 1⟩ (fun _ => rfl) h fun v57 _ b55 e56 h => ?_
          simp only [go_sem, seval, b55, e56, (show intv .sub .u8 v57 48 = .int .u8 (IntKind.wrap .u8 (v57 - 48)) from rfl), (cvw_e (s := 5) (k := .u8) io158 (IntKind.wrap .u8 (v57 - 48)))]
          refine bsome h fun y58 hy58 h => ?_
          refine blkJ 66 10000 (fun w => w [(2, .ptr 0 0), (5, .bool v1.2.1), (7, .rs 1 0 y58.2.length 1 false false), (10, .int .u64 y58.1), (24, .sl none (List.map (AV.int .u8) (toInts v1.1))), (25, .int .i64 ((toInts v1.1).length : Int)), (26, .int .i64 v53)] [some [.bool false, .sl (some none) []], some (List.map (AV.int .u32) y58.2)]) (runX 10000 ?_) (fun Jy58 => ?_)
          · clear hy58
            simp only [go_sem, seval]
            refine bsome h fun y95 hy95 h => ?_
            refine cndJ 66 10000 (fun w => w [(2, .ptr 0 0), (5, .bool v1.2.1), (7, .rs 1 0 y95.length 1 false false), (24, .sl none (List.map (AV.int .u8) (toInts v1.1))), (25, .int .i64 ((toInts v1.1).length : Int)), (26, .int .i64 v53)] [some [.bool false, .sl (some none) []], some (List.map (AV.int .u32) y95)]) (runX 10000 ?_) (fun Jy95 => ?_)
            · clear hy95
              refine add_s h fun v102 _ e101 h => ?_
              simp only [go_sem, seval, e101]
              exact lp_back (ih1 v102 y95 h) ⟨rfl, rfl, rfl, rfl, rfl, rfl, trivial⟩
            · clear h
              have h := hy95
              refine cnd_s 10000 h (fun hb h => ?_) (fun hb h => ?_)
              · simp only [go_sem, seval, (cvw_e (s := 158) (k := .u64) io156 y58.1)]
                refine appB_s (AV.int .u32) (some none) ⟨156, 1, false, 4⟩ (fun _ => rfl) (by decide) rfl h fun v100 e97 e98 e99 h => ?_
                refine appB_ 10000 (AV.int .u32) plain_int (v := y58.2) (ws := ([(IntKind.wrap .u32 y58.1)] : List Int)) rfl rfl rfl el83 rfl kd83 (by first | rfl | simp only [go_sem]) (by first | rfl | simp only [go_sem]) (by first | rfl | simp only [go_sem]) e97 e98 e99 (by first | rfl | simp only [go_sem]) rfl rfl ?_
                simp only [go_sem, seval]
                obtain rfl := Option.some.inj h
                exact atJ (wkn (Jy95) ⟨rfl, rfl, rfl, rfl, rfl, rfl, trivial⟩)
              · simp only [go_sem, seval]
                obtain rfl := Option.some.inj h
                exact atJ (wkn (Jy95) ⟨rfl, rfl, rfl, rfl, rfl, rfl, trivial⟩)
          · clear h
            have h := hy58
            simp only [go_sem, seval]
            refine lpJ 66 fuel (fun q3 w => ∀ (v77 : Int) (v78 : Int) (v79 : (List Int)), large_Parse_l3 v54 q3 v77 v78 v79 = some y58 → w [(2, .ptr 0 0), (5, .bool v1.2.1), (7, .rs 1 0 v79.length 1 false false), (10, .int .u64 v77), (24, .sl none (List.map (AV.int .u8) (toInts v1.1))), (25, .int .i64 ((toInts v1.1).length : Int)), (26, .int .i64 v53), (33, .rs 1 0 v79.length 1 false false), (34, .int .i64 (v54.length : Int)), (35, .int .i64 v78)] [some [.bool false, .sl (some none) []], some (List.map (AV.int .u32) v79)]) (fun w _ _ _ h => nomatch h) (fun q3 ih3 v77 v78 v79 h => ?_) (fun L3 => ?_)
            · unfold large_Parse_l3 at h
              refine runL 10000 ?_
              simp only [go_sem, seval]
              refine cnd_s 10000 h (fun hb h => ?_) (fun hb h => ?_)
              · simp only [go_sem, seval]
                refine blk_ 10000 ?_
                refine bAt_s (AV.int .u32) .i64 ⟨156, 1, false, 4⟩ rfl 1 false false rfl h fun v86 _ e80 e81 e82 e83 e84 e85 h => ?_
                refine stB_s h fun v89 e87 e88 h => ?_
                refine shr_s h fun v92 _ b91 e90 h => ?_
                refine add_s h fun v94 _ e93 h => ?_
                simp only [go_sem, seval, e80, e81, e82, e83, e84, (cvw_e (s := 156) (k := .u32) io158 v86), (show intv .mul .u64 (IntKind.wrap .u64 v86) 10 = .int .u64 (IntKind.wrap .u64 ((IntKind.wrap .u64 v86) * 10)) from rfl), (show intv .add .u64 v77 (IntKind.wrap .u64 ((IntKind.wrap .u64 v86) * 10)) = .int .u64 (IntKind.wrap .u64 (v77 + (IntKind.wrap .u64 ((IntKind.wrap .u64 v86) * 10)))) from rfl), (cvw_e (s := 158) (k := .u64) io156 (IntKind.wrap .u64 (v77 + (IntKind.wrap .u64 ((IntKind.wrap .u64 v86) * 10))))), e85, e87, e90, Int.reduceLE, e93]
                exact lp_back (ih3 v92 v94 v89 h) ⟨rfl, rfl, congrArg (fun n => AV.rs 1 0 n 1 false false) e88.symm, rfl, rfl, rfl, rfl, congrArg (fun n => AV.rs 1 0 n 1 false false) e88.symm, rfl, rfl, trivial⟩
              · simp only [go_sem, seval]
                obtain rfl := Option.some.inj h
                exact atJ (wkn (Jy58) ⟨rfl, rfl, rfl, rfl, rfl, rfl, rfl, trivial⟩)
            · exact lp_back (L3 (IntKind.wrap .u64 (IntKind.wrap .u8 (v57 - 48))) 0 v54 h) ⟨rfl, rfl, rfl, rfl, rfl, rfl, rfl, rfl, rfl, rfl, trivial⟩
        · simp only [go_sem, seval]
          obtain rfl := Option.some.inj h
          exact atJ (wkn (Jy2) ⟨rfl, rfl, rfl, trivial⟩)
      · exact lp_back (L1 0 [] h) ⟨rfl, rfl, rfl, rfl, rfl, rfl, trivial⟩
theorem w_tree_number {s : Str}   {r : Bool} (h : tree_number s = some r) : ACall Tryz.prog 74 [.str s] [] (.bool r) [] := by
  refine acallX 10000 hf74 ok74 (by first | rfl | simp only [go_sem]) meek_bool ?_
  dsimp only [Tryz.f74, nums, Option.getD, List.append]
  unfold tree_number at h
  refine bsome h fun v1 hv1 h => ?_
  simp only [go_sem, seval]
  refine callX_ 10000 (w_large_Parse  hv1) (by first | rfl | simp only [go_sem]) (by first | rfl | simp only [go_sem]) ?_
  simp only [go_sem, seval]
  refine ret_s (fun x => .bool x) h ?_
  first | rfl | simp only [go_sem, resAV, resAll, resOne, seval]
theorem w_tree_Node_may {n : tree_Node}   {r : Bool} (h : tree_Node_may n = some r) : ACall Tryz.prog 47 [enc_tree_Node n] [] (.bool r) [] := by
  refine acallX 10000 hf47 ok47 (by first | rfl | simp only [go_sem]) meek_bool ?_
  dsimp only [Tryz.f47, nums, Option.getD, List.append]
  unfold tree_Node_may at h
  simp only [go_sem, seval]
  refine blk_ 10000 ?_
  simp only [go_sem, seval]
  refine bsome h fun y1 hy1 h => ?_
  refine cndJ 145 10000 (fun w => w [(1, .ptr 0 0), (4, .int .u8 n.K), (5, .bool y1)] [some [.int .u8 n.K, .str n.S, .int .i64 n.N, .sl none (List.map AV.str n.L), .sl none (List.map (AV.int .i64) n.Kids)]]) (runX 10000 ?_) (fun Jy1 => ?_)
  · clear hy1
    simp only [go_sem, seval]
    refine cnd_s 10000 h (fun hb h => ?_) (fun hb h => ?_)
    · refine bsome h fun v9 hv9 h => ?_
      simp only [go_sem, seval]
      refine callX_ 10000 (w_tree_Node_bare  hv9) (by first | rfl | simp only [go_sem]) (by first | rfl | simp only [go_sem]) ?_
      simp only [go_sem, seval]
      refine ret_s (fun x => .bool x) h ?_
      first | rfl | simp only [go_sem, resAV, resAll, resOne, seval]
    · simp only [go_sem, seval]
      refine cnd_s 10000 h (fun hb h => ?_) (fun hb h => ?_)
      · simp only [go_sem, seval]
        refine bsome h fun y10 hy10 h => ?_
        refine rgJ 145 10000 (.inl rfl) (fun w => w [(2, .bool y10)] [some [.int .u8 n.K, .str n.S, .int .i64 n.N, .sl none (List.map AV.str n.L), .sl none (List.map (AV.int .i64) n.Kids)]]) (runX 10000 ?_) (fun Jy10 => ?_)
        · clear hy10
          simp only [go_sem, seval]
          refine ret_s (fun x => .bool x) h ?_
          first | rfl | simp only [go_sem, resAV, resAll, resOne, seval]
        · clear h
          have h := hy10
          refine bsome h fun v12 hv12 h => ?_
          simp only [go_sem, seval]
          refine callX_ 10000 (w_tree_Node_bare  hv12) (by first | rfl | simp only [go_sem]) (by first | rfl | simp only [go_sem]) ?_
          simp only [go_sem, seval]
          refine grd_ (fun hb13 => ?_) (fun hb13 => ?_)
          · have h := ite_t hb13 h
            refine bsome h fun v14 hv14 h => ?_
            simp only [go_sem, seval]
            refine callX_ 10000 (w_tree_number  hv14) (by first | rfl | simp only [go_sem]) (by first | rfl | simp only [go_sem]) ?_
            simp only [go_sem, seval]
            obtain rfl := Option.some.inj h
            exact atJ (wkn (Jy10) ⟨rfl, trivial⟩)
          · have h := ite_f hb13 h
            simp only [go_sem, seval]
            obtain rfl := Option.some.inj h
            exact atJ (wkn (Jy10) ⟨rfl, trivial⟩)
      · simp only [go_sem, seval]
        refine cnd_s 10000 h (fun hb h => ?_) (fun hb h => ?_)
        · simp only [go_sem, seval]
          refine bsome h fun y15 hy15 h => ?_
          refine rgJ 145 10000 (.inl rfl) (fun w => w [(2, .bool y15)] [some [.int .u8 n.K, .str n.S, .int .i64 n.N, .sl none (List.map AV.str n.L), .sl none (List.map (AV.int .i64) n.Kids)]]) (runX 10000 ?_) (fun Jy15 => ?_)
          · clear hy15
            simp only [go_sem, seval]
            refine ret_s (fun x => .bool x) h ?_
            first | rfl | simp only [go_sem, resAV, resAll, resOne, seval]
          · clear h
            have h := hy15
            refine bsome h fun v17 hv17 h => ?_
            simp only [go_sem, seval]
            refine callX_ 10000 (w_tree_Node_bare  hv17) (by first | rfl | simp only [go_sem]) (by first | rfl | simp only [go_sem]) ?_
            simp only [go_sem, seval]
            refine grd_ (fun hb18 => ?_) (fun hb18 => ?_)
            · have h := ite_t hb18 h
              simp only [go_sem, seval]
              obtain rfl := Option.some.inj h
              exact atJ (wkn (Jy15) ⟨rfl, trivial⟩)
            · have h := ite_f hb18 h
              simp only [go_sem, seval]
              obtain rfl := Option.some.inj h
              exact atJ (wkn (Jy15) ⟨rfl, trivial⟩)
        · simp only [go_sem, seval]
          refine cnd_s 10000 h (fun hb h => ?_) (fun hb h => ?_)
          · simp only [go_sem, seval]
            refine bsome h fun y19 hy19 h => ?_
            refine rgJ 145 10000 (.inl rfl) (fun w => w [(2, .bool y19)] [some [.int .u8 n.K, .str n.S, .int .i64 n.N, .sl none (List.map AV.str n.L), .sl none (List.map (AV.int .i64) n.Kids)]]) (runX 10000 ?_) (fun Jy19 => ?_)
            · clear hy19
              simp only [go_sem, seval]
              refine ret_s (fun x => .bool x) h ?_
              first | rfl | simp only [go_sem, resAV, resAll, resOne, seval]
            · clear h
              have h := hy19
              refine bsome h fun v21 hv21 h => ?_
              simp only [go_sem, seval]
              refine callX_ 10000 (w_tree_Node_bare  hv21) (by first | rfl | simp only [go_sem]) (by first | rfl | simp only [go_sem]) ?_
              simp only [go_sem, seval]
              refine grd_ (fun hb22 => ?_) (fun hb22 => ?_)
              · have h := ite_t hb22 h
                refine bsome h fun v23 hv23 h => ?_
                simp only [go_sem, seval]
                refine callX_ 10000 (w_tree_variable  hv23) (by first | rfl | simp only [go_sem]) (by first | rfl | simp only [go_sem]) ?_
                simp only [go_sem, seval]
                refine grd_ (fun hb24 => ?_) (fun hb24 => ?_)
                · have h := ite_f hb24 h
                  refine bsome h fun v25 hv25 h => ?_
                  simp only [go_sem, seval]
                  refine callX_ 10000 (w_tree_named  hv25) (by first | rfl | simp only [go_sem]) (by first | rfl | simp only [go_sem]) ?_
                  simp only [go_sem, seval]
                  obtain rfl := Option.some.inj h
                  exact atJ (wkn (Jy19) ⟨rfl, trivial⟩)
                · have h := ite_t hb24 h
                  simp only [go_sem, seval]
                  obtain rfl := Option.some.inj h
                  exact atJ (wkn (Jy19) ⟨rfl, trivial⟩)
              · have h := ite_f hb22 h
                simp only [go_sem, seval]
                obtain rfl := Option.some.inj h
                exact atJ (wkn (Jy19) ⟨rfl, trivial⟩)
          · simp only [go_sem, seval]
            refine cnd_s 10000 h (fun hb h => ?_) (fun hb h => ?_)
            · simp only [go_sem, seval]
              refine bsome h fun y26 hy26 h => ?_
              refine rgJ 145 10000 (.inl rfl) (fun w => w [(2, .bool y26)] [some [.int .u8 n.K, .str n.S, .int .i64 n.N, .sl none (List.map AV.str n.L), .sl none (List.map (AV.int .i64) n.Kids)]]) (runX 10000 ?_) (fun Jy26 => ?_)
              · clear hy26
                simp only [go_sem, seval]
                refine ret_s (fun x => .bool x) h ?_
                first | rfl | simp only [go_sem, resAV, resAll, resOne, seval]
              · clear h
                have h := hy26
                refine bsome h fun v28 hv28 h => ?_
                simp only [go_sem, seval]
                refine callX_ 10000 (w_tree_Node_bare  hv28) (by first | rfl | simp only [go_sem]) (by first | rfl | simp only [go_sem]) ?_
                simp only [go_sem, seval]
                refine grd_ (fun hb29 => ?_) (fun hb29 => ?_)
                · have h := ite_t hb29 h
                  refine bsome h fun v30 hv30 h => ?_
                  simp only [go_sem, seval]
                  refine callX_ 10000 (w_tree_variable  hv30) (by first | rfl | simp only [go_sem]) (by first | rfl | simp only [go_sem]) ?_
                  simp only [go_sem, seval]
                  refine grd_ (fun hb31 => ?_) (fun hb31 => ?_)
                  · have h := ite_t hb31 h
                    simp only [go_sem, seval]
                    obtain rfl := Option.some.inj h
                    exact atJ (wkn (Jy26) ⟨rfl, trivial⟩)
                  · have h := ite_f hb31 h
                    simp only [go_sem, seval]
                    obtain rfl := Option.some.inj h
                    exact atJ (wkn (Jy26) ⟨rfl, trivial⟩)
                · have h := ite_f hb29 h
                  simp only [go_sem, seval]
                  obtain rfl := Option.some.inj h
                  exact atJ (wkn (Jy26) ⟨rfl, trivial⟩)
            · simp only [go_sem, seval]
              refine cnd_s 10000 h (fun hb h => ?_) (fun hb h => ?_)
              · simp only [go_sem, seval]
                refine bsome h fun y32 hy32 h => ?_
                refine rgJ 145 10000 (.inl rfl) (fun w => w [(2, .bool y32)] [some [.int .u8 n.K, .str n.S, .int .i64 n.N, .sl none (List.map AV.str n.L), .sl none (List.map (AV.int .i64) n.Kids)]]) (runX 10000 ?_) (fun Jy32 => ?_)
                · clear hy32
                  simp only [go_sem, seval]
                  refine ret_s (fun x => .bool x) h ?_
                  first | rfl | simp only [go_sem, resAV, resAll, resOne, seval]
                · clear h
                  have h := hy32
                  refine bsome h fun v34 hv34 h => ?_
                  simp only [go_sem, seval]
                  refine callX_ 10000 (w_tree_Node_bare  hv34) (by first | rfl | simp only [go_sem]) (by first | rfl | simp only [go_sem]) ?_
                  simp only [go_sem, seval]
                  refine grd_ (fun hb35 => ?_) (fun hb35 => ?_)
                  · have h := ite_t hb35 h
                    refine sub_s h fun v37 _ e36 h => ?_
                    refine bsome h fun v38 hv38 h => ?_
                    simp only [go_sem, seval, e36]
                    refine callX_ 10000 (w_tree_sends  hv38) (by first | rfl | simp only [go_sem]) (by first | rfl | simp only [go_sem]) ?_
                    simp only [go_sem, seval]
                    obtain rfl := Option.some.inj h
                    exact atJ (wkn (Jy32) ⟨rfl, trivial⟩)
                  · have h := ite_f hb35 h
                    simp only [go_sem, seval]
                    obtain rfl := Option.some.inj h
                    exact atJ (wkn (Jy32) ⟨rfl, trivial⟩)
              · simp only [go_sem, seval]
                refine cnd_s 10000 h (fun hb h => ?_) (fun hb h => ?_)
                · simp only [go_sem, seval]
                  refine bsome h fun y39 hy39 h => ?_
                  refine rgJ 145 10000 (.inl rfl) (fun w => w [(2, .bool y39)] [some [.int .u8 n.K, .str n.S, .int .i64 n.N, .sl none (List.map AV.str n.L), .sl none (List.map (AV.int .i64) n.Kids)]]) (runX 10000 ?_) (fun Jy39 => ?_)
                  · clear hy39
                    simp only [go_sem, seval]
                    refine ret_s (fun x => .bool x) h ?_
                    first | rfl | simp only [go_sem, resAV, resAll, resOne, seval]
                  · clear h
                    have h := hy39
                    refine bsome h fun v41 hv41 h => ?_
                    simp only [go_sem, seval]
                    refine callX_ 10000 (w_tree_Node_bare  hv41) (by first | rfl | simp only [go_sem]) (by first | rfl | simp only [go_sem]) ?_
                    simp only [go_sem, seval]
                    refine grd_ (fun hb42 => ?_) (fun hb42 => ?_)
                    · have h := ite_t hb42 h
                      simp only [go_sem, seval]
                      refine grd_ (fun hb43 => ?_) (fun hb43 => ?_)
                      · have h := ite_t hb43 h
                        simp only [go_sem, seval]
                        obtain rfl := Option.some.inj h
                        exact atJ (wkn (Jy39) ⟨rfl, trivial⟩)
                      · have h := ite_f hb43 h
                        simp only [go_sem, seval]
                        obtain rfl := Option.some.inj h
                        exact atJ (wkn (Jy39) ⟨rfl, trivial⟩)
                    · have h := ite_f hb42 h
                      simp only [go_sem, seval]
                      obtain rfl := Option.some.inj h
                      exact atJ (wkn (Jy39) ⟨rfl, trivial⟩)
                · simp only [go_sem, seval]
                  refine cnd_s 10000 h (fun hb h => ?_) (fun hb h => ?_)
                  · simp only [go_sem, seval]
                    refine bsome h fun y44 hy44 h => ?_
                    refine rgJ 145 10000 (.inl rfl) (fun w => w [(2, .bool y44)] [some [.int .u8 n.K, .str n.S, .int .i64 n.N, .sl none (List.map AV.str n.L), .sl none (List.map (AV.int .i64) n.Kids)]]) (runX 10000 ?_) (fun Jy44 => ?_)
                    · clear hy44
                      simp only [go_sem, seval]
                      refine ret_s (fun x => .bool x) h ?_
                      first | rfl | simp only [go_sem, resAV, resAll, resOne, seval]
                    · clear h
                      have h := hy44
                      refine bsome h fun v46 hv46 h => ?_
                      simp only [go_sem, seval]
                      refine callX_ 10000 (w_tree_Node_bare  hv46) (by first | rfl | simp only [go_sem]) (by first | rfl | simp only [go_sem]) ?_
                      simp only [go_sem, seval]
                      refine grd_ (fun hb47 => ?_) (fun hb47 => ?_)
                      · have h := ite_t hb47 h
                        refine bsome h fun v48 hv48 h => ?_
                        simp only [go_sem, seval]
                        refine callX_ 10000 (w_tree_sends  hv48) (by first | rfl | simp only [go_sem]) (by first | rfl | simp only [go_sem]) ?_
                        simp only [go_sem, seval]
                        obtain rfl := Option.some.inj h
                        exact atJ (wkn (Jy44) ⟨rfl, trivial⟩)
                      · have h := ite_f hb47 h
                        simp only [go_sem, seval]
                        obtain rfl := Option.some.inj h
                        exact atJ (wkn (Jy44) ⟨rfl, trivial⟩)
                  · simp only [go_sem, seval]
                    refine cnd_s 10000 h (fun hb h => ?_) (fun hb h => ?_)
                    · simp only [go_sem, seval]
                      refine bsome h fun y49 hy49 h => ?_
                      refine rgJ 145 10000 (.inl rfl) (fun w => w [(2, .bool y49)] [some [.int .u8 n.K, .str n.S, .int .i64 n.N, .sl none (List.map AV.str n.L), .sl none (List.map (AV.int .i64) n.Kids)]]) (runX 10000 ?_) (fun Jy49 => ?_)
                      · clear hy49
                        simp only [go_sem, seval]
                        refine ret_s (fun x => .bool x) h ?_
                        first | rfl | simp only [go_sem, resAV, resAll, resOne, seval]
                      · clear h
                        have h := hy49
                        refine bsome h fun v51 hv51 h => ?_
                        simp only [go_sem, seval]
                        refine callX_ 10000 (w_tree_Node_bare  hv51) (by first | rfl | simp only [go_sem]) (by first | rfl | simp only [go_sem]) ?_
                        simp only [go_sem, seval]
                        refine grd_ (fun hb52 => ?_) (fun hb52 => ?_)
                        · have h := ite_t hb52 h
                          simp only [go_sem, seval]
                          refine grd_ (fun hb53 => ?_) (fun hb53 => ?_)
                          · have h := ite_t hb53 h
                            simp only [go_sem, seval]
                            refine grd_ (fun hb54 => ?_) (fun hb54 => ?_)
                            · have h := ite_t hb54 h
                              simp only [go_sem, seval]
                              refine grd_ (fun hb55 => ?_) (fun hb55 => ?_)
                              · have h := ite_t hb55 h
                                simp only [go_sem, seval]
                                refine grd_ (fun hb56 => ?_) (fun hb56 => ?_)
                                · have h := ite_t hb56 h
                                  refine bsome h fun v57 hv57 h => ?_
                                  simp only [go_sem, seval]
                                  refine callX_ 10000 (w_tree_unlike  hv57) (by first | rfl | simp only [go_sem]) (by first | rfl | simp only [go_sem]) ?_
                                  simp only [go_sem, seval]
                                  obtain rfl := Option.some.inj h
                                  exact atJ (wkn (Jy49) ⟨rfl, trivial⟩)
                                · have h := ite_f hb56 h
                                  simp only [go_sem, seval]
                                  obtain rfl := Option.some.inj h
                                  exact atJ (wkn (Jy49) ⟨rfl, trivial⟩)
                              · have h := ite_f hb55 h
                                simp only [go_sem, seval]
                                obtain rfl := Option.some.inj h
                                exact atJ (wkn (Jy49) ⟨rfl, trivial⟩)
                            · have h := ite_f hb54 h
                              simp only [go_sem, seval]
                              obtain rfl := Option.some.inj h
                              exact atJ (wkn (Jy49) ⟨rfl, trivial⟩)
                          · have h := ite_f hb53 h
                            simp only [go_sem, seval]
                            obtain rfl := Option.some.inj h
                            exact atJ (wkn (Jy49) ⟨rfl, trivial⟩)
                        · have h := ite_f hb52 h
                          simp only [go_sem, seval]
                          obtain rfl := Option.some.inj h
                          exact atJ (wkn (Jy49) ⟨rfl, trivial⟩)
                    · simp only [go_sem, seval]
                      refine cnd_s 10000 h (fun hb h => ?_) (fun hb h => ?_)
                      · simp only [go_sem, seval]
                        refine bsome h fun y58 hy58 h => ?_
                        refine rgJ 145 10000 (.inl rfl) (fun w => w [(2, .bool y58)] [some [.int .u8 n.K, .str n.S, .int .i64 n.N, .sl none (List.map AV.str n.L), .sl none (List.map (AV.int .i64) n.Kids)]]) (runX 10000 ?_) (fun Jy58 => ?_)
                        · clear hy58
                          simp only [go_sem, seval]
                          refine ret_s (fun x => .bool x) h ?_
                          first | rfl | simp only [go_sem, resAV, resAll, resOne, seval]
                        · clear h
                          have h := hy58
                          refine bsome h fun v60 hv60 h => ?_
                          simp only [go_sem, seval]
                          refine callX_ 10000 (w_tree_Node_bare  hv60) (by first | rfl | simp only [go_sem]) (by first | rfl | simp only [go_sem]) ?_
                          simp only [go_sem, seval]
                          refine grd_ (fun hb61 => ?_) (fun hb61 => ?_)
                          · have h := ite_t hb61 h
                            simp only [go_sem, seval]
                            obtain rfl := Option.some.inj h
                            exact atJ (wkn (Jy58) ⟨rfl, trivial⟩)
                          · have h := ite_f hb61 h
                            simp only [go_sem, seval]
                            obtain rfl := Option.some.inj h
                            exact atJ (wkn (Jy58) ⟨rfl, trivial⟩)
                      · simp only [go_sem, seval]
                        refine ret_s (fun x => .bool x) h ?_
                        first | rfl | simp only [go_sem, resAV, resAll, resOne, seval]
  · clear h
    have h := hy1
    refine cnd_s 10000 h (fun hb h => ?_) (fun hb h => ?_)
    · simp only [go_sem, seval]
      obtain rfl := Option.some.inj h
      exact atJ (wkn (Jy1) ⟨rfl, rfl, rfl, trivial⟩)
    · simp only [go_sem, seval]
      refine bsome h fun y3 hy3 h => ?_
      refine cndJ 145 10000 (fun w => w [(1, .ptr 0 0), (4, .int .u8 n.K), (5, .bool y3)] [some [.int .u8 n.K, .str n.S, .int .i64 n.N, .sl none (List.map AV.str n.L), .sl none (List.map (AV.int .i64) n.Kids)]]) (runX 10000 ?_) (fun Jy3 => ?_)
      · clear hy3
        simp only [go_sem, seval]
        obtain rfl := Option.some.inj h
        exact atJ (wkn (Jy1) ⟨rfl, rfl, rfl, trivial⟩)
      · clear h
        have h := hy3
        refine cnd_s 10000 h (fun hb h => ?_) (fun hb h => ?_)
        · simp only [go_sem, seval]
          obtain rfl := Option.some.inj h
          exact atJ (wkn (Jy3) ⟨rfl, rfl, rfl, trivial⟩)
        · simp only [go_sem, seval]
          refine bsome h fun y5 hy5 h => ?_
          refine cndJ 145 10000 (fun w => w [(1, .ptr 0 0), (4, .int .u8 n.K), (5, .bool y5)] [some [.int .u8 n.K, .str n.S, .int .i64 n.N, .sl none (List.map AV.str n.L), .sl none (List.map (AV.int .i64) n.Kids)]]) (runX 10000 ?_) (fun Jy5 => ?_)
          · clear hy5
            simp only [go_sem, seval]
            obtain rfl := Option.some.inj h
            exact atJ (wkn (Jy3) ⟨rfl, rfl, rfl, trivial⟩)
          · clear h
            have h := hy5
            refine cnd_s 10000 h (fun hb h => ?_) (fun hb h => ?_)
            · simp only [go_sem, seval]
              obtain rfl := Option.some.inj h
              exact atJ (wkn (Jy5) ⟨rfl, rfl, rfl, trivial⟩)
            · simp only [go_sem, seval]
              refine bsome h fun y7 hy7 h => ?_
              refine cndJ 145 10000 (fun w => w [(1, .ptr 0 0), (4, .int .u8 n.K), (5, .bool y7)] [some [.int .u8 n.K, .str n.S, .int .i64 n.N, .sl none (List.map AV.str n.L), .sl none (List.map (AV.int .i64) n.Kids)]]) (runX 10000 ?_) (fun Jy7 => ?_)
              · clear hy7
                simp only [go_sem, seval]
                obtain rfl := Option.some.inj h
                exact atJ (wkn (Jy5) ⟨rfl, rfl, rfl, trivial⟩)
              · clear h
                have h := hy7
                refine cnd_s 10000 h (fun hb h => ?_) (fun hb h => ?_)
                · simp only [go_sem, seval]
                  obtain rfl := Option.some.inj h
                  exact atJ (wkn (Jy7) ⟨rfl, rfl, rfl, trivial⟩)
                · simp only [go_sem, seval]
                  obtain rfl := Option.some.inj h
                  exact atJ (wkn (Jy7) ⟨rfl, rfl, rfl, trivial⟩)
theorem w_tree_stands {k : Int} {super : Bool} {msg : Bool} {up : Bool}   {r : Bool} (h : tree_stands k super msg up = some r) : ACall Tryz.prog 48 [.int .u8 k, .bool super, .bool msg, .bool up] [] (.bool r) [] := by
  refine acallX 10000 hf48 ok48 (by first | rfl | simp only [go_sem]) meek_bool ?_
  dsimp only [Tryz.f48, nums, Option.getD, List.append]
  unfold tree_stands at h
  simp only [go_sem, seval]
  refine blk_ 10000 ?_
  simp only [go_sem, seval]
  refine cnd_s 10000 h (fun hb h => ?_) (fun hb h => ?_)
  · simp only [go_sem, seval]
    refine ret_s (fun x => .bool x) h ?_
    first | rfl | simp only [go_sem, resAV, resAll, resOne, seval]
  · simp only [go_sem, seval]
    refine cnd_s 10000 h (fun hb h => ?_) (fun hb h => ?_)
    · simp only [go_sem, seval]
      refine ret_s (fun x => .bool x) h ?_
      first | rfl | simp only [go_sem, resAV, resAll, resOne, seval]
    · simp only [go_sem, seval]
      refine cnd_s 10000 h (fun hb h => ?_) (fun hb h => ?_)
      · simp only [go_sem, seval]
        refine ret_s (fun x => .bool x) h ?_
        first | rfl | simp only [go_sem, resAV, resAll, resOne, seval]
      · simp only [go_sem, seval]
        refine ret_s (fun x => .bool x) h ?_
        first | rfl | simp only [go_sem, resAV, resAll, resOne, seval]
theorem w_tree_Node_places {n : tree_Node} {i : Int}   {r : (Bool × Bool × Bool)} (h : tree_Node_places n i = some r) : ACall Tryz.prog 49 [enc_tree_Node n, .int .i64 i] [] (.tup [.bool r.1, .bool r.2.1, .bool r.2.2]) [] := by
  refine acallX 10000 hf49 ok49 (by first | rfl | simp only [go_sem]) meek_tup ?_
  dsimp only [Tryz.f49, nums, Option.getD, List.append]
  unfold tree_Node_places at h
  simp only [go_sem, seval]
  refine blk_ 10000 ?_
  simp only [go_sem, seval]
  refine cnd_s 10000 h (fun hb h => ?_) (fun hb h => ?_)
  · simp only [go_sem, seval]
    refine ret_s (fun x => .tup [.bool x.1, .bool x.2.1, .bool x.2.2]) h ?_
    first | rfl | simp only [go_sem, resAV, resAll, resOne, seval]
  · simp only [go_sem, seval]
    refine cnd_s 10000 h (fun hb h => ?_) (fun hb h => ?_)
    · simp only [go_sem, seval]
      refine ret_s (fun x => .tup [.bool x.1, .bool x.2.1, .bool x.2.2]) h ?_
      first | rfl | simp only [go_sem, resAV, resAll, resOne, seval]
    · simp only [go_sem, seval]
      refine cnd_s 10000 h (fun hb h => ?_) (fun hb h => ?_)
      · simp only [go_sem, seval]
        refine rg_ 10000 (.inr ⟨[], by kernel_rfl, by kernel_rfl, by rfl⟩) ?_
        refine sub_s h fun v2 _ e1 h => ?_
        simp only [go_sem, seval, e1]
        refine ret_s (fun x => .tup [.bool x.1, .bool x.2.1, .bool x.2.2]) h ?_
        first | rfl | simp only [go_sem, resAV, resAll, resOne, seval]
      · simp only [go_sem, seval]
        refine ret_s (fun x => .tup [.bool x.1, .bool x.2.1, .bool x.2.2]) h ?_
        first | rfl | simp only [go_sem, resAV, resAll, resOne, seval]
def R_tree_walk_come_ok (rec : R_tree_walk_come) : Prop := (∀ (p0_w : tree_walk) (i : Int) (above : Int) (super : Bool) (msg : Bool) (up : Bool) (r : (Bool × tree_walk)), rec.tree_walk_come p0_w i above super msg up = some r → ACall Tryz.prog 23 [.ptr 0 0, .int .i64 i, .int .i64 above, .bool super, .bool msg, .bool up] [some [.sl none (List.map enc_tree_Node p0_w.l), .int .i64 p0_w.next]] (.bool r.1) [some [.sl none (List.map enc_tree_Node r.2.l), .int .i64 r.2.next]])
theorem w_tree_walk_come_b {rec : R_tree_walk_come} (hrec : R_tree_walk_come_ok rec) {p0_w : tree_walk} {i : Int} {above : Int} {super : Bool} {msg : Bool} {up : Bool}   {r : (Bool × tree_walk)} (h : tree_walk_come_b rec p0_w i above super msg up = some r) : ACall Tryz.prog 23 [.ptr 0 0, .int .i64 i, .int .i64 above, .bool super, .bool msg, .bool up] [some [.sl none (List.map enc_tree_Node p0_w.l), .int .i64 p0_w.next]] (.bool r.1) [some [.sl none (List.map enc_tree_Node r.2.l), .int .i64 r.2.next]] := by
  refine acallHX 10000 hf23 ok23 (by first | rfl | simp only [go_sem]) meek_bool rfl (by first | rfl | simp only [go_sem, allLt]) ?_
  dsimp only [Tryz.f23, nums, Option.getD, List.append]
  unfold tree_walk_come_b at h
  simp only [go_sem, seval]
  refine bsome h fun y1 hy1 h => ?_
  refine rgJ 115 10000 (.inl rfl) (fun w => w [(0, .ptr 0 0), (1, .int .i64 i), (2, .int .i64 above), (63, .bool y1)] [some [.sl none (List.map enc_tree_Node p0_w.l), .int .i64 p0_w.next]]) (runX 10000 ?_) (fun Jy1 => ?_)
  · clear hy1
    simp only [go_sem, seval]
    refine cnd_s 10000 h (fun hb h => ?_) (fun hb h => ?_)
    · simp only [go_sem, seval]
      refine retH_s (fun x => .bool x.1) (fun x => [some [.sl none (List.map enc_tree_Node x.2.l), .int .i64 x.2.next]]) h ?_ ?_
      · first | rfl | simp only [go_sem, resAV, resAll, resOne, seval]
      · first | rfl | simp only [go_sem, resAV, resAll, resOne, seval]
    · refine lAt_s enc_tree_Node none .i64 ⟨46, 5, true, 80⟩ (fun _ => rfl) h fun v16 _ b14 e15 h => ?_
      simp only [go_sem, seval, b14, e15]
      refine letK_s h fun K18 hK18 h => ?_
      refine blkJ 115 10000 (fun w => ∀ (v46 : tree_walk), K18 v46 = some r → w [(0, .ptr 0 0), (1, .int .i64 i)] [some [.sl none (List.map enc_tree_Node v46.l), .int .i64 v46.next], some [.int .u8 v16.K, .str v16.S, .int .i64 v16.N, .sl none (List.map AV.str v16.L), .sl none (List.map (AV.int .i64) v16.Kids)]]) (fun v46 h => runX 10000 ?_) (fun JK18 => ?_)
      · subst hK18
        dsimp only at h
        refine add_s h fun v48 _ e47 h => ?_
        refine sub_s h fun v50 _ e49 h => ?_
        simp only [go_sem, seval, e47, e49]
        refine retH_s (fun x => .bool x.1) (fun x => [some [.sl none (List.map enc_tree_Node x.2.l), .int .i64 x.2.next]]) h ?_ ?_
        · first | rfl | simp only [go_sem, resAV, resAll, resOne, seval]
        · first | rfl | simp only [go_sem, resAV, resAll, resOne, seval]
      · clear hK18
        simp only [go_sem, seval]
        refine lpJ 115 fuel (fun q1 w => ∀ (v32 : Int) (v33 : tree_walk), tree_walk_come_l1 i above rec v16 K18 q1 v32 v33 = some r → w [(0, .ptr 0 0), (1, .int .i64 i), (2, .int .i64 above), (13, .ptr 1 0), (72, .sl none (List.map (AV.int .i64) v16.Kids)), (73, .int .i64 (v16.Kids.length : Int)), (74, .int .i64 v32)] [some [.sl none (List.map enc_tree_Node v33.l), .int .i64 v33.next], some [.int .u8 v16.K, .str v16.S, .int .i64 v16.N, .sl none (List.map AV.str v16.L), .sl none (List.map (AV.int .i64) v16.Kids)]]) (fun w _ _ h => nomatch h) (fun q1 ih1 v32 v33 h => ?_) (fun L1 => ?_)
        · unfold tree_walk_come_l1 at h
          refine runL 10000 ?_
          simp only [go_sem, seval]
          refine cnd_s 10000 h (fun hb h => ?_) (fun hb h => ?_)
          · simp only [go_sem, seval]
            refine blk_ 10000 ?_
            refine lAt_s (AV.int .i64) none .i64 ⟨3, 1, false, 8⟩ (fun _ => rfl) h fun v36 _ b34 e35 h => ?_
            refine bsome h fun v37 hv37 h => ?_
            simp only [go_sem, seval, b34, e35]
            refine callX_ 10000 (w_tree_Node_places  hv37) (by first | rfl | simp only [go_sem]) (by first | rfl | simp only [go_sem]) ?_
            simp only [go_sem, seval]
            refine bsome h fun y38 hy38 h => ?_
            refine rgJ 115 10000 (.inl rfl) (fun w => w [(0, .ptr 0 0), (1, .int .i64 i), (2, .int .i64 above), (13, .ptr 1 0), (72, .sl none (List.map (AV.int .i64) v16.Kids)), (73, .int .i64 (v16.Kids.length : Int)), (74, .int .i64 v32), (99, .bool y38.1)] [some [.sl none (List.map enc_tree_Node y38.2.l), .int .i64 y38.2.next], some [.int .u8 v16.K, .str v16.S, .int .i64 v16.N, .sl none (List.map AV.str v16.L), .sl none (List.map (AV.int .i64) v16.Kids)]]) (runX 10000 ?_) (fun Jy38 => ?_)
            · clear hy38
              simp only [go_sem, seval]
              refine cnd_s 10000 h (fun hb h => ?_) (fun hb h => ?_)
              · simp only [go_sem, seval]
                refine retH_s (fun x => .bool x.1) (fun x => [some [.sl none (List.map enc_tree_Node x.2.l), .int .i64 x.2.next]]) h ?_ ?_
                · first | rfl | simp only [go_sem, resAV, resAll, resOne, seval]
                · first | rfl | simp only [go_sem, resAV, resAll, resOne, seval]
              · refine add_s h fun v45 _ e44 h => ?_
                simp only [go_sem, seval, e44]
                exact lp_back (ih1 v45 y38.2 h) ⟨rfl, rfl, rfl, rfl, rfl, rfl, rfl, trivial⟩
            · clear h
              have h := hy38
              simp only [go_sem, seval]
              refine grd_ (fun hb40 => ?_) (fun hb40 => ?_)
              · have h := ite_f hb40 h
                refine add_s h fun v42 _ e41 h => ?_
                refine bsome h fun v43 hv43 h => ?_
                simp only [go_sem, seval, e41]
                refine callH_ 10000 [0] (hrec _ _ _ _ _ _ _ hv43) (by first | rfl | simp only [go_sem]) (by first | rfl | simp only [go_sem]) (by first | rfl | simp only [go_sem]) ?_
                simp only [go_sem, seval]
                obtain rfl := Option.some.inj h
                exact atJ (wkn (Jy38) ⟨rfl, rfl, rfl, rfl, rfl, rfl, rfl, rfl, trivial⟩)
              · have h := ite_t hb40 h
                simp only [go_sem, seval]
                obtain rfl := Option.some.inj h
                exact atJ (wkn (Jy38) ⟨rfl, rfl, rfl, rfl, rfl, rfl, rfl, rfl, trivial⟩)
          · simp only [go_sem, seval]
            exact atJ (wkn (JK18 v33 h) ⟨rfl, rfl, trivial⟩)
        · exact lp_back (L1 0 p0_w h) ⟨rfl, rfl, rfl, rfl, rfl, rfl, rfl, trivial⟩
  · clear h
    have h := hy1
    simp only [go_sem, seval]
    refine grd_ (fun hb3 => ?_) (fun hb3 => ?_)
    · have h := ite_f hb3 h
      simp only [go_sem, seval]
      refine grd_ (fun hb4 => ?_) (fun hb4 => ?_)
      · have h := ite_f hb4 h
        simp only [go_sem, seval]
        refine grd_ (fun hb5 => ?_) (fun hb5 => ?_)
        · have h := ite_f hb5 h
          refine lAt_s enc_tree_Node none .i64 ⟨46, 5, true, 80⟩ (fun _ => rfl) h fun v8 _ b6 e7 h => ?_
          refine bsome h fun v9 hv9 h => ?_
          simp only [go_sem, seval, b6, e7]
          refine callX_ 10000 (w_tree_Node_may  hv9) (by first | rfl | simp only [go_sem]) (by first | rfl | simp only [go_sem]) ?_
          simp only [go_sem, seval]
          refine grd_ (fun hb10 => ?_) (fun hb10 => ?_)
          · have h := ite_f hb10 h
            refine bsome h fun v13 hv13 h => ?_
            simp only [go_sem, seval, b6, e7]
            refine callX_ 10000 (w_tree_stands  hv13) (by first | rfl | simp only [go_sem]) (by first | rfl | simp only [go_sem]) ?_
            simp only [go_sem, seval]
            obtain rfl := Option.some.inj h
            exact atJ (wkn (Jy1) ⟨rfl, rfl, rfl, rfl, trivial⟩)
          · have h := ite_t hb10 h
            simp only [go_sem, seval]
            obtain rfl := Option.some.inj h
            exact atJ (wkn (Jy1) ⟨rfl, rfl, rfl, rfl, trivial⟩)
        · have h := ite_t hb5 h
          simp only [go_sem, seval]
          obtain rfl := Option.some.inj h
          exact atJ (wkn (Jy1) ⟨rfl, rfl, rfl, rfl, trivial⟩)
      · have h := ite_t hb4 h
        simp only [go_sem, seval]
        obtain rfl := Option.some.inj h
        exact atJ (wkn (Jy1) ⟨rfl, rfl, rfl, rfl, trivial⟩)
    · have h := ite_t hb3 h
      simp only [go_sem, seval]
      obtain rfl := Option.some.inj h
      exact atJ (wkn (Jy1) ⟨rfl, rfl, rfl, rfl, trivial⟩)
theorem R_tree_walk_come_all : ∀ n, R_tree_walk_come_ok (R_tree_walk_come_n n)
  | 0 => (fun _ _ _ _ _ _ _ h => nomatch h)
  | n+1 => fun _ _ _ _ _ _ _ h => w_tree_walk_come_b (R_tree_walk_come_all n) h
theorem w_tree_walk_come {p0_w : tree_walk} {i : Int} {above : Int} {super : Bool} {msg : Bool} {up : Bool} {r : (Bool × tree_walk)} (h : tree_walk_come p0_w i above super msg up = some r) : ACall Tryz.prog 23 [.ptr 0 0, .int .i64 i, .int .i64 above, .bool super, .bool msg, .bool up] [some [.sl none (List.map enc_tree_Node p0_w.l), .int .i64 p0_w.next]] (.bool r.1) [some [.sl none (List.map enc_tree_Node r.2.l), .int .i64 r.2.next]] := (R_tree_walk_come_all fuel) _ _ _ _ _ _ _ h
theorem w_tree_Check {m : tree_Method}   {r : (Option Int)} (h : tree_Check m = some r) : ACall Tryz.prog 8 [enc_tree_Method m] [] (encE 54 r) [] := by
  refine acallX 10000 hf8 ok8 (by first | rfl | simp only [go_sem]) meek_encE ?_
  dsimp only [Tryz.f8, nums, Option.getD, List.append]
  unfold tree_Check at h
  refine bsome h fun v1 hv1 h => ?_
  simp only [go_sem, seval]
  refine callX_ 10000 (w_slices_Concat_Lstring_string  hv1) (by first | rfl | simp only [go_sem]) (by first | rfl | simp only [go_sem]) ?_
  simp only [go_sem, seval]
  refine bsome h fun y2 hy2 h => ?_
  refine rgJ 76 10000 (.inl rfl) (fun w => w [(1, .ptr 0 0), (41, .bool y2)] [some [.str m.Sel, .sl none (List.map AV.str m.Args), .sl none (List.map AV.str m.Temps), .sl none (List.map enc_tree_Node m.Nodes), .sl none (List.map (AV.int .i64) m.Body)]]) (runX 10000 ?_) (fun Jy2 => ?_)
  · clear hy2
    simp only [go_sem, seval]
    refine cnd_s 10000 h (fun hb h => ?_) (fun hb h => ?_)
    · simp only [go_sem, seval]
      refine ret_s (fun x => encE 54 x) h ?_
      first | rfl | simp only [go_sem, resAV, resAll, resOne, seval]
    · simp only [go_sem, seval]
      refine letK_s h fun K11 hK11 h => ?_
      refine blkJ 76 10000 (fun w => ∀ (v31 : tree_walk), K11 v31 = some r → w [(1, .ptr 0 0), (4, .ptr 1 0)] [some [.str m.Sel, .sl none (List.map AV.str m.Args), .sl none (List.map AV.str m.Temps), .sl none (List.map enc_tree_Node m.Nodes), .sl none (List.map (AV.int .i64) m.Body)], some [.sl none (List.map enc_tree_Node v31.l), .int .i64 v31.next]]) (fun v31 h => runX 10000 ?_) (fun JK11 => ?_)
      · subst hK11
        dsimp only at h
        simp only [go_sem, seval]
        refine rg_ 10000 (.inr ⟨[], by kernel_rfl, by kernel_rfl, by rfl⟩) ?_
        simp only [go_sem, seval]
        refine cnd_s 10000 h (fun hb h => ?_) (fun hb h => ?_)
        · simp only [go_sem, seval]
          refine ret_s (fun x => encE 54 x) h ?_
          first | rfl | simp only [go_sem, resAV, resAll, resOne, seval]
        · simp only [go_sem, seval]
          refine ret_s (fun x => encE 54 x) h ?_
          first | rfl | simp only [go_sem, resAV, resAll, resOne, seval]
      · clear hK11
        simp only [go_sem, seval]
        refine lpJ 76 fuel (fun q1 w => ∀ (v21 : Int) (v22 : tree_walk), tree_Check_l1 m K11 q1 v21 v22 = some r → w [(1, .ptr 0 0), (4, .ptr 1 0), (48, .sl none (List.map (AV.int .i64) m.Body)), (49, .int .i64 (m.Body.length : Int)), (50, .int .i64 v21)] [some [.str m.Sel, .sl none (List.map AV.str m.Args), .sl none (List.map AV.str m.Temps), .sl none (List.map enc_tree_Node m.Nodes), .sl none (List.map (AV.int .i64) m.Body)], some [.sl none (List.map enc_tree_Node v22.l), .int .i64 v22.next]]) (fun w _ _ h => nomatch h) (fun q1 ih1 v21 v22 h => ?_) (fun L1 => ?_)
        · unfold tree_Check_l1 at h
          refine runL 10000 ?_
          simp only [go_sem, seval]
          refine cnd_s 10000 h (fun hb h => ?_) (fun hb h => ?_)
          · simp only [go_sem, seval]
            refine blk_ 10000 ?_
            refine lAt_s (AV.int .i64) none .i64 ⟨3, 1, false, 8⟩ (fun _ => rfl) h fun v25 _ b23 e24 h => ?_
            refine sub_s h fun v27 _ e26 h => ?_
            refine bsome h fun v28 hv28 h => ?_
            simp only [go_sem, seval, b23, e24, e26]
            refine callH_ 10000 [1] (w_tree_walk_come  hv28) (by first | rfl | simp only [go_sem]) (by first | rfl | simp only [go_sem]) (by first | rfl | simp only [go_sem]) ?_
            simp only [go_sem, seval]
            refine cnd_s 10000 h (fun hb h => ?_) (fun hb h => ?_)
            · simp only [go_sem, seval]
              refine ret_s (fun x => encE 54 x) h ?_
              first | rfl | simp only [go_sem, resAV, resAll, resOne, seval]
            · refine add_s h fun v30 _ e29 h => ?_
              simp only [go_sem, seval, e29]
              exact lp_back (ih1 v30 v28.2 h) ⟨rfl, rfl, rfl, rfl, rfl, trivial⟩
          · simp only [go_sem, seval]
            exact atJ (wkn (JK11 v22 h) ⟨rfl, rfl, trivial⟩)
        · exact lp_back (L1 0 (tree_walk.mk m.Nodes 0) h) ⟨rfl, rfl, rfl, rfl, rfl, trivial⟩
  · clear h
    have h := hy2
    refine bsome h fun v4 hv4 h => ?_
    simp only [go_sem, seval]
    refine callX_ 10000 (w_tree_sends  hv4) (by first | rfl | simp only [go_sem]) (by first | rfl | simp only [go_sem]) ?_
    simp only [go_sem, seval]
    refine grd_ (fun hb5 => ?_) (fun hb5 => ?_)
    · have h := ite_f hb5 h
      simp only [go_sem, seval]
      refine grd_ (fun hb6 => ?_) (fun hb6 => ?_)
      · have h := ite_f hb6 h
        refine bsome h fun v7 hv7 h => ?_
        simp only [go_sem, seval]
        refine callX_ 10000 (w_tree_unlike  hv7) (by first | rfl | simp only [go_sem]) (by first | rfl | simp only [go_sem]) ?_
        simp only [go_sem, seval]
        refine grd_ (fun hb8 => ?_) (fun hb8 => ?_)
        · have h := ite_f hb8 h
          simp only [go_sem, seval]
          refine grd_ (fun hb9 => ?_) (fun hb9 => ?_)
          · have h := ite_f hb9 h
            simp only [go_sem, seval]
            obtain rfl := Option.some.inj h
            exact atJ (wkn (Jy2) ⟨rfl, rfl, trivial⟩)
          · have h := ite_t hb9 h
            simp only [go_sem, seval]
            obtain rfl := Option.some.inj h
            exact atJ (wkn (Jy2) ⟨rfl, rfl, trivial⟩)
        · have h := ite_t hb8 h
          simp only [go_sem, seval]
          obtain rfl := Option.some.inj h
          exact atJ (wkn (Jy2) ⟨rfl, rfl, trivial⟩)
      · have h := ite_t hb6 h
        simp only [go_sem, seval]
        obtain rfl := Option.some.inj h
        exact atJ (wkn (Jy2) ⟨rfl, rfl, trivial⟩)
    · have h := ite_t hb5 h
      simp only [go_sem, seval]
      obtain rfl := Option.some.inj h
      exact atJ (wkn (Jy2) ⟨rfl, rfl, trivial⟩)
theorem w_slices_Equal_Lstring_string {s1 : (List Str)} {s2 : (List Str)}   {r : Bool} (h : slices_Equal_Lstring_string s1 s2 = some r) : ACall Tryz.prog 29 [.sl none (List.map AV.str s1), .sl none (List.map AV.str s2)] [] (.bool r) [] := by
  refine acallX 10000 hf29 ok29 (by first | rfl | simp only [go_sem]) meek_bool ?_
  dsimp only [Tryz.f29, nums, Option.getD, List.append]
  unfold slices_Equal_Lstring_string at h
  simp only [go_sem, seval]
  refine cnd_s 10000 h (fun hb h => ?_) (fun hb h => ?_)
  · simp only [go_sem, seval]
    refine ret_s (fun x => .bool x) h ?_
    first | rfl | simp only [go_sem, resAV, resAll, resOne, seval]
  · simp only [go_sem, seval]
    refine letK_s h fun K2 hK2 h => ?_
    refine blkJ 26 10000 (fun w => K2 () = some r → w [] []) (fun  h => runX 10000 ?_) (fun JK2 => ?_)
    · subst hK2
      dsimp only at h
      simp only [go_sem, seval]
      refine ret_s (fun x => .bool x) h ?_
      first | rfl | simp only [go_sem, resAV, resAll, resOne, seval]
    · clear hK2
      simp only [go_sem, seval]
      refine lpJ 26 fuel (fun q1 w => ∀ (v3 : Int), slices_Equal_Lstring_string_l1 s1 s2 K2 q1 v3 = some r → w [(0, .sl none (List.map AV.str s1)), (1, .sl none (List.map AV.str s2)), (12, .int .i64 (s1.length : Int)), (13, .int .i64 v3)] []) (fun w _ h => nomatch h) (fun q1 ih1 v3 h => ?_) (fun L1 => ?_)
      · unfold slices_Equal_Lstring_string_l1 at h
        refine runL 10000 ?_
        simp only [go_sem, seval]
        refine cnd_s 10000 h (fun hb h => ?_) (fun hb h => ?_)
        · simp only [go_sem, seval]
          refine blk_ 10000 ?_
          simp only [go_sem, seval]
          refine rg_ 10000 (.inr ⟨[], by kernel_rfl, by kernel_rfl, by rfl⟩) ?_
          refine lAt_s AV.str none .i64 ⟨9, 1, false, 16⟩ (fun _ => rfl) h fun v6 _ b4 e5 h => ?_
          refine lAt_s AV.str none .i64 ⟨9, 1, false, 16⟩ (fun _ => rfl) h fun v9 _ b7 e8 h => ?_
          simp only [go_sem, seval, b4, e5, b7, e8]
          refine cnd_s 10000 h (fun hb h => ?_) (fun hb h => ?_)
          · simp only [go_sem, seval]
            refine ret_s (fun x => .bool x) h ?_
            first | rfl | simp only [go_sem, resAV, resAll, resOne, seval]
          · refine add_s h fun v11 _ e10 h => ?_
            simp only [go_sem, seval, e10]
            exact lp_back (ih1 v11 h) ⟨rfl, rfl, rfl, rfl, trivial⟩
        · simp only [go_sem, seval]
          exact atJ (wkn (JK2  h) trivial)
      · exact lp_back (L1 0 h) ⟨rfl, rfl, rfl, rfl, trivial⟩
theorem w_slices_EqualFunc_Ltree_Node_Ltree_Node_tree_Node_tree_Node {s1 : (List tree_Node)} {s2 : (List tree_Node)} {eq : (tree_Node → tree_Node → Option Bool)}  (fv_eq : FuncId) (hf_eq : ∀ (a0 : tree_Node) (a1 : tree_Node) (z : Bool), eq a0 a1 = some z → ACall Tryz.prog fv_eq [enc_tree_Node a0, enc_tree_Node a1] [] (.bool z) []) {r : Bool} (h : slices_EqualFunc_Ltree_Node_Ltree_Node_tree_Node_tree_Node s1 s2 eq = some r) : ACall Tryz.prog 30 [.sl none (List.map enc_tree_Node s1), .sl none (List.map enc_tree_Node s2), .fn (.func fv_eq) [] []] [] (.bool r) [] := by
  refine acallX 10000 hf30 ok30 (by first | rfl | simp only [go_sem]) meek_bool ?_
  dsimp only [Tryz.f30, nums, Option.getD, List.append]
  unfold slices_EqualFunc_Ltree_Node_Ltree_Node_tree_Node_tree_Node at h
  simp only [go_sem, seval]
  refine cnd_s 10000 h (fun hb h => ?_) (fun hb h => ?_)
  · simp only [go_sem, seval]
    refine ret_s (fun x => .bool x) h ?_
    first | rfl | simp only [go_sem, resAV, resAll, resOne, seval]
  · simp only [go_sem, seval]
    refine letK_s h fun K2 hK2 h => ?_
    refine blkJ 32 10000 (fun w => K2 () = some r → w [] []) (fun  h => runX 10000 ?_) (fun JK2 => ?_)
    · subst hK2
      dsimp only at h
      simp only [go_sem, seval]
      refine ret_s (fun x => .bool x) h ?_
      first | rfl | simp only [go_sem, resAV, resAll, resOne, seval]
    · clear hK2
      simp only [go_sem, seval]
      refine lpJ 32 fuel (fun q1 w => ∀ (v3 : Int), slices_EqualFunc_Ltree_Node_Ltree_Node_tree_Node_tree_Node_l1 s1 s2 eq K2 q1 v3 = some r → w [(1, .sl none (List.map enc_tree_Node s2)), (2, .fn (.func fv_eq) [] []), (15, .sl none (List.map enc_tree_Node s1)), (16, .int .i64 (s1.length : Int)), (17, .int .i64 v3)] []) (fun w _ h => nomatch h) (fun q1 ih1 v3 h => ?_) (fun L1 => ?_)
      · unfold slices_EqualFunc_Ltree_Node_Ltree_Node_tree_Node_tree_Node_l1 at h
        refine runL 10000 ?_
        simp only [go_sem, seval]
        refine cnd_s 10000 h (fun hb h => ?_) (fun hb h => ?_)
        · simp only [go_sem, seval]
          refine blk_ 10000 ?_
          refine lAt_s enc_tree_Node none .i64 ⟨46, 5, true, 80⟩ (fun _ => rfl) h fun v6 _ b4 e5 h => ?_
          refine lAt_s enc_tree_Node none .i64 ⟨46, 5, true, 80⟩ (fun _ => rfl) h fun v9 _ b7 e8 h => ?_
          refine bsome h fun v10 hv10 h => ?_
          simp only [go_sem, seval, b4, e5, b7, e8]
          refine callX_ 10000 (hf_eq _ _ _ hv10) (by first | rfl | simp only [go_sem]) (by first | rfl | simp only [go_sem]) ?_
          simp only [go_sem, seval]
          refine cnd_s 10000 h (fun hb h => ?_) (fun hb h => ?_)
          · simp only [go_sem, seval]
            refine ret_s (fun x => .bool x) h ?_
            first | rfl | simp only [go_sem, resAV, resAll, resOne, seval]
          · refine add_s h fun v12 _ e11 h => ?_
            simp only [go_sem, seval, e11]
            exact lp_backH 0 (ih1 v12 h) ⟨rfl, rfl, rfl, rfl, rfl, trivial⟩ rfl rfl rfl (by first | rfl | simp only [go_sem, ltF]) (by first | rfl | simp only [go_sem, allLt])
        · simp only [go_sem, seval]
          exact atJ (wkn (JK2  h) trivial)
      · exact lp_back (L1 0 h) ⟨rfl, rfl, rfl, rfl, rfl, trivial⟩
theorem w_slices_Equal_Lint_int {s1 : (List Int)} {s2 : (List Int)}   {r : Bool} (h : slices_Equal_Lint_int s1 s2 = some r) : ACall Tryz.prog 32 [.sl none (List.map (AV.int .i64) s1), .sl none (List.map (AV.int .i64) s2)] [] (.bool r) [] := by
  refine acallX 10000 hf32 ok32 (by first | rfl | simp only [go_sem]) meek_bool ?_
  dsimp only [Tryz.f32, nums, Option.getD, List.append]
  unfold slices_Equal_Lint_int at h
  simp only [go_sem, seval]
  refine cnd_s 10000 h (fun hb h => ?_) (fun hb h => ?_)
  · simp only [go_sem, seval]
    refine ret_s (fun x => .bool x) h ?_
    first | rfl | simp only [go_sem, resAV, resAll, resOne, seval]
  · simp only [go_sem, seval]
    refine letK_s h fun K2 hK2 h => ?_
    refine blkJ 26 10000 (fun w => K2 () = some r → w [] []) (fun  h => runX 10000 ?_) (fun JK2 => ?_)
    · subst hK2
      dsimp only at h
      simp only [go_sem, seval]
      refine ret_s (fun x => .bool x) h ?_
      first | rfl | simp only [go_sem, resAV, resAll, resOne, seval]
    · clear hK2
      simp only [go_sem, seval]
      refine lpJ 26 fuel (fun q1 w => ∀ (v3 : Int), slices_Equal_Lint_int_l1 s1 s2 K2 q1 v3 = some r → w [(0, .sl none (List.map (AV.int .i64) s1)), (1, .sl none (List.map (AV.int .i64) s2)), (12, .int .i64 (s1.length : Int)), (13, .int .i64 v3)] []) (fun w _ h => nomatch h) (fun q1 ih1 v3 h => ?_) (fun L1 => ?_)
      · unfold slices_Equal_Lint_int_l1 at h
        refine runL 10000 ?_
        simp only [go_sem, seval]
        refine cnd_s 10000 h (fun hb h => ?_) (fun hb h => ?_)
        · simp only [go_sem, seval]
          refine blk_ 10000 ?_
          simp only [go_sem, seval]
          refine rg_ 10000 (.inr ⟨[], by kernel_rfl, by kernel_rfl, by rfl⟩) ?_
          refine lAt_s (AV.int .i64) none .i64 ⟨3, 1, false, 8⟩ (fun _ => rfl) h fun v6 _ b4 e5 h => ?_
          refine lAt_s (AV.int .i64) none .i64 ⟨3, 1, false, 8⟩ (fun _ => rfl) h fun v9 _ b7 e8 h => ?_
          simp only [go_sem, seval, b4, e5, b7, e8]
          refine cnd_s 10000 h (fun hb h => ?_) (fun hb h => ?_)
          · simp only [go_sem, seval]
            refine ret_s (fun x => .bool x) h ?_
            first | rfl | simp only [go_sem, resAV, resAll, resOne, seval]
          · refine add_s h fun v11 _ e10 h => ?_
            simp only [go_sem, seval, e10]
            exact lp_back (ih1 v11 h) ⟨rfl, rfl, rfl, rfl, trivial⟩
        · simp only [go_sem, seval]
          exact atJ (wkn (JK2  h) trivial)
      · exact lp_back (L1 0 h) ⟨rfl, rfl, rfl, rfl, trivial⟩
theorem w_tree_Node_same {n : tree_Node} {o : tree_Node}   {r : Bool} (h : tree_Node_same n o = some r) : ACall Tryz.prog 31 [enc_tree_Node n, enc_tree_Node o] [] (.bool r) [] := by
  refine acallX 10000 hf31 ok31 (by first | rfl | simp only [go_sem]) meek_bool ?_
  dsimp only [Tryz.f31, nums, Option.getD, List.append]
  unfold tree_Node_same at h
  simp only [go_sem, seval]
  refine bsome h fun y1 hy1 h => ?_
  refine rgJ 38 10000 (.inl rfl) (fun w => w [(4, .bool y1)] [some [.int .u8 n.K, .str n.S, .int .i64 n.N, .sl none (List.map AV.str n.L), .sl none (List.map (AV.int .i64) n.Kids)], some [.int .u8 o.K, .str o.S, .int .i64 o.N, .sl none (List.map AV.str o.L), .sl none (List.map (AV.int .i64) o.Kids)]]) (runX 10000 ?_) (fun Jy1 => ?_)
  · clear hy1
    simp only [go_sem, seval]
    refine ret_s (fun x => .bool x) h ?_
    first | rfl | simp only [go_sem, resAV, resAll, resOne, seval]
  · clear h
    have h := hy1
    simp only [go_sem, seval]
    refine grd_ (fun hb3 => ?_) (fun hb3 => ?_)
    · have h := ite_t hb3 h
      simp only [go_sem, seval]
      refine grd_ (fun hb4 => ?_) (fun hb4 => ?_)
      · have h := ite_t hb4 h
        simp only [go_sem, seval]
        refine grd_ (fun hb5 => ?_) (fun hb5 => ?_)
        · have h := ite_t hb5 h
          refine bsome h fun v6 hv6 h => ?_
          simp only [go_sem, seval]
          refine callX_ 10000 (w_slices_Equal_Lstring_string  hv6) (by first | rfl | simp only [go_sem]) (by first | rfl | simp only [go_sem]) ?_
          simp only [go_sem, seval]
          refine grd_ (fun hb7 => ?_) (fun hb7 => ?_)
          · have h := ite_t hb7 h
            refine bsome h fun v8 hv8 h => ?_
            simp only [go_sem, seval]
            refine callX_ 10000 (w_slices_Equal_Lint_int  hv8) (by first | rfl | simp only [go_sem]) (by first | rfl | simp only [go_sem]) ?_
            simp only [go_sem, seval]
            obtain rfl := Option.some.inj h
            exact atJ (wkn (Jy1) ⟨rfl, trivial⟩)
          · have h := ite_f hb7 h
            simp only [go_sem, seval]
            obtain rfl := Option.some.inj h
            exact atJ (wkn (Jy1) ⟨rfl, trivial⟩)
        · have h := ite_f hb5 h
          simp only [go_sem, seval]
          obtain rfl := Option.some.inj h
          exact atJ (wkn (Jy1) ⟨rfl, trivial⟩)
      · have h := ite_f hb4 h
        simp only [go_sem, seval]
        obtain rfl := Option.some.inj h
        exact atJ (wkn (Jy1) ⟨rfl, trivial⟩)
    · have h := ite_f hb3 h
      simp only [go_sem, seval]
      obtain rfl := Option.some.inj h
      exact atJ (wkn (Jy1) ⟨rfl, trivial⟩)
theorem w_tree_Same {a : tree_Method} {p1_b : tree_Method}   {r : Bool} (h : tree_Same a p1_b = some r) : ACall Tryz.prog 11 [enc_tree_Method a, enc_tree_Method p1_b] [] (.bool r) [] := by
  refine acallX 10000 hf11 ok11 (by first | rfl | simp only [go_sem]) meek_bool ?_
  dsimp only [Tryz.f11, nums, Option.getD, List.append]
  unfold tree_Same at h
  simp only [go_sem, seval]
  refine bsome h fun y1 hy1 h => ?_
  refine rgJ 38 10000 (.inl rfl) (fun w => w [(4, .bool y1)] [some [.str a.Sel, .sl none (List.map AV.str a.Args), .sl none (List.map AV.str a.Temps), .sl none (List.map enc_tree_Node a.Nodes), .sl none (List.map (AV.int .i64) a.Body)], some [.str p1_b.Sel, .sl none (List.map AV.str p1_b.Args), .sl none (List.map AV.str p1_b.Temps), .sl none (List.map enc_tree_Node p1_b.Nodes), .sl none (List.map (AV.int .i64) p1_b.Body)]]) (runX 10000 ?_) (fun Jy1 => ?_)
  · clear hy1
    simp only [go_sem, seval]
    refine ret_s (fun x => .bool x) h ?_
    first | rfl | simp only [go_sem, resAV, resAll, resOne, seval]
  · clear h
    have h := hy1
    simp only [go_sem, seval]
    refine grd_ (fun hb3 => ?_) (fun hb3 => ?_)
    · have h := ite_t hb3 h
      refine bsome h fun v4 hv4 h => ?_
      simp only [go_sem, seval]
      refine callX_ 10000 (w_slices_Equal_Lstring_string  hv4) (by first | rfl | simp only [go_sem]) (by first | rfl | simp only [go_sem]) ?_
      simp only [go_sem, seval]
      refine grd_ (fun hb5 => ?_) (fun hb5 => ?_)
      · have h := ite_t hb5 h
        refine bsome h fun v6 hv6 h => ?_
        simp only [go_sem, seval]
        refine callX_ 10000 (w_slices_Equal_Lstring_string  hv6) (by first | rfl | simp only [go_sem]) (by first | rfl | simp only [go_sem]) ?_
        simp only [go_sem, seval]
        refine grd_ (fun hb7 => ?_) (fun hb7 => ?_)
        · have h := ite_t hb7 h
          refine bsome h fun v8 hv8 h => ?_
          simp only [go_sem, seval]
          refine callX_ 10000 (w_slices_EqualFunc_Ltree_Node_Ltree_Node_tree_Node_tree_Node 31 (fun _ _ _ h => w_tree_Node_same h) hv8) (by first | rfl | simp only [go_sem]) (by first | rfl | simp only [go_sem]) ?_
          simp only [go_sem, seval]
          refine grd_ (fun hb9 => ?_) (fun hb9 => ?_)
          · have h := ite_t hb9 h
            refine bsome h fun v10 hv10 h => ?_
            simp only [go_sem, seval]
            refine callX_ 10000 (w_slices_Equal_Lint_int  hv10) (by first | rfl | simp only [go_sem]) (by first | rfl | simp only [go_sem]) ?_
            simp only [go_sem, seval]
            obtain rfl := Option.some.inj h
            exact atJ (wkn (Jy1) ⟨rfl, trivial⟩)
          · have h := ite_f hb9 h
            simp only [go_sem, seval]
            obtain rfl := Option.some.inj h
            exact atJ (wkn (Jy1) ⟨rfl, trivial⟩)
        · have h := ite_f hb7 h
          simp only [go_sem, seval]
          obtain rfl := Option.some.inj h
          exact atJ (wkn (Jy1) ⟨rfl, trivial⟩)
      · have h := ite_f hb5 h
        simp only [go_sem, seval]
        obtain rfl := Option.some.inj h
        exact atJ (wkn (Jy1) ⟨rfl, trivial⟩)
    · have h := ite_f hb3 h
      simp only [go_sem, seval]
      obtain rfl := Option.some.inj h
      exact atJ (wkn (Jy1) ⟨rfl, trivial⟩)
theorem w_law14_texts {a : (List Str)} {p1_b : (List Str)}   {r : Bool} (h : law14_texts a p1_b = some r) : ACall Tryz.prog 13 [.sl none (List.map AV.str a), .sl none (List.map AV.str p1_b)] [] (.bool r) [] := by
  refine acallX 10000 hf13 ok13 (by first | rfl | simp only [go_sem]) meek_bool ?_
  dsimp only [Tryz.f13, nums, Option.getD, List.append]
  unfold law14_texts at h
  simp only [go_sem, seval]
  refine cnd_s 10000 h (fun hb h => ?_) (fun hb h => ?_)
  · simp only [go_sem, seval]
    refine ret_s (fun x => .bool x) h ?_
    first | rfl | simp only [go_sem, resAV, resAll, resOne, seval]
  · simp only [go_sem, seval]
    refine letK_s h fun K2 hK2 h => ?_
    refine blkJ 26 10000 (fun w => K2 () = some r → w [] []) (fun  h => runX 10000 ?_) (fun JK2 => ?_)
    · subst hK2
      dsimp only at h
      simp only [go_sem, seval]
      refine ret_s (fun x => .bool x) h ?_
      first | rfl | simp only [go_sem, resAV, resAll, resOne, seval]
    · clear hK2
      simp only [go_sem, seval]
      refine lpJ 26 fuel (fun q1 w => ∀ (v3 : Int), law14_texts_l1 a p1_b K2 q1 v3 = some r → w [(0, .sl none (List.map AV.str a)), (1, .sl none (List.map AV.str p1_b)), (5, .int .i64 v3)] []) (fun w _ h => nomatch h) (fun q1 ih1 v3 h => ?_) (fun L1 => ?_)
      · unfold law14_texts_l1 at h
        refine runL 10000 ?_
        simp only [go_sem, seval]
        refine cnd_s 10000 h (fun hb h => ?_) (fun hb h => ?_)
        · simp only [go_sem, seval]
          refine blk_ 10000 ?_
          simp only [go_sem, seval]
          refine rg_ 10000 (.inr ⟨[], by kernel_rfl, by kernel_rfl, by rfl⟩) ?_
          refine lAt_s AV.str none .i64 ⟨9, 1, false, 16⟩ (fun _ => rfl) h fun v6 _ b4 e5 h => ?_
          refine lAt_s AV.str none .i64 ⟨9, 1, false, 16⟩ (fun _ => rfl) h fun v9 _ b7 e8 h => ?_
          simp only [go_sem, seval, b4, e5, b7, e8]
          refine cnd_s 10000 h (fun hb h => ?_) (fun hb h => ?_)
          · simp only [go_sem, seval]
            refine ret_s (fun x => .bool x) h ?_
            first | rfl | simp only [go_sem, resAV, resAll, resOne, seval]
          · refine add_s h fun v11 _ e10 h => ?_
            simp only [go_sem, seval, e10]
            exact lp_back (ih1 v11 h) ⟨rfl, rfl, rfl, trivial⟩
        · simp only [go_sem, seval]
          exact atJ (wkn (JK2  h) trivial)
      · exact lp_back (L1 0 h) ⟨rfl, rfl, rfl, trivial⟩
def R_tree_Method_free_ok (rec : R_tree_Method_free) : Prop := (∀ (m : tree_Method) (i : Int) (own : (List Str)) (r : (List Str)), rec.tree_Method_free m i own = some r → ACall Tryz.prog 35 [enc_tree_Method m, .int .i64 i, .sl none (List.map AV.str own)] [] (.sl none (List.map AV.str r)) [])
theorem w_tree_Method_free_b {rec : R_tree_Method_free} (hrec : R_tree_Method_free_ok rec) {m : tree_Method} {i : Int} {own : (List Str)}   {r : (List Str)} (h : tree_Method_free_b rec m i own = some r) : ACall Tryz.prog 35 [enc_tree_Method m, .int .i64 i, .sl none (List.map AV.str own)] [] (.sl none (List.map AV.str r)) [] := by
  refine acallX 10000 hf35 ok35 (by first | rfl | simp only [go_sem]) meek_sl ?_
  dsimp only [Tryz.f35, nums, Option.getD, List.append]
  unfold tree_Method_free_b at h
  refine lAt_s enc_tree_Node none .i64 ⟨46, 5, true, 80⟩ (fun _ => rfl) h fun v3 _ b1 e2 h => ?_
  simp only [go_sem, seval, b1, e2]
  refine bsome h fun y4 hy4 h => ?_
  refine cndJ 59 10000 (fun w => w [(2, .sl none (List.map AV.str y4)), (3, .ptr 0 0), (7, .ptr 1 0)] [some [.str m.Sel, .sl none (List.map AV.str m.Args), .sl none (List.map AV.str m.Temps), .sl none (List.map enc_tree_Node m.Nodes), .sl none (List.map (AV.int .i64) m.Body)], some [.int .u8 v3.K, .str v3.S, .int .i64 v3.N, .sl none (List.map AV.str v3.L), .sl none (List.map (AV.int .i64) v3.Kids)]]) (runX 10000 ?_) (fun Jy4 => ?_)
  · clear hy4
    simp only [go_sem, seval]
    refine bsome h fun y7 hy7 h => ?_
    refine rgJ 59 10000 (.inl rfl) (fun w => w [(2, .sl none (List.map AV.str y4)), (3, .ptr 0 0), (7, .ptr 1 0), (8, .sl (some none) []), (38, .bool y7)] [some [.str m.Sel, .sl none (List.map AV.str m.Args), .sl none (List.map AV.str m.Temps), .sl none (List.map enc_tree_Node m.Nodes), .sl none (List.map (AV.int .i64) m.Body)], some [.int .u8 v3.K, .str v3.S, .int .i64 v3.N, .sl none (List.map AV.str v3.L), .sl none (List.map (AV.int .i64) v3.Kids)]]) (runX 10000 ?_) (fun Jy7 => ?_)
    · clear hy7
      simp only [go_sem, seval]
      refine bsome h fun y13 hy13 h => ?_
      refine cndJ 59 10000 (fun w => w [(2, .sl none (List.map AV.str y4)), (3, .ptr 0 0), (7, .ptr 1 0), (8, .sl (some none) (List.map AV.str y13))] [some [.str m.Sel, .sl none (List.map AV.str m.Args), .sl none (List.map AV.str m.Temps), .sl none (List.map enc_tree_Node m.Nodes), .sl none (List.map (AV.int .i64) m.Body)], some [.int .u8 v3.K, .str v3.S, .int .i64 v3.N, .sl none (List.map AV.str v3.L), .sl none (List.map (AV.int .i64) v3.Kids)]]) (runX 10000 ?_) (fun Jy13 => ?_)
      · clear hy13
        simp only [go_sem, seval]
        refine bsome h fun y18 hy18 h => ?_
        refine blkJ 59 10000 (fun w => w [(8, .sl (some none) (List.map AV.str y18))] [some [.str m.Sel, .sl none (List.map AV.str m.Args), .sl none (List.map AV.str m.Temps), .sl none (List.map enc_tree_Node m.Nodes), .sl none (List.map (AV.int .i64) m.Body)], some [.int .u8 v3.K, .str v3.S, .int .i64 v3.N, .sl none (List.map AV.str v3.L), .sl none (List.map (AV.int .i64) v3.Kids)]]) (runX 10000 ?_) (fun Jy18 => ?_)
        · clear hy18
          simp only [go_sem, seval]
          refine ret_s (fun x => .sl none (List.map AV.str x)) h ?_
          first | rfl | simp only [go_sem, resAV, resAll, resOne, seval]
        · clear h
          have h := hy18
          simp only [go_sem, seval]
          refine lpJ 59 fuel (fun q1 w => ∀ (v20 : (List Str)) (v21 : Int), tree_Method_free_l1 m rec v3 y4 q1 v20 v21 = some y18 → w [(2, .sl none (List.map AV.str y4)), (3, .ptr 0 0), (8, .sl (some none) (List.map AV.str v20)), (45, .sl none (List.map (AV.int .i64) v3.Kids)), (46, .int .i64 (v3.Kids.length : Int)), (47, .int .i64 v21)] [some [.str m.Sel, .sl none (List.map AV.str m.Args), .sl none (List.map AV.str m.Temps), .sl none (List.map enc_tree_Node m.Nodes), .sl none (List.map (AV.int .i64) m.Body)], some [.int .u8 v3.K, .str v3.S, .int .i64 v3.N, .sl none (List.map AV.str v3.L), .sl none (List.map (AV.int .i64) v3.Kids)]]) (fun w _ _ h => nomatch h) (fun q1 ih1 v20 v21 h => ?_) (fun L1 => ?_)
          · unfold tree_Method_free_l1 at h
            refine runL 10000 ?_
            simp only [go_sem, seval]
            refine cnd_s 10000 h (fun hb h => ?_) (fun hb h => ?_)
            · simp only [go_sem, seval]
              refine blk_ 10000 ?_
              refine lAt_s (AV.int .i64) none .i64 ⟨3, 1, false, 8⟩ (fun _ => rfl) h fun v24 _ b22 e23 h => ?_
              refine bsome h fun v25 hv25 h => ?_
              simp only [go_sem, seval, b22, e23]
              refine callX_ 10000 (hrec _ _ _ _ hv25) (by first | rfl | simp only [go_sem]) (by first | rfl | simp only [go_sem]) ?_
              refine app_s AV.str none ⟨9, 1, false, 16⟩ (fun _ => rfl) (by decide) rfl h fun v28 _ b26 e27 h => ?_
              refine add_s h fun v30 _ e29 h => ?_
              simp only [go_sem, seval, b26, e27, e29]
              exact lp_back (ih1 v28 v30 h) ⟨rfl, rfl, rfl, rfl, rfl, rfl, trivial⟩
            · simp only [go_sem, seval]
              obtain rfl := Option.some.inj h
              exact atJ (wkn (Jy18) ⟨rfl, trivial⟩)
          · exact lp_back (L1 y13 0 h) ⟨rfl, rfl, rfl, rfl, rfl, rfl, trivial⟩
      · clear h
        have h := hy13
        refine cnd_s 10000 h (fun hb h => ?_) (fun hb h => ?_)
        · refine app_s AV.str (some none) ⟨9, 1, false, 16⟩ (fun _ => rfl) (by decide) rfl h fun v17 _ (b15 : appc ⟨9, 1, false, 16⟩ (.sl (some none) []) (.sl (some none) [.str v3.S])) (e16 : appv (.sl (some none) []) (.sl (some none) [.str v3.S]) = .sl (some none) (List.map AV.str v17)) h => ?_
          simp only [go_sem, seval, b15, e16]
          obtain rfl := Option.some.inj h
          exact atJ (wkn (Jy13) ⟨rfl, rfl, rfl, rfl, trivial⟩)
        · simp only [go_sem, seval]
          obtain rfl := Option.some.inj h
          exact atJ (wkn (Jy13) ⟨rfl, rfl, rfl, rfl, trivial⟩)
    · clear h
      have h := hy7
      simp only [go_sem, seval]
      refine grd_ (fun hb9 => ?_) (fun hb9 => ?_)
      · have h := ite_f hb9 h
        simp only [go_sem, seval]
        refine grd_ (fun hb10 => ?_) (fun hb10 => ?_)
        · have h := ite_t hb10 h
          refine bsome h fun v11 hv11 h => ?_
          simp only [go_sem, seval]
          refine callX_ 10000 (w_slices_Contains_Lstring_string  hv11) (by first | rfl | simp only [go_sem]) (by first | rfl | simp only [go_sem]) ?_
          simp only [go_sem, seval]
          obtain rfl := Option.some.inj h
          exact atJ (wkn (Jy7) ⟨rfl, rfl, rfl, rfl, rfl, trivial⟩)
        · have h := ite_f hb10 h
          simp only [go_sem, seval]
          obtain rfl := Option.some.inj h
          exact atJ (wkn (Jy7) ⟨rfl, rfl, rfl, rfl, rfl, trivial⟩)
      · have h := ite_t hb9 h
        refine bsome h fun v12 hv12 h => ?_
        simp only [go_sem, seval]
        refine callX_ 10000 (w_slices_Contains_Lstring_string  hv12) (by first | rfl | simp only [go_sem]) (by first | rfl | simp only [go_sem]) ?_
        simp only [go_sem, seval]
        obtain rfl := Option.some.inj h
        exact atJ (wkn (Jy7) ⟨rfl, rfl, rfl, rfl, rfl, trivial⟩)
  · clear h
    have h := hy4
    refine cnd_s 10000 h (fun hb h => ?_) (fun hb h => ?_)
    · refine bsome h fun v6 hv6 h => ?_
      simp only [go_sem, seval]
      refine callX_ 10000 (w_slices_Concat_Lstring_string  hv6) (by first | rfl | simp only [go_sem]) (by first | rfl | simp only [go_sem]) ?_
      simp only [go_sem, seval]
      obtain rfl := Option.some.inj h
      exact atJ (wkn (Jy4) ⟨rfl, rfl, rfl, trivial⟩)
    · simp only [go_sem, seval]
      obtain rfl := Option.some.inj h
      exact atJ (wkn (Jy4) ⟨rfl, rfl, rfl, trivial⟩)
theorem R_tree_Method_free_all : ∀ n, R_tree_Method_free_ok (R_tree_Method_free_n n)
  | 0 => (fun _ _ _ _ h => nomatch h)
  | n+1 => fun _ _ _ _ h => w_tree_Method_free_b (R_tree_Method_free_all n) h
theorem w_tree_Method_free {m : tree_Method} {i : Int} {own : (List Str)} {r : (List Str)} (h : tree_Method_free m i own = some r) : ACall Tryz.prog 35 [enc_tree_Method m, .int .i64 i, .sl none (List.map AV.str own)] [] (.sl none (List.map AV.str r)) [] := (R_tree_Method_free_all fuel) _ _ _ _ h
theorem w_tree_Free {m : tree_Method}   {r : (List Str)} (h : tree_Free m = some r) : ACall Tryz.prog 14 [enc_tree_Method m] [] (.sl none (List.map AV.str r)) [] := by
  refine acallX 10000 hf14 ok14 (by first | rfl | simp only [go_sem]) meek_sl ?_
  dsimp only [Tryz.f14, nums, Option.getD, List.append]
  unfold tree_Free at h
  refine bsome h fun v1 hv1 h => ?_
  simp only [go_sem, seval]
  refine callX_ 10000 (w_tree_Check  hv1) (by first | rfl | simp only [go_sem]) (by first | rfl | simp only [go_sem]) ?_
  simp only [go_sem, seval]
  refine cnd_s 10000 h (fun hb h => ?_) (fun hb h => ?_)
  · simp only [go_sem, seval]
    refine ret_s (fun x => .sl none (List.map AV.str x)) h ?_
    first | rfl | simp only [go_sem, resAV, resAll, resOne, seval]
  · simp only [go_sem, seval]
    refine prom_blk 3 1 false rfl (by first | rfl | simp only [go_sem]) rfl ?_
    refine bsome h fun y2 hy2 h => ?_
    refine blkJ 30 10000 (fun w => w [(3, .rs 1 0 y2.length 1 false false)] [some [.str m.Sel, .sl none (List.map AV.str m.Args), .sl none (List.map AV.str m.Temps), .sl none (List.map enc_tree_Node m.Nodes), .sl none (List.map (AV.int .i64) m.Body)], some (List.map AV.str y2)]) (runX 10000 ?_) (fun Jy2 => ?_)
    · clear hy2
      simp only [go_sem, seval]
      refine mvR_ 10000 rfl (by first | rfl | simp only [go_sem]) ?_
      refine bsome h fun v29 hv29 h => ?_
      simp only [go_sem, seval]
      refine callE_ 10000 1 AV.str plain_str (w_tree_sorted hv29 rfl) (by first | rfl | simp only [go_sem]) (by first | rfl | simp only [go_sem]) (by first | rfl | simp only [go_sem]) ?_
      simp only [go_sem, seval]
      refine ret_s (fun x => .sl none (List.map AV.str x)) h ?_
      first | rfl | simp only [go_sem, resAV, resAll, resOne, seval]
    · clear h
      have h := hy2
      simp only [go_sem, seval]
      refine lpJ 30 fuel (fun q1 w => ∀ (v16 : Int) (v17 : (List Str)), tree_Free_l1 m q1 v16 v17 = some y2 → w [(1, .ptr 0 0), (3, .rs 1 0 v17.length 1 false false), (10, .sl none (List.map (AV.int .i64) m.Body)), (11, .int .i64 (m.Body.length : Int)), (12, .int .i64 v16)] [some [.str m.Sel, .sl none (List.map AV.str m.Args), .sl none (List.map AV.str m.Temps), .sl none (List.map enc_tree_Node m.Nodes), .sl none (List.map (AV.int .i64) m.Body)], some (List.map AV.str v17)]) (fun w _ _ h => nomatch h) (fun q1 ih1 v16 v17 h => ?_) (fun L1 => ?_)
      · unfold tree_Free_l1 at h
        refine runL 10000 ?_
        simp only [go_sem, seval]
        refine cnd_s 10000 h (fun hb h => ?_) (fun hb h => ?_)
        · simp only [go_sem, seval]
          refine blk_ 10000 ?_
          refine lAt_s (AV.int .i64) none .i64 ⟨3, 1, false, 8⟩ (fun _ => rfl) h fun v20 _ b18 e19 h => ?_
          simp only [go_sem, seval, b18, e19]
          refine rg_ 10000 (.inr ⟨[], by kernel_rfl, by kernel_rfl, by rfl⟩) ?_
          refine bsome h fun v21 hv21 h => ?_
          simp only [go_sem, seval]
          refine callX_ 10000 (w_slices_Concat_Lstring_string  hv21) (by first | rfl | simp only [go_sem]) (by first | rfl | simp only [go_sem]) ?_
          refine bsome h fun v22 hv22 h => ?_
          simp only [go_sem, seval]
          refine callX_ 10000 (w_tree_Method_free  hv22) (by first | rfl | simp only [go_sem]) (by first | rfl | simp only [go_sem]) ?_
          simp only [go_sem, seval]
          refine appB_s AV.str none ⟨9, 1, false, 16⟩ (fun _ => rfl) (by decide) rfl h fun v26 e23 e24 e25 h => ?_
          refine appBD_ 10000 AV.str plain_str (v := v17) (ws := v22) (by kernel_rfl) rfl rfl rfl el22 rfl kd22 (by first | rfl | simp only [go_sem]) (by first | rfl | simp only [go_sem]) (by first | rfl | simp only [go_sem]) e23 e24 e25 (by first | rfl | simp only [go_sem]) rfl rfl ?_
          refine add_s h fun v28 _ e27 h => ?_
          simp only [go_sem, seval, e27]
          exact lp_back (ih1 v28 v26 h) ⟨rfl, rfl, rfl, rfl, rfl, trivial⟩
        · simp only [go_sem, seval]
          obtain rfl := Option.some.inj h
          exact atJ (wkn (Jy2) ⟨rfl, trivial⟩)
      · exact lp_back (L1 0 [] h) ⟨rfl, rfl, rfl, rfl, rfl, trivial⟩
theorem w_tree_Sent {m : tree_Method}   {r : (List Str)} (h : tree_Sent m = some r) : ACall Tryz.prog 16 [enc_tree_Method m] [] (.sl none (List.map AV.str r)) [] := by
  refine acallX 10000 hf16 ok16 (by first | rfl | simp only [go_sem]) meek_sl ?_
  dsimp only [Tryz.f16, nums, Option.getD, List.append]
  unfold tree_Sent at h
  refine bsome h fun v1 hv1 h => ?_
  simp only [go_sem, seval]
  refine callX_ 10000 (w_tree_Check  hv1) (by first | rfl | simp only [go_sem]) (by first | rfl | simp only [go_sem]) ?_
  simp only [go_sem, seval]
  refine cnd_s 10000 h (fun hb h => ?_) (fun hb h => ?_)
  · simp only [go_sem, seval]
    refine ret_s (fun x => .sl none (List.map AV.str x)) h ?_
    first | rfl | simp only [go_sem, resAV, resAll, resOne, seval]
  · simp only [go_sem, seval]
    refine prom_blk 3 1 false rfl (by first | rfl | simp only [go_sem]) rfl ?_
    refine bsome h fun y2 hy2 h => ?_
    refine blkJ 32 10000 (fun w => w [(3, .rs 1 0 y2.length 1 false false)] [some [.str m.Sel, .sl none (List.map AV.str m.Args), .sl none (List.map AV.str m.Temps), .sl none (List.map enc_tree_Node m.Nodes), .sl none (List.map (AV.int .i64) m.Body)], some (List.map AV.str y2)]) (runX 10000 ?_) (fun Jy2 => ?_)
    · clear hy2
      simp only [go_sem, seval]
      refine mvR_ 10000 rfl (by first | rfl | simp only [go_sem]) ?_
      refine bsome h fun v33 hv33 h => ?_
      simp only [go_sem, seval]
      refine callE_ 10000 1 AV.str plain_str (w_tree_sorted hv33 rfl) (by first | rfl | simp only [go_sem]) (by first | rfl | simp only [go_sem]) (by first | rfl | simp only [go_sem]) ?_
      simp only [go_sem, seval]
      refine ret_s (fun x => .sl none (List.map AV.str x)) h ?_
      first | rfl | simp only [go_sem, resAV, resAll, resOne, seval]
    · clear h
      have h := hy2
      simp only [go_sem, seval]
      refine lpJ 32 fuel (fun q1 w => ∀ (v18 : Int) (v19 : (List Str)), tree_Sent_l1 m q1 v18 v19 = some y2 → w [(3, .rs 1 0 v19.length 1 false false), (10, .sl none (List.map enc_tree_Node m.Nodes)), (11, .int .i64 (m.Nodes.length : Int)), (12, .int .i64 v18)] [some [.str m.Sel, .sl none (List.map AV.str m.Args), .sl none (List.map AV.str m.Temps), .sl none (List.map enc_tree_Node m.Nodes), .sl none (List.map (AV.int .i64) m.Body)], some (List.map AV.str v19)]) (fun w _ _ h => nomatch h) (fun q1 ih1 v18 v19 h => ?_) (fun L1 => ?_)
      · unfold tree_Sent_l1 at h
        refine runL 10000 ?_
        simp only [go_sem, seval]
        refine cnd_s 10000 h (fun hb h => ?_) (fun hb h => ?_)
        · simp only [go_sem, seval]
          refine blk_ 10000 ?_
          refine lAt_s enc_tree_Node none .i64 ⟨46, 5, true, 80⟩ (fun _ => rfl) h fun v22 _ b20 e21 h => ?_
          simp only [go_sem, seval, b20, e21]
          refine rgJ 32 10000 (.inl rfl) (fun w => w [(3, .rs 1 0 v19.length 1 false false), (5, .ptr 2 0), (10, .sl none (List.map enc_tree_Node m.Nodes)), (11, .int .i64 (m.Nodes.length : Int)), (12, .int .i64 v18), (23, .bool ((decide (v22.K = 9)) || (decide (v22.K = 11))))] [some [.str m.Sel, .sl none (List.map AV.str m.Args), .sl none (List.map AV.str m.Temps), .sl none (List.map enc_tree_Node m.Nodes), .sl none (List.map (AV.int .i64) m.Body)], some (List.map AV.str v19), some [.int .u8 v22.K, .str v22.S, .int .i64 v22.N, .sl none (List.map AV.str v22.L), .sl none (List.map (AV.int .i64) v22.Kids)]]) (runX 10000 ?_) (fun Jg23 => ?_)
          · simp only [go_sem, seval]
            refine bsome h fun y24 hy24 h => ?_
            refine cndJ 32 10000 (fun w => w [(3, .rs 1 0 y24.length 1 false false), (10, .sl none (List.map enc_tree_Node m.Nodes)), (11, .int .i64 (m.Nodes.length : Int)), (12, .int .i64 v18)] [some [.str m.Sel, .sl none (List.map AV.str m.Args), .sl none (List.map AV.str m.Temps), .sl none (List.map enc_tree_Node m.Nodes), .sl none (List.map (AV.int .i64) m.Body)], some (List.map AV.str y24), some [.int .u8 v22.K, .str v22.S, .int .i64 v22.N, .sl none (List.map AV.str v22.L), .sl none (List.map (AV.int .i64) v22.Kids)]]) (runX 10000 ?_) (fun Jy24 => ?_)
            · clear hy24
              refine add_s h fun v31 _ e30 h => ?_
              simp only [go_sem, seval, e30]
              exact lp_backH 2 (ih1 v31 y24 h) ⟨rfl, rfl, rfl, rfl, trivial⟩ rfl rfl rfl (by first | rfl | simp only [go_sem, ltF]) (by first | rfl | simp only [go_sem, allLt])
            · clear h
              have h := hy24
              refine cnd_s 10000 h (fun hb h => ?_) (fun hb h => ?_)
              · simp only [go_sem, seval]
                refine appB_s AV.str (some none) ⟨9, 1, false, 16⟩ (fun _ => rfl) (by decide) rfl h fun v29 e26 e27 e28 h => ?_
                refine appB_ 10000 AV.str plain_str (v := v19) (ws := ([v22.S] : List Str)) rfl rfl rfl el22 rfl kd22 (by first | rfl | simp only [go_sem]) (by first | rfl | simp only [go_sem]) (by first | rfl | simp only [go_sem]) e26 e27 e28 (by first | rfl | simp only [go_sem]) rfl rfl ?_
                simp only [go_sem, seval]
                obtain rfl := Option.some.inj h
                exact atJ (wkn (Jy24) ⟨rfl, rfl, rfl, rfl, trivial⟩)
              · simp only [go_sem, seval]
                obtain rfl := Option.some.inj h
                exact atJ (wkn (Jy24) ⟨rfl, rfl, rfl, rfl, trivial⟩)
          · simp only [go_sem, seval]
            refine grd_ (fun hb32 => ?_) (fun hb32 => ?_)
            · simp only [go_sem, seval]
              exact atJ (wkn Jg23 ⟨rfl, rfl, rfl, rfl, rfl, congrArg AV.bool (by first | rfl | (rw [hb32]; rfl) | (simp [hb32]; done) | simp_all), trivial⟩)
            · simp only [go_sem, seval]
              exact atJ (wkn Jg23 ⟨rfl, rfl, rfl, rfl, rfl, congrArg AV.bool (by first | rfl | (rw [hb32]; rfl) | (simp [hb32]; done) | simp_all), trivial⟩)
        · simp only [go_sem, seval]
          obtain rfl := Option.some.inj h
          exact atJ (wkn (Jy2) ⟨rfl, trivial⟩)
      · exact lp_back (L1 0 [] h) ⟨rfl, rfl, rfl, rfl, trivial⟩
theorem w_slices_IndexFunc_Ltree_Class_tree_Class {s : (List tree_Class)} {p1_f : (tree_Class → Option Bool)}  (fv_p1_f : FuncId) (hf_p1_f : ∀ (a0 : tree_Class) (z : Bool), p1_f a0 = some z → ACall Tryz.prog fv_p1_f [enc_tree_Class a0] [] (.bool z) []) {r : Int} (h : slices_IndexFunc_Ltree_Class_tree_Class s p1_f = some r) : ACall Tryz.prog 60 [.sl none (List.map enc_tree_Class s), .fn (.func fv_p1_f) [] []] [] (.int .i64 r) [] := by
  refine acallX 10000 hf60 ok60 (by first | rfl | simp only [go_sem]) meek_int ?_
  dsimp only [Tryz.f60, nums, Option.getD, List.append]
  unfold slices_IndexFunc_Ltree_Class_tree_Class at h
  simp only [go_sem, seval]
  refine letK_s h fun K2 hK2 h => ?_
  refine blkJ 19 10000 (fun w => K2 () = some r → w [] []) (fun  h => runX 10000 ?_) (fun JK2 => ?_)
  · subst hK2
    dsimp only at h
    simp only [go_sem, seval]
    refine ret_s (fun x => .int .i64 x) h ?_
    first | rfl | simp only [go_sem, resAV, resAll, resOne, seval]
  · clear hK2
    simp only [go_sem, seval]
    refine lpJ 19 fuel (fun q1 w => ∀ (v3 : Int), slices_IndexFunc_Ltree_Class_tree_Class_l1 s p1_f K2 q1 v3 = some r → w [(0, .sl none (List.map enc_tree_Class s)), (1, .fn (.func fv_p1_f) [] []), (7, .int .i64 (s.length : Int)), (8, .int .i64 v3)] []) (fun w _ h => nomatch h) (fun q1 ih1 v3 h => ?_) (fun L1 => ?_)
    · unfold slices_IndexFunc_Ltree_Class_tree_Class_l1 at h
      refine runL 10000 ?_
      simp only [go_sem, seval]
      refine cnd_s 10000 h (fun hb h => ?_) (fun hb h => ?_)
      · simp only [go_sem, seval]
        refine blk_ 10000 ?_
        refine lAt_s enc_tree_Class none .i64 ⟨50, 4, true, 80⟩ (fun _ => rfl) h fun v6 _ b4 e5 h => ?_
        refine bsome h fun v7 hv7 h => ?_
        simp only [go_sem, seval, b4, e5]
        refine callX_ 10000 (hf_p1_f _ _ hv7) (by first | rfl | simp only [go_sem]) (by first | rfl | simp only [go_sem]) ?_
        simp only [go_sem, seval]
        refine cnd_s 10000 h (fun hb h => ?_) (fun hb h => ?_)
        · simp only [go_sem, seval]
          refine ret_s (fun x => .int .i64 x) h ?_
          first | rfl | simp only [go_sem, resAV, resAll, resOne, seval]
        · refine add_s h fun v9 _ e8 h => ?_
          simp only [go_sem, seval, e8]
          exact lp_back (ih1 v9 h) ⟨rfl, rfl, rfl, rfl, trivial⟩
      · simp only [go_sem, seval]
        exact atJ (wkn (JK2  h) trivial)
    · exact lp_back (L1 0 h) ⟨rfl, rfl, rfl, rfl, trivial⟩
theorem w_slices_ContainsFunc_Ltree_Class_tree_Class {s : (List tree_Class)} {p1_f : (tree_Class → Option Bool)}  (fv_p1_f : FuncId) (hf_p1_f : ∀ (a0 : tree_Class) (z : Bool), p1_f a0 = some z → ACall Tryz.prog fv_p1_f [enc_tree_Class a0] [] (.bool z) []) {r : Bool} (h : slices_ContainsFunc_Ltree_Class_tree_Class s p1_f = some r) : ACall Tryz.prog 40 [.sl none (List.map enc_tree_Class s), .fn (.func fv_p1_f) [] []] [] (.bool r) [] := by
  refine acallX 10000 hf40 ok40 (by first | rfl | simp only [go_sem]) meek_bool ?_
  dsimp only [Tryz.f40, nums, Option.getD, List.append]
  unfold slices_ContainsFunc_Ltree_Class_tree_Class at h
  refine bsome h fun v1 hv1 h => ?_
  simp only [go_sem, seval]
  refine callX_ 10000 (w_slices_IndexFunc_Ltree_Class_tree_Class fv_p1_f hf_p1_f hv1) (by first | rfl | simp only [go_sem]) (by first | rfl | simp only [go_sem]) ?_
  simp only [go_sem, seval]
  refine ret_s (fun x => .bool x) h ?_
  first | rfl | simp only [go_sem, resAV, resAll, resOne, seval]
theorem w_tree_Class_may_1 {s : Str}   {r : Bool} (h : tree_Class_may_1 s = some r) : ACall Tryz.prog 63 [.str s] [] (.bool r) [] := by
  refine acallX 10000 hf63 ok63 (by first | rfl | simp only [go_sem]) meek_bool ?_
  dsimp only [Tryz.f63, nums, Option.getD, List.append]
  unfold tree_Class_may_1 at h
  refine bsome h fun v1 hv1 h => ?_
  simp only [go_sem, seval]
  refine callX_ 10000 (w_tree_variable  hv1) (by first | rfl | simp only [go_sem]) (by first | rfl | simp only [go_sem]) ?_
  simp only [go_sem, seval]
  refine ret_s (fun x => .bool x) h ?_
  first | rfl | simp only [go_sem, resAV, resAll, resOne, seval]
theorem w_slices_IndexFunc_Ltree_Method_tree_Method {s : (List tree_Method)} {p1_f : (tree_Method → Option Bool)}  (fv_p1_f : FuncId) (hf_p1_f : ∀ (a0 : tree_Method) (z : Bool), p1_f a0 = some z → ACall Tryz.prog fv_p1_f [enc_tree_Method a0] [] (.bool z) []) {r : Int} (h : slices_IndexFunc_Ltree_Method_tree_Method s p1_f = some r) : ACall Tryz.prog 85 [.sl none (List.map enc_tree_Method s), .fn (.func fv_p1_f) [] []] [] (.int .i64 r) [] := by
  refine acallX 10000 hf85 ok85 (by first | rfl | simp only [go_sem]) meek_int ?_
  dsimp only [Tryz.f85, nums, Option.getD, List.append]
  unfold slices_IndexFunc_Ltree_Method_tree_Method at h
  simp only [go_sem, seval]
  refine letK_s h fun K2 hK2 h => ?_
  refine blkJ 19 10000 (fun w => K2 () = some r → w [] []) (fun  h => runX 10000 ?_) (fun JK2 => ?_)
  · subst hK2
    dsimp only at h
    simp only [go_sem, seval]
    refine ret_s (fun x => .int .i64 x) h ?_
    first | rfl | simp only [go_sem, resAV, resAll, resOne, seval]
  · clear hK2
    simp only [go_sem, seval]
    refine lpJ 19 fuel (fun q1 w => ∀ (v3 : Int), slices_IndexFunc_Ltree_Method_tree_Method_l1 s p1_f K2 q1 v3 = some r → w [(0, .sl none (List.map enc_tree_Method s)), (1, .fn (.func fv_p1_f) [] []), (7, .int .i64 (s.length : Int)), (8, .int .i64 v3)] []) (fun w _ h => nomatch h) (fun q1 ih1 v3 h => ?_) (fun L1 => ?_)
    · unfold slices_IndexFunc_Ltree_Method_tree_Method_l1 at h
      refine runL 10000 ?_
      simp only [go_sem, seval]
      refine cnd_s 10000 h (fun hb h => ?_) (fun hb h => ?_)
      · simp only [go_sem, seval]
        refine blk_ 10000 ?_
        refine lAt_s enc_tree_Method none .i64 ⟨31, 5, true, 112⟩ (fun _ => rfl) h fun v6 _ b4 e5 h => ?_
        refine bsome h fun v7 hv7 h => ?_
        simp only [go_sem, seval, b4, e5]
        refine callX_ 10000 (hf_p1_f _ _ hv7) (by first | rfl | simp only [go_sem]) (by first | rfl | simp only [go_sem]) ?_
        simp only [go_sem, seval]
        refine cnd_s 10000 h (fun hb h => ?_) (fun hb h => ?_)
        · simp only [go_sem, seval]
          refine ret_s (fun x => .int .i64 x) h ?_
          first | rfl | simp only [go_sem, resAV, resAll, resOne, seval]
        · refine add_s h fun v9 _ e8 h => ?_
          simp only [go_sem, seval, e8]
          exact lp_back (ih1 v9 h) ⟨rfl, rfl, rfl, rfl, trivial⟩
      · simp only [go_sem, seval]
        exact atJ (wkn (JK2  h) trivial)
    · exact lp_back (L1 0 h) ⟨rfl, rfl, rfl, rfl, trivial⟩
theorem w_slices_ContainsFunc_Ltree_Method_tree_Method {s : (List tree_Method)} {p1_f : (tree_Method → Option Bool)}  (fv_p1_f : FuncId) (hf_p1_f : ∀ (a0 : tree_Method) (z : Bool), p1_f a0 = some z → ACall Tryz.prog fv_p1_f [enc_tree_Method a0] [] (.bool z) []) {r : Bool} (h : slices_ContainsFunc_Ltree_Method_tree_Method s p1_f = some r) : ACall Tryz.prog 64 [.sl none (List.map enc_tree_Method s), .fn (.func fv_p1_f) [] []] [] (.bool r) [] := by
  refine acallX 10000 hf64 ok64 (by first | rfl | simp only [go_sem]) meek_bool ?_
  dsimp only [Tryz.f64, nums, Option.getD, List.append]
  unfold slices_ContainsFunc_Ltree_Method_tree_Method at h
  refine bsome h fun v1 hv1 h => ?_
  simp only [go_sem, seval]
  refine callX_ 10000 (w_slices_IndexFunc_Ltree_Method_tree_Method fv_p1_f hf_p1_f hv1) (by first | rfl | simp only [go_sem]) (by first | rfl | simp only [go_sem]) ?_
  simp only [go_sem, seval]
  refine ret_s (fun x => .bool x) h ?_
  first | rfl | simp only [go_sem, resAV, resAll, resOne, seval]
theorem w_tree_Class_may_2 {m : tree_Method}   {r : Bool} (h : tree_Class_may_2 m = some r) : ACall Tryz.prog 65 [enc_tree_Method m] [] (.bool r) [] := by
  refine acallX 10000 hf65 ok65 (by first | rfl | simp only [go_sem]) meek_bool ?_
  dsimp only [Tryz.f65, nums, Option.getD, List.append]
  unfold tree_Class_may_2 at h
  refine bsome h fun v1 hv1 h => ?_
  simp only [go_sem, seval]
  refine callX_ 10000 (w_tree_Check  hv1) (by first | rfl | simp only [go_sem]) (by first | rfl | simp only [go_sem]) ?_
  simp only [go_sem, seval]
  refine ret_s (fun x => .bool x) h ?_
  first | rfl | simp only [go_sem, resAV, resAll, resOne, seval]
theorem w_tree_Class_may {c : tree_Class}   {r : Bool} (h : tree_Class_may c = some r) : ACall Tryz.prog 42 [enc_tree_Class c] [] (.bool r) [] := by
  refine acallX 10000 hf42 ok42 (by first | rfl | simp only [go_sem]) meek_bool ?_
  dsimp only [Tryz.f42, nums, Option.getD, List.append]
  unfold tree_Class_may at h
  simp only [go_sem, seval]
  refine bsome h fun y1 hy1 h => ?_
  refine rgJ 35 10000 (.inl rfl) (fun w => w [(1, .ptr 0 0), (24, .bool y1)] [some [.str c.Name, .str c.Super, .sl none (List.map AV.str c.Vars), .sl none (List.map enc_tree_Method c.Methods)]]) (runX 10000 ?_) (fun Jy1 => ?_)
  · clear hy1
    simp only [go_sem, seval]
    refine cnd_s 10000 h (fun hb h => ?_) (fun hb h => ?_)
    · simp only [go_sem, seval]
      refine ret_s (fun x => .bool x) h ?_
      first | rfl | simp only [go_sem, resAV, resAll, resOne, seval]
    · simp only [go_sem, seval]
      refine bsome h fun y8 hy8 h => ?_
      refine rgJ 35 10000 (.inl rfl) (fun w => w [(2, .bool y8)] [some [.str c.Name, .str c.Super, .sl none (List.map AV.str c.Vars), .sl none (List.map enc_tree_Method c.Methods)]]) (runX 10000 ?_) (fun Jy8 => ?_)
      · clear hy8
        simp only [go_sem, seval]
        refine ret_s (fun x => .bool x) h ?_
        first | rfl | simp only [go_sem, resAV, resAll, resOne, seval]
      · clear h
        have h := hy8
        refine bsome h fun v10 hv10 h => ?_
        simp only [go_sem, seval]
        refine callX_ 10000 (w_slices_ContainsFunc_Lstring_string 63 (fun _ _ h => w_tree_Class_may_1 h) hv10) (by first | rfl | simp only [go_sem]) (by first | rfl | simp only [go_sem]) ?_
        simp only [go_sem, seval]
        refine grd_ (fun hb11 => ?_) (fun hb11 => ?_)
        · have h := ite_t hb11 h
          refine bsome h fun v12 hv12 h => ?_
          simp only [go_sem, seval]
          refine callX_ 10000 (w_slices_ContainsFunc_Ltree_Method_tree_Method 65 (fun _ _ h => w_tree_Class_may_2 h) hv12) (by first | rfl | simp only [go_sem]) (by first | rfl | simp only [go_sem]) ?_
          simp only [go_sem, seval]
          obtain rfl := Option.some.inj h
          exact atJ (wkn (Jy8) ⟨rfl, trivial⟩)
        · have h := ite_f hb11 h
          simp only [go_sem, seval]
          obtain rfl := Option.some.inj h
          exact atJ (wkn (Jy8) ⟨rfl, trivial⟩)
  · clear h
    have h := hy1
    refine bsome h fun v3 hv3 h => ?_
    simp only [go_sem, seval]
    refine callX_ 10000 (w_tree_named  hv3) (by first | rfl | simp only [go_sem]) (by first | rfl | simp only [go_sem]) ?_
    simp only [go_sem, seval]
    refine grd_ (fun hb4 => ?_) (fun hb4 => ?_)
    · have h := ite_f hb4 h
      refine bsome h fun v5 hv5 h => ?_
      simp only [go_sem, seval]
      refine callX_ 10000 (w_tree_named  hv5) (by first | rfl | simp only [go_sem]) (by first | rfl | simp only [go_sem]) ?_
      simp only [go_sem, seval]
      refine grd_ (fun hb6 => ?_) (fun hb6 => ?_)
      · have h := ite_f hb6 h
        simp only [go_sem, seval]
        refine grd_ (fun hb7 => ?_) (fun hb7 => ?_)
        · have h := ite_f hb7 h
          simp only [go_sem, seval]
          obtain rfl := Option.some.inj h
          exact atJ (wkn (Jy1) ⟨rfl, rfl, trivial⟩)
        · have h := ite_t hb7 h
          simp only [go_sem, seval]
          obtain rfl := Option.some.inj h
          exact atJ (wkn (Jy1) ⟨rfl, rfl, trivial⟩)
      · have h := ite_t hb6 h
        simp only [go_sem, seval]
        obtain rfl := Option.some.inj h
        exact atJ (wkn (Jy1) ⟨rfl, rfl, trivial⟩)
    · have h := ite_t hb4 h
      simp only [go_sem, seval]
      obtain rfl := Option.some.inj h
      exact atJ (wkn (Jy1) ⟨rfl, rfl, trivial⟩)
theorem w_tree_CheckAll_1 {c : tree_Class}   {r : Bool} (h : tree_CheckAll_1 c = some r) : ACall Tryz.prog 41 [enc_tree_Class c] [] (.bool r) [] := by
  refine acallX 10000 hf41 ok41 (by first | rfl | simp only [go_sem]) meek_bool ?_
  dsimp only [Tryz.f41, nums, Option.getD, List.append]
  unfold tree_CheckAll_1 at h
  refine bsome h fun v1 hv1 h => ?_
  simp only [go_sem, seval]
  refine callX_ 10000 (w_tree_Class_may  hv1) (by first | rfl | simp only [go_sem]) (by first | rfl | simp only [go_sem]) ?_
  simp only [go_sem, seval]
  refine ret_s (fun x => .bool x) h ?_
  first | rfl | simp only [go_sem, resAV, resAll, resOne, seval]
theorem w_tree_CheckAll {l : (List tree_Class)}   {r : (Option Int)} (h : tree_CheckAll l = some r) : ACall Tryz.prog 19 [.sl none (List.map enc_tree_Class l)] [] (encE 54 r) [] := by
  refine acallX 10000 hf19 ok19 (by first | rfl | simp only [go_sem]) meek_encE ?_
  dsimp only [Tryz.f19, nums, Option.getD, List.append]
  unfold tree_CheckAll at h
  simp only [go_sem, seval]
  refine bsome h fun y1 hy1 h => ?_
  refine rgJ 11 10000 (.inl rfl) (fun w => w [(9, .bool y1)] []) (runX 10000 ?_) (fun Jy1 => ?_)
  · clear hy1
    simp only [go_sem, seval]
    refine cnd_s 10000 h (fun hb h => ?_) (fun hb h => ?_)
    · simp only [go_sem, seval]
      refine ret_s (fun x => encE 54 x) h ?_
      first | rfl | simp only [go_sem, resAV, resAll, resOne, seval]
    · simp only [go_sem, seval]
      refine ret_s (fun x => encE 54 x) h ?_
      first | rfl | simp only [go_sem, resAV, resAll, resOne, seval]
  · clear h
    have h := hy1
    simp only [go_sem, seval]
    refine grd_ (fun hb3 => ?_) (fun hb3 => ?_)
    · have h := ite_f hb3 h
      refine bsome h fun v4 hv4 h => ?_
      simp only [go_sem, seval]
      refine callX_ 10000 (w_slices_ContainsFunc_Ltree_Class_tree_Class 41 (fun _ _ h => w_tree_CheckAll_1 h) hv4) (by first | rfl | simp only [go_sem]) (by first | rfl | simp only [go_sem]) ?_
      simp only [go_sem, seval]
      obtain rfl := Option.some.inj h
      exact atJ (wkn (Jy1) ⟨rfl, trivial⟩)
    · have h := ite_t hb3 h
      simp only [go_sem, seval]
      obtain rfl := Option.some.inj h
      exact atJ (wkn (Jy1) ⟨rfl, trivial⟩)
theorem w_law14_sure    {r : Bool} (h : law14_sure  = some r) : ACall Tryz.prog 6 [] [] (.bool r) [] := by
  refine acallX 10000 hf6 ok6 (by first | rfl | simp only [go_sem]) meek_bool ?_
  dsimp only [Tryz.f6, nums, Option.getD, List.append]
  unfold law14_sure at h
  simp only [go_sem, seval]
  refine bsome h fun y1 hy1 h => ?_
  refine rgJ 69 10000 (.inl rfl) (fun w => w [(0, .bool y1)] [some [.str [97, 116, 58], .sl (some none) [.str [105]], .sl (some none) [.str [116]], .sl (some none) [.agg [.int .u8 7, .str [120], .int .i64 0, .sl none [], .sl none []], .agg [.int .u8 7, .str [121], .int .i64 0, .sl none [], .sl none []], .agg [.int .u8 9, .str [102, 111, 111], .int .i64 0, .sl none [], .sl none [.int .i64 1]], .agg [.int .u8 12, .str [], .int .i64 1, .sl none [.str [121]], .sl none [.int .i64 2]], .agg [.int .u8 9, .str [100, 111, 58], .int .i64 0, .sl none [], .sl none [.int .i64 0, .int .i64 3]], .agg [.int .u8 13, .str [], .int .i64 0, .sl none [], .sl none [.int .i64 4]]], .sl (some none) [.int .i64 5]], some [.str [97, 116, 58], .sl none [.str [105]], .sl none [.str [116]], .sl none [.agg [.int .u8 7, .str [120], .int .i64 0, .sl none [], .sl none []], .agg [.int .u8 7, .str [121], .int .i64 0, .sl none [], .sl none []], .agg [.int .u8 9, .str [102, 111, 111], .int .i64 0, .sl none [], .sl none [.int .i64 1]], .agg [.int .u8 12, .str [], .int .i64 1, .sl none [.str [121]], .sl none [.int .i64 2]], .agg [.int .u8 9, .str [100, 111, 58], .int .i64 0, .sl none [], .sl none [.int .i64 0, .int .i64 3]], .agg [.int .u8 13, .str [], .int .i64 0, .sl none [], .sl none [.int .i64 4]]], .sl (some none) [.int .i64 4]]]) (runX 10000 ?_) (fun Jy1 => ?_)
  · clear hy1
    simp only [go_sem, seval]
    refine ret_s (fun x => .bool x) h ?_
    first | rfl | simp only [go_sem, resAV, resAll, resOne, seval]
  · clear h
    have h := hy1
    refine bsome h fun v3 hv3 h => ?_
    simp only [go_sem, seval]
    refine callX_ 10000 (w_tree_Check  hv3) (by first | rfl | simp only [go_sem]) (by first | rfl | simp only [go_sem]) ?_
    simp only [go_sem, seval]
    refine grd_ (fun hb4 => ?_) (fun hb4 => ?_)
    · have h := ite_t hb4 h
      refine bsome h fun v5 hv5 h => ?_
      simp only [go_sem, seval]
      refine callX_ 10000 (w_tree_Check  hv5) (by first | rfl | simp only [go_sem]) (by first | rfl | simp only [go_sem]) ?_
      refine bsome h fun v6 hv6 h => ?_
      simp only [go_sem, seval]
      refine callX_ 10000 (w_law_num  hv6) (by first | rfl | simp only [go_sem]) (by first | rfl | simp only [go_sem]) ?_
      simp only [go_sem, seval]
      refine grd_ (fun hb7 => ?_) (fun hb7 => ?_)
      · have h := ite_t hb7 h
        refine bsome h fun v8 hv8 h => ?_
        simp only [go_sem, seval]
        refine callX_ 10000 (w_tree_Same  hv8) (by first | rfl | simp only [go_sem]) (by first | rfl | simp only [go_sem]) ?_
        simp only [go_sem, seval]
        refine grd_ (fun hb9 => ?_) (fun hb9 => ?_)
        · have h := ite_t hb9 h
          refine bsome h fun v10 hv10 h => ?_
          simp only [go_sem, seval]
          refine callX_ 10000 (w_tree_Same  hv10) (by first | rfl | simp only [go_sem]) (by first | rfl | simp only [go_sem]) ?_
          simp only [go_sem, seval]
          refine grd_ (fun hb11 => ?_) (fun hb11 => ?_)
          · have h := ite_t hb11 h
            refine bsome h fun v12 hv12 h => ?_
            simp only [go_sem, seval]
            refine callX_ 10000 (w_tree_Free  hv12) (by first | rfl | simp only [go_sem]) (by first | rfl | simp only [go_sem]) ?_
            refine bsome h fun v13 hv13 h => ?_
            simp only [go_sem, seval]
            refine callX_ 10000 (w_law14_texts  hv13) (by first | rfl | simp only [go_sem]) (by first | rfl | simp only [go_sem]) ?_
            simp only [go_sem, seval]
            refine grd_ (fun hb14 => ?_) (fun hb14 => ?_)
            · have h := ite_t hb14 h
              refine bsome h fun v15 hv15 h => ?_
              simp only [go_sem, seval]
              refine callX_ 10000 (w_tree_Sent  hv15) (by first | rfl | simp only [go_sem]) (by first | rfl | simp only [go_sem]) ?_
              refine bsome h fun v16 hv16 h => ?_
              simp only [go_sem, seval]
              refine callX_ 10000 (w_law14_texts  hv16) (by first | rfl | simp only [go_sem]) (by first | rfl | simp only [go_sem]) ?_
              simp only [go_sem, seval]
              refine grd_ (fun hb17 => ?_) (fun hb17 => ?_)
              · have h := ite_t hb17 h
                refine bsome h fun v18 hv18 h => ?_
                simp only [go_sem, seval]
                refine callX_ 10000 (w_tree_CheckAll  hv18) (by first | rfl | simp only [go_sem]) (by first | rfl | simp only [go_sem]) ?_
                simp only [go_sem, seval]
                refine grd_ (fun hb19 => ?_) (fun hb19 => ?_)
                · have h := ite_t hb19 h
                  refine bsome h fun v20 hv20 h => ?_
                  simp only [go_sem, seval]
                  refine callX_ 10000 (w_tree_CheckAll  hv20) (by first | rfl | simp only [go_sem]) (by first | rfl | simp only [go_sem]) ?_
                  refine bsome h fun v21 hv21 h => ?_
                  simp only [go_sem, seval]
                  refine callX_ 10000 (w_law_num  hv21) (by first | rfl | simp only [go_sem]) (by first | rfl | simp only [go_sem]) ?_
                  simp only [go_sem, seval]
                  obtain rfl := Option.some.inj h
                  exact atJ (wkn (Jy1) ⟨rfl, trivial⟩)
                · have h := ite_f hb19 h
                  simp only [go_sem, seval]
                  obtain rfl := Option.some.inj h
                  exact atJ (wkn (Jy1) ⟨rfl, trivial⟩)
              · have h := ite_f hb17 h
                simp only [go_sem, seval]
                obtain rfl := Option.some.inj h
                exact atJ (wkn (Jy1) ⟨rfl, trivial⟩)
            · have h := ite_f hb14 h
              simp only [go_sem, seval]
              obtain rfl := Option.some.inj h
              exact atJ (wkn (Jy1) ⟨rfl, trivial⟩)
          · have h := ite_f hb11 h
            simp only [go_sem, seval]
            obtain rfl := Option.some.inj h
            exact atJ (wkn (Jy1) ⟨rfl, trivial⟩)
        · have h := ite_f hb9 h
          simp only [go_sem, seval]
          obtain rfl := Option.some.inj h
          exact atJ (wkn (Jy1) ⟨rfl, trivial⟩)
      · have h := ite_f hb7 h
        simp only [go_sem, seval]
        obtain rfl := Option.some.inj h
        exact atJ (wkn (Jy1) ⟨rfl, trivial⟩)
    · have h := ite_f hb4 h
      simp only [go_sem, seval]
      obtain rfl := Option.some.inj h
      exact atJ (wkn (Jy1) ⟨rfl, trivial⟩)
theorem w_law14_giveMethod {m : ref14_Method}   {r : tree_Method} (h : law14_giveMethod m = some r) : ACall Tryz.prog 7 [enc_ref14_Method m] [] (enc_tree_Method r) [] := by
  refine acallX 10000 hf7 ok7 (by first | rfl | simp only [go_sem]) meek_agg ?_
  dsimp only [Tryz.f7, nums, Option.getD, List.append]
  unfold law14_giveMethod at h
  simp only [go_sem, seval]
  refine rg_ 10000 (.inr ⟨[(1, 0), (6, 0), (9, 0), (13, 0), (17, 0)], by kernel_rfl, by kernel_rfl, by rfl⟩) ?_
  refine app_s AV.str none ⟨9, 1, false, 16⟩ (fun _ => rfl) (by decide) rfl h fun v3 _ (b1 : appc ⟨9, 1, false, 16⟩ (.sl (some none) []) (.sl none (List.map AV.str m.Args))) (e2 : appv (.sl (some none) []) (.sl none (List.map AV.str m.Args)) = .sl (some none) (List.map AV.str v3)) h => ?_
  refine app_s AV.str none ⟨9, 1, false, 16⟩ (fun _ => rfl) (by decide) rfl h fun v6 _ (b4 : appc ⟨9, 1, false, 16⟩ (.sl (some none) []) (.sl none (List.map AV.str m.Temps))) (e5 : appv (.sl (some none) []) (.sl none (List.map AV.str m.Temps)) = .sl (some none) (List.map AV.str v6)) h => ?_
  refine app_s (AV.int .i64) none ⟨3, 1, false, 8⟩ (fun _ => rfl) (by decide) rfl h fun v9 _ (b7 : appc ⟨3, 1, false, 8⟩ (.sl (some none) []) (.sl none (List.map (AV.int .i64) m.Body))) (e8 : appv (.sl (some none) []) (.sl none (List.map (AV.int .i64) m.Body)) = .sl (some none) (List.map (AV.int .i64) v9)) h => ?_
  simp only [go_sem, seval, b1, e2, b4, e5, b7, e8]
  refine bsome h fun y10 hy10 h => ?_
  refine blkJ 54 10000 (fun w => w [(2, .ptr 1 0), (3, .ptr 2 0)] [some [.str m.Sel, .sl none (List.map AV.str m.Args), .sl none (List.map AV.str m.Temps), .sl none (List.map enc_ref14_Node m.Nodes), .sl none (List.map (AV.int .i64) m.Body)], some [.str [], .sl (some none) [], .sl (some none) [], .sl (some none) [], .sl (some none) []], some [.str m.Sel, .sl none (List.map AV.str v3), .sl none (List.map AV.str v6), .sl (some none) (List.map enc_tree_Node y10), .sl none (List.map (AV.int .i64) v9)]]) (runX 10000 ?_) (fun Jy10 => ?_)
  · clear hy10
    simp only [go_sem, seval]
    refine ret_s (fun x => enc_tree_Method x) h ?_
    first | rfl | simp only [go_sem, resAV, resAll, resOne, seval]
  · clear h
    have h := hy10
    simp only [go_sem, seval]
    refine lpJ 54 fuel (fun q1 w => ∀ (v27 : Int) (v28 : (List tree_Node)), law14_giveMethod_l1 m q1 v27 v28 = some y10 → w [(1, .ptr 0 0), (2, .ptr 1 0), (3, .ptr 2 0), (4, .int .i64 v27)] [some [.str m.Sel, .sl none (List.map AV.str m.Args), .sl none (List.map AV.str m.Temps), .sl none (List.map enc_ref14_Node m.Nodes), .sl none (List.map (AV.int .i64) m.Body)], some [.str [], .sl (some none) [], .sl (some none) [], .sl (some none) [], .sl (some none) []], some [.str m.Sel, .sl none (List.map AV.str v3), .sl none (List.map AV.str v6), .sl (some none) (List.map enc_tree_Node v28), .sl none (List.map (AV.int .i64) v9)]]) (fun w _ _ h => nomatch h) (fun q1 ih1 v27 v28 h => ?_) (fun L1 => ?_)
    · unfold law14_giveMethod_l1 at h
      refine runL 10000 ?_
      simp only [go_sem, seval]
      refine cnd_s 10000 h (fun hb h => ?_) (fun hb h => ?_)
      · simp only [go_sem, seval]
        refine blk_ 10000 ?_
        refine lAt_s enc_ref14_Node none .i64 ⟨45, 5, true, 80⟩ (fun _ => rfl) h fun v31 _ b29 e30 h => ?_
        simp only [go_sem, seval, b29, e30]
        refine rg_ 10000 (.inr ⟨[(3, 2), (5, 3), (33, 2), (35, 3), (37, 3), (39, 3), (42, 3), (46, 3), (52, 2)], by kernel_rfl, by kernel_rfl, by rfl⟩) ?_
        refine app_s AV.str none ⟨9, 1, false, 16⟩ (fun _ => rfl) (by decide) rfl h fun v34 _ (b32 : appc ⟨9, 1, false, 16⟩ (.sl (some none) []) (.sl none (List.map AV.str v31.L))) (e33 : appv (.sl (some none) []) (.sl none (List.map AV.str v31.L)) = .sl (some none) (List.map AV.str v34)) h => ?_
        refine app_s (AV.int .i64) none ⟨3, 1, false, 8⟩ (fun _ => rfl) (by decide) rfl h fun v37 _ (b35 : appc ⟨3, 1, false, 8⟩ (.sl (some none) []) (.sl none (List.map (AV.int .i64) v31.Kids))) (e36 : appv (.sl (some none) []) (.sl none (List.map (AV.int .i64) v31.Kids)) = .sl (some none) (List.map (AV.int .i64) v37)) h => ?_
        refine app_s enc_tree_Node (some none) ⟨46, 5, true, 80⟩ (fun _ => rfl) (by decide) rfl h fun v40 _ (b38 : appc ⟨46, 5, true, 80⟩ (.sl (some none) (List.map enc_tree_Node v28)) (.sl (some none) [.agg [.int .u8 v31.K, .str v31.S, .int .i64 v31.N, .sl none (List.map AV.str v34), .sl none (List.map (AV.int .i64) v37)]])) (e39 : appv (.sl (some none) (List.map enc_tree_Node v28)) (.sl (some none) [.agg [.int .u8 v31.K, .str v31.S, .int .i64 v31.N, .sl none (List.map AV.str v34), .sl none (List.map (AV.int .i64) v37)]]) = .sl (some none) (List.map enc_tree_Node v40)) h => ?_
        refine add_s h fun v42 _ e41 h => ?_
        simp only [go_sem, seval, b32, e33, b35, e36, b38, e39, e41]
        exact lp_backH 3 (ih1 v42 v40 h) ⟨rfl, rfl, rfl, rfl, trivial⟩ rfl rfl rfl (by first | rfl | simp only [go_sem, ltF]) (by first | rfl | simp only [go_sem, allLt])
      · simp only [go_sem, seval]
        obtain rfl := Option.some.inj h
        exact atJ (wkn (Jy10) ⟨rfl, rfl, trivial⟩)
    · exact lp_back (L1 0 [] h) ⟨rfl, rfl, rfl, rfl, trivial⟩
theorem w_ref09_sign {c : Int}   {r : Bool} (h : ref09_sign c = some r) : ACall Tryz.prog 75 [.int .u8 c] [] (.bool r) [] := by
  refine acallX 10000 hf75 ok75 (by first | rfl | simp only [go_sem]) meek_bool ?_
  dsimp only [Tryz.f75, nums, Option.getD, List.append]
  unfold ref09_sign at h
  simp only [go_sem, seval]
  refine letK_s h fun K2 hK2 h => ?_
  refine blkJ 16 10000 (fun w => K2 () = some r → w [] []) (fun  h => runX 10000 ?_) (fun JK2 => ?_)
  · subst hK2
    dsimp only at h
    simp only [go_sem, seval]
    refine ret_s (fun x => .bool x) h ?_
    first | rfl | simp only [go_sem, resAV, resAll, resOne, seval]
  · clear hK2
    simp only [go_sem, seval]
    refine lpJ 16 fuel (fun q1 w => ∀ (v3 : Int), ref09_sign_l1 c K2 q1 v3 = some r → w [(0, .int .u8 c), (3, .str [43, 45, 42, 47, 92, 60, 62, 61, 126, 44]), (4, .int .i64 v3)] []) (fun w _ h => nomatch h) (fun q1 ih1 v3 h => ?_) (fun L1 => ?_)
    · unfold ref09_sign_l1 at h
      refine runL 10000 ?_
      simp only [go_sem, seval]
      refine cnd_s 10000 h (fun hb h => ?_) (fun hb h => ?_)
      · simp only [go_sem, seval]
        refine blk_ 10000 ?_
        refine sIdx_s .i64 h fun v6 _ b4 e5 h => ?_
        simp only [go_sem, seval, b4, e5]
        refine cnd_s 10000 h (fun hb h => ?_) (fun hb h => ?_)
        · simp only [go_sem, seval]
          refine ret_s (fun x => .bool x) h ?_
          first | rfl | simp only [go_sem, resAV, resAll, resOne, seval]
        · refine add_s h fun v8 _ e7 h => ?_
          simp only [go_sem, seval, e7]
          exact lp_back (ih1 v8 h) ⟨rfl, rfl, rfl, trivial⟩
      · simp only [go_sem, seval]
        exact atJ (wkn (JK2  h) trivial)
    · exact lp_back (L1 0 h) ⟨rfl, rfl, rfl, trivial⟩
theorem w_ref09_small {c : Int}   {r : Bool} (h : ref09_small c = some r) : ACall Tryz.prog 76 [.int .u8 c] [] (.bool r) [] := by
  refine acallX 10000 hf76 ok76 (by first | rfl | simp only [go_sem]) meek_bool ?_
  dsimp only [Tryz.f76, nums, Option.getD, List.append]
  unfold ref09_small at h
  simp only [go_sem, seval]
  refine rgJ 9 10000 (.inl rfl) (fun w => w [(2, .bool ((decide ((97 : Int) ≤ c)) && (decide (c ≤ 122))))] []) (runX 10000 ?_) (fun Jg1 => ?_)
  · simp only [go_sem, seval]
    refine ret_s (fun x => .bool x) h ?_
    first | rfl | simp only [go_sem, resAV, resAll, resOne, seval]
  · simp only [go_sem, seval]
    refine grd_ (fun hb2 => ?_) (fun hb2 => ?_)
    · simp only [go_sem, seval]
      exact atJ (wkn Jg1 ⟨congrArg AV.bool (by first | rfl | (rw [hb2]; rfl) | (simp [hb2]; done) | simp_all), trivial⟩)
    · simp only [go_sem, seval]
      exact atJ (wkn Jg1 ⟨congrArg AV.bool (by first | rfl | (rw [hb2]; rfl) | (simp [hb2]; done) | simp_all), trivial⟩)
theorem w_ref09_Arity {s : Str}   {r : (Int × Bool)} (h : ref09_Arity s = some r) : ACall Tryz.prog 50 [.str s] [] (.tup [.int .i64 r.1, .bool r.2]) [] := by
  refine acallX 10000 hf50 ok50 (by first | rfl | simp only [go_sem]) meek_tup ?_
  dsimp only [Tryz.f50, nums, Option.getD, List.append]
  unfold ref09_Arity at h
  simp only [go_sem, seval]
  refine rgJ 77 10000 (.inl rfl) (fun w => w [(0, .str s), (15, .bool ((decide ((s.length : Int) < 1)) || (decide ((64 : Int) < (s.length : Int)))))] []) (runX 10000 ?_) (fun Jg1 => ?_)
  · simp only [go_sem, seval]
    refine cnd_s 10000 h (fun hb h => ?_) (fun hb h => ?_)
    · simp only [go_sem, seval]
      refine ret_s (fun x => .tup [.int .i64 x.1, .bool x.2]) h ?_
      first | rfl | simp only [go_sem, resAV, resAll, resOne, seval]
    · refine sIdx_s .i64 h fun v4 _ b2 e3 h => ?_
      refine bsome h fun v5 hv5 h => ?_
      simp only [go_sem, seval, b2, e3]
      refine callX_ 10000 (w_ref09_sign  hv5) (by first | rfl | simp only [go_sem]) (by first | rfl | simp only [go_sem]) ?_
      simp only [go_sem, seval]
      refine cnd_s 10000 h (fun hb h => ?_) (fun hb h => ?_)
      · simp only [go_sem, seval]
        refine bsome h fun y6 hy6 h => ?_
        refine rgJ 77 10000 (.inl rfl) (fun w => w [(31, .bool y6)] []) (runX 10000 ?_) (fun Jy6 => ?_)
        · clear hy6
          simp only [go_sem, seval]
          refine cnd_s 10000 h (fun hb h => ?_) (fun hb h => ?_)
          · simp only [go_sem, seval]
            refine ret_s (fun x => .tup [.int .i64 x.1, .bool x.2]) h ?_
            first | rfl | simp only [go_sem, resAV, resAll, resOne, seval]
          · simp only [go_sem, seval]
            refine ret_s (fun x => .tup [.int .i64 x.1, .bool x.2]) h ?_
            first | rfl | simp only [go_sem, resAV, resAll, resOne, seval]
        · clear h
          have h := hy6
          simp only [go_sem, seval]
          refine grd_ (fun hb8 => ?_) (fun hb8 => ?_)
          · have h := ite_f hb8 h
            simp only [go_sem, seval]
            refine grd_ (fun hb9 => ?_) (fun hb9 => ?_)
            · have h := ite_t hb9 h
              refine sIdx_s .i64 h fun v12 _ b10 e11 h => ?_
              refine bsome h fun v13 hv13 h => ?_
              simp only [go_sem, seval, b10, e11]
              refine callX_ 10000 (w_ref09_sign  hv13) (by first | rfl | simp only [go_sem]) (by first | rfl | simp only [go_sem]) ?_
              simp only [go_sem, seval]
              obtain rfl := Option.some.inj h
              exact atJ (wkn (Jy6) ⟨rfl, trivial⟩)
            · have h := ite_f hb9 h
              simp only [go_sem, seval]
              obtain rfl := Option.some.inj h
              exact atJ (wkn (Jy6) ⟨rfl, trivial⟩)
          · have h := ite_t hb8 h
            simp only [go_sem, seval]
            obtain rfl := Option.some.inj h
            exact atJ (wkn (Jy6) ⟨rfl, trivial⟩)
      · simp only [go_sem, seval]
        refine letK_s h fun K15 hK15 h => ?_
        refine blkJ 77 10000 (fun w => ∀ (v39 : Int) (v40 : Bool), K15 v39 v40 = some r → w [(4, .int .i64 v39), (5, .bool v40)] []) (fun v39 v40 h => runX 10000 ?_) (fun JK15 => ?_)
        · subst hK15
          dsimp only at h
          simp only [go_sem, seval]
          refine cnd_s 10000 h (fun hb h => ?_) (fun hb h => ?_)
          · simp only [go_sem, seval]
            refine ret_s (fun x => .tup [.int .i64 x.1, .bool x.2]) h ?_
            first | rfl | simp only [go_sem, resAV, resAll, resOne, seval]
          · simp only [go_sem, seval]
            refine rgJ 77 10000 (.inl rfl) (fun w => w [(4, .int .i64 v39), (75, .bool ((!v40) || (decide ((8 : Int) < v39))))] []) (runX 10000 ?_) (fun Jg41 => ?_)
            · simp only [go_sem, seval]
              refine cnd_s 10000 h (fun hb h => ?_) (fun hb h => ?_)
              · simp only [go_sem, seval]
                refine ret_s (fun x => .tup [.int .i64 x.1, .bool x.2]) h ?_
                first | rfl | simp only [go_sem, resAV, resAll, resOne, seval]
              · simp only [go_sem, seval]
                refine ret_s (fun x => .tup [.int .i64 x.1, .bool x.2]) h ?_
                first | rfl | simp only [go_sem, resAV, resAll, resOne, seval]
            · simp only [go_sem, seval]
              refine grd_ (fun hb42 => ?_) (fun hb42 => ?_)
              · simp only [go_sem, seval]
                exact atJ (wkn Jg41 ⟨rfl, congrArg AV.bool (by first | rfl | (rw [hb42]; rfl) | (simp [hb42]; done) | simp_all), trivial⟩)
              · simp only [go_sem, seval]
                exact atJ (wkn Jg41 ⟨rfl, congrArg AV.bool (by first | rfl | (rw [hb42]; rfl) | (simp [hb42]; done) | simp_all), trivial⟩)
        · clear hK15
          simp only [go_sem, seval]
          refine lpJ 77 fuel (fun q1 w => ∀ (v16 : Int) (v17 : Bool) (v18 : Int), ref09_Arity_l1 s K15 q1 v16 v17 v18 = some r → w [(0, .str s), (4, .int .i64 v16), (5, .bool v17), (6, .int .i64 v18)] []) (fun w _ _ _ h => nomatch h) (fun q1 ih1 v16 v17 v18 h => ?_) (fun L1 => ?_)
          · unfold ref09_Arity_l1 at h
            refine runL 10000 ?_
            simp only [go_sem, seval]
            refine cnd_s 10000 h (fun hb h => ?_) (fun hb h => ?_)
            · simp only [go_sem, seval]
              refine letK_s h fun K20 hK20 h => ?_
              refine blkJ 77 10000 (fun w => ∀ (v35 : Int) (v36 : Bool), K20 v35 v36 = some r → w [(0, .str s), (4, .int .i64 v35), (5, .bool v36), (6, .int .i64 v18)] []) (fun v35 v36 h => runX 10000 ?_) (fun JK20 => ?_)
              · subst hK20
                dsimp only at h
                refine add_s h fun v38 _ e37 h => ?_
                simp only [go_sem, seval, e37]
                exact lp_back (ih1 v35 v36 v38 h) ⟨rfl, rfl, rfl, rfl, trivial⟩
              · clear hK20
                refine sIdx_s .i64 h fun v23 _ b21 e22 h => ?_
                simp only [go_sem, seval, b21, e22]
                refine cnd_s 10000 h (fun hb h => ?_) (fun hb h => ?_)
                · refine bsome h fun v24 hv24 h => ?_
                  simp only [go_sem, seval]
                  refine callX_ 10000 (w_ref09_small  hv24) (by first | rfl | simp only [go_sem]) (by first | rfl | simp only [go_sem]) ?_
                  simp only [go_sem, seval]
                  refine cnd_s 10000 h (fun hb h => ?_) (fun hb h => ?_)
                  · simp only [go_sem, seval]
                    refine ret_s (fun x => .tup [.int .i64 x.1, .bool x.2]) h ?_
                    first | rfl | simp only [go_sem, resAV, resAll, resOne, seval]
                  · simp only [go_sem, seval]
                    exact atJ (wkn (JK20 v16 false h) ⟨rfl, rfl, rfl, rfl, trivial⟩)
                · simp only [go_sem, seval]
                  refine cnd_s 10000 h (fun hb h => ?_) (fun hb h => ?_)
                  · refine add_s h fun v26 _ e25 h => ?_
                    simp only [go_sem, seval, e25]
                    exact atJ (wkn (JK20 v26 true h) ⟨rfl, rfl, rfl, rfl, trivial⟩)
                  · simp only [go_sem, seval]
                    refine bsome h fun y27 hy27 h => ?_
                    refine rgJ 77 10000 (.inl rfl) (fun w => w [(0, .str s), (4, .int .i64 v16), (5, .bool v17), (6, .int .i64 v18), (67, .bool y27)] []) (runX 10000 ?_) (fun Jy27 => ?_)
                    · clear hy27
                      simp only [go_sem, seval]
                      refine cnd_s 10000 h (fun hb h => ?_) (fun hb h => ?_)
                      · simp only [go_sem, seval]
                        refine ret_s (fun x => .tup [.int .i64 x.1, .bool x.2]) h ?_
                        first | rfl | simp only [go_sem, resAV, resAll, resOne, seval]
                      · simp only [go_sem, seval]
                        exact atJ (wkn (JK20 v16 v17 h) ⟨rfl, rfl, rfl, rfl, trivial⟩)
                    · clear h
                      have h := hy27
                      refine bsome h fun v29 hv29 h => ?_
                      simp only [go_sem, seval]
                      refine callX_ 10000 (w_ref09_small  hv29) (by first | rfl | simp only [go_sem]) (by first | rfl | simp only [go_sem]) ?_
                      simp only [go_sem, seval]
                      refine grd_ (fun hb30 => ?_) (fun hb30 => ?_)
                      · have h := ite_t hb30 h
                        simp only [go_sem, seval]
                        refine grd_ (fun hb31 => ?_) (fun hb31 => ?_)
                        · have h := ite_f hb31 h
                          simp only [go_sem, seval]
                          refine grd_ (fun hb32 => ?_) (fun hb32 => ?_)
                          · have h := ite_t hb32 h
                            simp only [go_sem, seval]
                            refine grd_ (fun hb33 => ?_) (fun hb33 => ?_)
                            · have h := ite_f hb33 h
                              simp only [go_sem, seval]
                              obtain rfl := Option.some.inj h
                              exact atJ (wkn (Jy27) ⟨rfl, rfl, rfl, rfl, rfl, trivial⟩)
                            · have h := ite_t hb33 h
                              simp only [go_sem, seval]
                              obtain rfl := Option.some.inj h
                              exact atJ (wkn (Jy27) ⟨rfl, rfl, rfl, rfl, rfl, trivial⟩)
                          · have h := ite_f hb32 h
                            simp only [go_sem, seval]
                            obtain rfl := Option.some.inj h
                            exact atJ (wkn (Jy27) ⟨rfl, rfl, rfl, rfl, rfl, trivial⟩)
                        · have h := ite_t hb31 h
                          simp only [go_sem, seval]
                          refine grd_ (fun hb34 => ?_) (fun hb34 => ?_)
                          · have h := ite_f hb34 h
                            simp only [go_sem, seval]
                            obtain rfl := Option.some.inj h
                            exact atJ (wkn (Jy27) ⟨rfl, rfl, rfl, rfl, rfl, trivial⟩)
                          · have h := ite_t hb34 h
                            simp only [go_sem, seval]
                            obtain rfl := Option.some.inj h
                            exact atJ (wkn (Jy27) ⟨rfl, rfl, rfl, rfl, rfl, trivial⟩)
                      · have h := ite_f hb30 h
                        simp only [go_sem, seval]
                        obtain rfl := Option.some.inj h
                        exact atJ (wkn (Jy27) ⟨rfl, rfl, rfl, rfl, rfl, trivial⟩)
            · simp only [go_sem, seval]
              exact atJ (wkn (JK15 v16 v17 h) ⟨rfl, rfl, trivial⟩)
          · exact lp_back (L1 0 true 0 h) ⟨rfl, rfl, rfl, rfl, trivial⟩
  · simp only [go_sem, seval]
    refine grd_ (fun hb43 => ?_) (fun hb43 => ?_)
    · simp only [go_sem, seval]
      exact atJ (wkn Jg1 ⟨rfl, congrArg AV.bool (by first | rfl | (rw [hb43]; rfl) | (simp [hb43]; done) | simp_all), trivial⟩)
    · simp only [go_sem, seval]
      exact atJ (wkn Jg1 ⟨rfl, congrArg AV.bool (by first | rfl | (rw [hb43]; rfl) | (simp [hb43]; done) | simp_all), trivial⟩)
theorem w_ref14_takes {sel : Str} {n : Int}   {r : Bool} (h : ref14_takes sel n = some r) : ACall Tryz.prog 24 [.str sel, .int .i64 n] [] (.bool r) [] := by
  refine acallX 10000 hf24 ok24 (by first | rfl | simp only [go_sem]) meek_bool ?_
  dsimp only [Tryz.f24, nums, Option.getD, List.append]
  unfold ref14_takes at h
  refine bsome h fun v1 hv1 h => ?_
  simp only [go_sem, seval]
  refine callX_ 10000 (w_ref09_Arity  hv1) (by first | rfl | simp only [go_sem]) (by first | rfl | simp only [go_sem]) ?_
  simp only [go_sem, seval]
  refine rgJ 18 10000 (.inl rfl) (fun w => w [(4, .bool (v1.2 && (decide (v1.1 = n))))] []) (runX 10000 ?_) (fun Jg2 => ?_)
  · simp only [go_sem, seval]
    refine ret_s (fun x => .bool x) h ?_
    first | rfl | simp only [go_sem, resAV, resAll, resOne, seval]
  · simp only [go_sem, seval]
    refine grd_ (fun hb3 => ?_) (fun hb3 => ?_)
    · simp only [go_sem, seval]
      exact atJ (wkn Jg2 ⟨congrArg AV.bool (by first | rfl | (rw [hb3]; rfl) | (simp [hb3]; done) | simp_all), trivial⟩)
    · simp only [go_sem, seval]
      exact atJ (wkn Jg2 ⟨congrArg AV.bool (by first | rfl | (rw [hb3]; rfl) | (simp [hb3]; done) | simp_all), trivial⟩)
theorem w_ref10_Name {s : Str} {lo : Int} {hi : Int}   {r : Bool} (h : ref10_Name s lo hi = some r) : ACall Tryz.prog 53 [.str s, .int .u8 lo, .int .u8 hi] [] (.bool r) [] := by
  refine acallX 10000 hf53 ok53 (by first | rfl | simp only [go_sem]) meek_bool ?_
  dsimp only [Tryz.f53, nums, Option.getD, List.append]
  unfold ref10_Name at h
  simp only [go_sem, seval]
  refine bsome h fun y1 hy1 h => ?_
  refine rgJ 68 10000 (.inl rfl) (fun w => w [(0, .str s), (27, .bool y1)] []) (runX 10000 ?_) (fun Jy1 => ?_)
  · clear hy1
    simp only [go_sem, seval]
    refine cnd_s 10000 h (fun hb h => ?_) (fun hb h => ?_)
    · simp only [go_sem, seval]
      refine ret_s (fun x => .bool x) h ?_
      first | rfl | simp only [go_sem, resAV, resAll, resOne, seval]
    · simp only [go_sem, seval]
      refine letK_s h fun K12 hK12 h => ?_
      refine blkJ 68 10000 (fun w => K12 () = some r → w [] []) (fun  h => runX 10000 ?_) (fun JK12 => ?_)
      · subst hK12
        dsimp only at h
        simp only [go_sem, seval]
        refine ret_s (fun x => .bool x) h ?_
        first | rfl | simp only [go_sem, resAV, resAll, resOne, seval]
      · clear hK12
        simp only [go_sem, seval]
        refine lpJ 68 fuel (fun q1 w => ∀ (v13 : Int), ref10_Name_l1 s K12 q1 v13 = some r → w [(0, .str s), (7, .int .i64 v13)] []) (fun w _ h => nomatch h) (fun q1 ih1 v13 h => ?_) (fun L1 => ?_)
        · unfold ref10_Name_l1 at h
          refine runL 10000 ?_
          simp only [go_sem, seval]
          refine cnd_s 10000 h (fun hb h => ?_) (fun hb h => ?_)
          · simp only [go_sem, seval]
            refine blk_ 10000 ?_
            simp only [go_sem, seval]
            refine bsome h fun y14 hy14 h => ?_
            refine rgJ 68 10000 (.inl rfl) (fun w => w [(0, .str s), (7, .int .i64 v13), (67, .bool y14)] []) (runX 10000 ?_) (fun Jy14 => ?_)
            · clear hy14
              simp only [go_sem, seval]
              refine cnd_s 10000 h (fun hb h => ?_) (fun hb h => ?_)
              · simp only [go_sem, seval]
                refine ret_s (fun x => .bool x) h ?_
                first | rfl | simp only [go_sem, resAV, resAll, resOne, seval]
              · refine add_s h fun v56 _ e55 h => ?_
                simp only [go_sem, seval, e55]
                exact lp_back (ih1 v56 h) ⟨rfl, rfl, trivial⟩
            · clear h
              have h := hy14
              refine sIdx_s .i64 h fun v18 _ b16 e17 h => ?_
              simp only [go_sem, seval, b16, e17]
              refine grd_ (fun hb19 => ?_) (fun hb19 => ?_)
              · have h := ite_f hb19 h
                simp only [go_sem, seval, b16, e17]
                refine grd_ (fun hb22 => ?_) (fun hb22 => ?_)
                · have h := ite_t hb22 h
                  simp only [go_sem, seval, b16, e17]
                  refine grd_ (fun hb25 => ?_) (fun hb25 => ?_)
                  · have h := ite_f hb25 h
                    simp only [go_sem, seval, b16, e17]
                    refine grd_ (fun hb28 => ?_) (fun hb28 => ?_)
                    · have h := ite_t hb28 h
                      simp only [go_sem, seval, b16, e17]
                      refine grd_ (fun hb31 => ?_) (fun hb31 => ?_)
                      · have h := ite_f hb31 h
                        simp only [go_sem, seval, b16, e17]
                        obtain rfl := Option.some.inj h
                        exact atJ (wkn (Jy14) ⟨rfl, rfl, rfl, trivial⟩)
                      · have h := ite_t hb31 h
                        simp only [go_sem, seval]
                        obtain rfl := Option.some.inj h
                        exact atJ (wkn (Jy14) ⟨rfl, rfl, rfl, trivial⟩)
                    · have h := ite_f hb28 h
                      simp only [go_sem, seval]
                      obtain rfl := Option.some.inj h
                      exact atJ (wkn (Jy14) ⟨rfl, rfl, rfl, trivial⟩)
                  · have h := ite_t hb25 h
                    simp only [go_sem, seval, b16, e17]
                    refine grd_ (fun hb36 => ?_) (fun hb36 => ?_)
                    · have h := ite_f hb36 h
                      simp only [go_sem, seval, b16, e17]
                      obtain rfl := Option.some.inj h
                      exact atJ (wkn (Jy14) ⟨rfl, rfl, rfl, trivial⟩)
                    · have h := ite_t hb36 h
                      simp only [go_sem, seval]
                      obtain rfl := Option.some.inj h
                      exact atJ (wkn (Jy14) ⟨rfl, rfl, rfl, trivial⟩)
                · have h := ite_f hb22 h
                  simp only [go_sem, seval]
                  obtain rfl := Option.some.inj h
                  exact atJ (wkn (Jy14) ⟨rfl, rfl, rfl, trivial⟩)
              · have h := ite_t hb19 h
                simp only [go_sem, seval, b16, e17]
                refine grd_ (fun hb41 => ?_) (fun hb41 => ?_)
                · have h := ite_f hb41 h
                  simp only [go_sem, seval, b16, e17]
                  refine grd_ (fun hb44 => ?_) (fun hb44 => ?_)
                  · have h := ite_t hb44 h
                    simp only [go_sem, seval, b16, e17]
                    refine grd_ (fun hb47 => ?_) (fun hb47 => ?_)
                    · have h := ite_f hb47 h
                      simp only [go_sem, seval, b16, e17]
                      obtain rfl := Option.some.inj h
                      exact atJ (wkn (Jy14) ⟨rfl, rfl, rfl, trivial⟩)
                    · have h := ite_t hb47 h
                      simp only [go_sem, seval]
                      obtain rfl := Option.some.inj h
                      exact atJ (wkn (Jy14) ⟨rfl, rfl, rfl, trivial⟩)
                  · have h := ite_f hb44 h
                    simp only [go_sem, seval]
                    obtain rfl := Option.some.inj h
                    exact atJ (wkn (Jy14) ⟨rfl, rfl, rfl, trivial⟩)
                · have h := ite_t hb41 h
                  simp only [go_sem, seval, b16, e17]
                  refine grd_ (fun hb52 => ?_) (fun hb52 => ?_)
                  · have h := ite_f hb52 h
                    simp only [go_sem, seval, b16, e17]
                    obtain rfl := Option.some.inj h
                    exact atJ (wkn (Jy14) ⟨rfl, rfl, rfl, trivial⟩)
                  · have h := ite_t hb52 h
                    simp only [go_sem, seval]
                    obtain rfl := Option.some.inj h
                    exact atJ (wkn (Jy14) ⟨rfl, rfl, rfl, trivial⟩)
          · simp only [go_sem, seval]
            exact atJ (wkn (JK12  h) trivial)
        · exact lp_back (L1 0 h) ⟨rfl, rfl, trivial⟩
  · clear h
    have h := hy1
    simp only [go_sem, seval]
    refine grd_ (fun hb3 => ?_) (fun hb3 => ?_)
    · have h := ite_f hb3 h
      simp only [go_sem, seval]
      refine grd_ (fun hb4 => ?_) (fun hb4 => ?_)
      · have h := ite_f hb4 h
        refine sIdx_s .i64 h fun v7 _ b5 e6 h => ?_
        simp only [go_sem, seval, b5, e6]
        refine grd_ (fun hb8 => ?_) (fun hb8 => ?_)
        · have h := ite_f hb8 h
          simp only [go_sem, seval, b5, e6]
          obtain rfl := Option.some.inj h
          exact atJ (wkn (Jy1) ⟨rfl, rfl, trivial⟩)
        · have h := ite_t hb8 h
          simp only [go_sem, seval]
          obtain rfl := Option.some.inj h
          exact atJ (wkn (Jy1) ⟨rfl, rfl, trivial⟩)
      · have h := ite_t hb4 h
        simp only [go_sem, seval]
        obtain rfl := Option.some.inj h
        exact atJ (wkn (Jy1) ⟨rfl, rfl, trivial⟩)
    · have h := ite_t hb3 h
      simp only [go_sem, seval]
      obtain rfl := Option.some.inj h
      exact atJ (wkn (Jy1) ⟨rfl, rfl, trivial⟩)
theorem w_ref10_Var {s : Str}   {r : Bool} (h : ref10_Var s = some r) : ACall Tryz.prog 51 [.str s] [] (.bool r) [] := by
  refine acallX 10000 hf51 ok51 (by first | rfl | simp only [go_sem]) meek_bool ?_
  dsimp only [Tryz.f51, nums, Option.getD, List.append]
  unfold ref10_Var at h
  simp only [go_sem, seval]
  refine bsome h fun y1 hy1 h => ?_
  refine rgJ 25 10000 (.inl rfl) (fun w => w [(2, .bool y1)] []) (runX 10000 ?_) (fun Jy1 => ?_)
  · clear hy1
    simp only [go_sem, seval]
    refine ret_s (fun x => .bool x) h ?_
    first | rfl | simp only [go_sem, resAV, resAll, resOne, seval]
  · clear h
    have h := hy1
    refine bsome h fun v3 hv3 h => ?_
    simp only [go_sem, seval]
    refine callX_ 10000 (w_ref10_Name  hv3) (by first | rfl | simp only [go_sem]) (by first | rfl | simp only [go_sem]) ?_
    simp only [go_sem, seval]
    refine grd_ (fun hb4 => ?_) (fun hb4 => ?_)
    · have h := ite_t hb4 h
      simp only [go_sem, seval]
      refine grd_ (fun hb5 => ?_) (fun hb5 => ?_)
      · have h := ite_t hb5 h
        simp only [go_sem, seval]
        refine grd_ (fun hb6 => ?_) (fun hb6 => ?_)
        · have h := ite_t hb6 h
          simp only [go_sem, seval]
          refine grd_ (fun hb7 => ?_) (fun hb7 => ?_)
          · have h := ite_t hb7 h
            simp only [go_sem, seval]
            refine grd_ (fun hb8 => ?_) (fun hb8 => ?_)
            · have h := ite_t hb8 h
              simp only [go_sem, seval]
              obtain rfl := Option.some.inj h
              exact atJ (wkn (Jy1) ⟨rfl, trivial⟩)
            · have h := ite_f hb8 h
              simp only [go_sem, seval]
              obtain rfl := Option.some.inj h
              exact atJ (wkn (Jy1) ⟨rfl, trivial⟩)
          · have h := ite_f hb7 h
            simp only [go_sem, seval]
            obtain rfl := Option.some.inj h
            exact atJ (wkn (Jy1) ⟨rfl, trivial⟩)
        · have h := ite_f hb6 h
          simp only [go_sem, seval]
          obtain rfl := Option.some.inj h
          exact atJ (wkn (Jy1) ⟨rfl, trivial⟩)
      · have h := ite_f hb5 h
        simp only [go_sem, seval]
        obtain rfl := Option.some.inj h
        exact atJ (wkn (Jy1) ⟨rfl, trivial⟩)
    · have h := ite_f hb4 h
      simp only [go_sem, seval]
      obtain rfl := Option.some.inj h
      exact atJ (wkn (Jy1) ⟨rfl, trivial⟩)
theorem w_ref14_Vars {l : (List Str)} {most : Int}   {r : Bool} (h : ref14_Vars l most = some r) : ACall Tryz.prog 25 [.sl none (List.map AV.str l), .int .i64 most] [] (.bool r) [] := by
  refine acallX 10000 hf25 ok25 (by first | rfl | simp only [go_sem]) meek_bool ?_
  dsimp only [Tryz.f25, nums, Option.getD, List.append]
  unfold ref14_Vars at h
  simp only [go_sem, seval]
  refine cnd_s 10000 h (fun hb h => ?_) (fun hb h => ?_)
  · simp only [go_sem, seval]
    refine ret_s (fun x => .bool x) h ?_
    first | rfl | simp only [go_sem, resAV, resAll, resOne, seval]
  · simp only [go_sem, seval]
    refine letK_s h fun K2 hK2 h => ?_
    refine blkJ 37 10000 (fun w => K2 () = some r → w [] []) (fun  h => runX 10000 ?_) (fun JK2 => ?_)
    · subst hK2
      dsimp only at h
      simp only [go_sem, seval]
      refine ret_s (fun x => .bool x) h ?_
      first | rfl | simp only [go_sem, resAV, resAll, resOne, seval]
    · clear hK2
      simp only [go_sem, seval]
      refine lpJ 37 fuel (fun q1 w => ∀ (v3 : Int), ref14_Vars_l1 l K2 q1 v3 = some r → w [(0, .sl none (List.map AV.str l)), (5, .int .i64 v3)] []) (fun w _ h => nomatch h) (fun q1 ih1 v3 h => ?_) (fun L1 => ?_)
      · unfold ref14_Vars_l1 at h
        refine runL 10000 ?_
        simp only [go_sem, seval]
        refine cnd_s 10000 h (fun hb h => ?_) (fun hb h => ?_)
        · simp only [go_sem, seval]
          refine blk_ 10000 ?_
          refine lAt_s AV.str none .i64 ⟨9, 1, false, 16⟩ (fun _ => rfl) h fun v6 _ b4 e5 h => ?_
          refine bsome h fun v7 hv7 h => ?_
          simp only [go_sem, seval, b4, e5]
          refine callX_ 10000 (w_ref10_Var  hv7) (by first | rfl | simp only [go_sem]) (by first | rfl | simp only [go_sem]) ?_
          simp only [go_sem, seval]
          refine cnd_s 10000 h (fun hb h => ?_) (fun hb h => ?_)
          · simp only [go_sem, seval]
            refine ret_s (fun x => .bool x) h ?_
            first | rfl | simp only [go_sem, resAV, resAll, resOne, seval]
          · simp only [go_sem, seval]
            refine letK_s h fun K9 hK9 h => ?_
            refine blkJ 37 10000 (fun w => K9 () = some r → w [(0, .sl none (List.map AV.str l)), (5, .int .i64 v3)] []) (fun  h => runX 10000 ?_) (fun JK9 => ?_)
            · subst hK9
              dsimp only at h
              refine add_s h fun v19 _ e18 h => ?_
              simp only [go_sem, seval, e18]
              exact lp_back (ih1 v19 h) ⟨rfl, rfl, trivial⟩
            · clear hK9
              simp only [go_sem, seval]
              refine lpJ 37 fuel (fun q2 w => ∀ (v10 : Int), ref14_Vars_l2 l v3 v6 K9 q2 v10 = some r → w [(0, .sl none (List.map AV.str l)), (5, .int .i64 v3), (6, .int .i64 v10)] []) (fun w _ h => nomatch h) (fun q2 ih2 v10 h => ?_) (fun L2 => ?_)
              · unfold ref14_Vars_l2 at h
                refine runL 10000 ?_
                simp only [go_sem, seval]
                refine cnd_s 10000 h (fun hb h => ?_) (fun hb h => ?_)
                · simp only [go_sem, seval]
                  refine blk_ 10000 ?_
                  simp only [go_sem, seval]
                  refine rg_ 10000 (.inr ⟨[], by kernel_rfl, by kernel_rfl, by rfl⟩) ?_
                  refine lAt_s AV.str none .i64 ⟨9, 1, false, 16⟩ (fun _ => rfl) h fun v13 _ b11 e12 h => ?_
                  simp only [go_sem, seval, b11, e12, b4, e5]
                  refine cnd_s 10000 h (fun hb h => ?_) (fun hb h => ?_)
                  · simp only [go_sem, seval]
                    refine ret_s (fun x => .bool x) h ?_
                    first | rfl | simp only [go_sem, resAV, resAll, resOne, seval]
                  · refine add_s h fun v17 _ e16 h => ?_
                    simp only [go_sem, seval, e16]
                    exact lp_back (ih2 v17 h) ⟨rfl, rfl, rfl, trivial⟩
                · simp only [go_sem, seval]
                  exact atJ (wkn (JK9  h) ⟨rfl, rfl, trivial⟩)
              · exact lp_back (L2 0 h) ⟨rfl, rfl, rfl, trivial⟩
        · simp only [go_sem, seval]
          exact atJ (wkn (JK2  h) trivial)
      · exact lp_back (L1 0 h) ⟨rfl, rfl, trivial⟩
theorem w_ref03_cut {p0_b : (List Int)}   {r : (List Int)} (h : ref03_cut p0_b = some r) : ACall Tryz.prog 100 [.sl none (List.map (AV.int .u8) p0_b)] [] (.sl none (List.map (AV.int .u8) r)) [] := by
  refine acallX 10000 hf100 ok100 (by first | rfl | simp only [go_sem]) meek_sl ?_
  dsimp only [Tryz.f100, nums, Option.getD, List.append]
  unfold ref03_cut at h
  simp only [go_sem, seval]
  refine bsome h fun y1 hy1 h => ?_
  refine blkJ 21 10000 (fun w => w [(0, .sl none (List.map (AV.int .u8) y1))] []) (runX 10000 ?_) (fun Jy1 => ?_)
  · clear hy1
    simp only [go_sem, seval]
    refine ret_s (fun x => .sl none (List.map (AV.int .u8) x)) h ?_
    first | rfl | simp only [go_sem, resAV, resAll, resOne, seval]
  · clear h
    have h := hy1
    simp only [go_sem, seval]
    refine lpJ 21 fuel (fun q1 w => ∀ (v3 : (List Int)), ref03_cut_l1  q1 v3 = some y1 → w [(0, .sl none (List.map (AV.int .u8) v3))] []) (fun w _ h => nomatch h) (fun q1 ih1 v3 h => ?_) (fun L1 => ?_)
    · unfold ref03_cut_l1 at h
      refine runL 10000 ?_
      simp only [go_sem, seval]
      refine bsome h fun y4 hy4 h => ?_
      refine rgJ 21 10000 (.inl rfl) (fun w => w [(0, .sl none (List.map (AV.int .u8) v3)), (14, .bool y4)] []) (runX 10000 ?_) (fun Jy4 => ?_)
      · clear hy4
        simp only [go_sem, seval]
        refine cnd_s 10000 h (fun hb h => ?_) (fun hb h => ?_)
        · simp only [go_sem, seval]
          refine blk_ 10000 ?_
          refine sub_s h fun v13 _ e12 h => ?_
          refine subL_s (AV.int .u8) none ⟨5, 1, false, 1⟩ (fun _ => rfl) none (some (.int .i64 v13)) rfl rfl h fun v16 _ b14 e15 h => ?_
          simp only [go_sem, seval, e12, b14, e15]
          exact lp_back (ih1 v16 h) ⟨rfl, trivial⟩
        · simp only [go_sem, seval]
          obtain rfl := Option.some.inj h
          exact atJ (wkn (Jy1) ⟨rfl, trivial⟩)
      · clear h
        have h := hy4
        simp only [go_sem, seval]
        refine grd_ (fun hb6 => ?_) (fun hb6 => ?_)
        · have h := ite_t hb6 h
          refine sub_s h fun v8 _ e7 h => ?_
          refine lAt_s (AV.int .u8) none .i64 ⟨5, 1, false, 1⟩ (fun _ => rfl) h fun v11 _ b9 e10 h => ?_
          simp only [go_sem, seval, e7, b9, e10]
          obtain rfl := Option.some.inj h
          exact atJ (wkn (Jy4) ⟨rfl, rfl, trivial⟩)
        · have h := ite_f hb6 h
          simp only [go_sem, seval]
          obtain rfl := Option.some.inj h
          exact atJ (wkn (Jy4) ⟨rfl, rfl, trivial⟩)
    · exact lp_back (L1 p0_b h) ⟨rfl, trivial⟩
theorem w_ref03_words {p0_b : (List Int)}   {r : (List Int)} (h : ref03_words p0_b = some r) : ACall Tryz.prog 101 [.sl none (List.map (AV.int .u8) p0_b)] [] (.sl none (List.map (AV.int .u32) r)) [] := by
  refine acallX 10000 hf101 ok101 (by first | rfl | simp only [go_sem]) meek_sl ?_
  dsimp only [Tryz.f101, nums, Option.getD, List.append]
  unfold ref03_words at h
  simp only [go_sem, seval]
  refine prom_blk 3 0 false rfl (by first | rfl | simp only [go_sem]) rfl ?_
  refine bsome h fun y1 hy1 h => ?_
  refine blkJ 37 10000 (fun w => w [(3, .rs 0 0 y1.length 1 false false)] [some (List.map (AV.int .u32) y1)]) (runX 10000 ?_) (fun Jy1 => ?_)
  · clear hy1
    simp only [go_sem, seval]
    refine mvF_ 10000 (AV.int .u32) plain_int (v := y1) rfl rfl (by first | rfl | simp only [go_sem]) (by first | rfl | simp only [go_sem]) (by first | rfl | simp only [go_sem]) rfl rfl ?_
    simp only [go_sem, seval]
    refine ret_s (fun x => .sl none (List.map (AV.int .u32) x)) h ?_
    first | rfl | simp only [go_sem, resAV, resAll, resOne, seval]
  · clear h
    have h := hy1
    simp only [go_sem, seval]
    refine lpJ 37 fuel (fun q1 w => ∀ (v38 : Int) (v39 : (List Int)), ref03_words_l1 p0_b q1 v38 v39 = some y1 → w [(0, .sl none (List.map (AV.int .u8) p0_b)), (3, .rs 0 0 v39.length 1 false false), (4, .int .i64 v38)] [some (List.map (AV.int .u32) v39)]) (fun w _ _ h => nomatch h) (fun q1 ih1 v38 v39 h => ?_) (fun L1 => ?_)
    · unfold ref03_words_l1 at h
      refine runL 10000 ?_
      simp only [go_sem, seval]
      refine cnd_s 10000 h (fun hb h => ?_) (fun hb h => ?_)
      · simp only [go_sem, seval]
        refine blk_ 10000 ?_
        refine rem_s .i64 h fun v42 _ b41 e40 h => ?_
        simp only [go_sem, seval, e40, ne_eq, Int.reduceEq, not_false_eq_true]
        refine bsome h fun y43 hy43 h => ?_
        refine cndJ 37 10000 (fun w => w [(0, .sl none (List.map (AV.int .u8) p0_b)), (3, .rs 0 0 y43.length 1 false false), (4, .int .i64 v38)] [some (List.map (AV.int .u32) y43)]) (runX 10000 ?_) (fun Jy43 => ?_)
        · clear hy43
          simp only [go_sem, seval]
          refine rg_ 10000 (.inr ⟨[], by kernel_rfl, by kernel_rfl, by rfl⟩) ?_
          refine quo_s h fun v51 _ b50 e49 h => ?_
          refine bAt_s (AV.int .u32) .i64 ⟨156, 1, false, 4⟩ rfl 0 false false rfl h fun v60 _ e54 e55 e56 e57 e58 e59 h => ?_
          refine lAt_s (AV.int .u8) none .i64 ⟨5, 1, false, 1⟩ (fun _ => rfl) h fun v63 _ b61 e62 h => ?_
          refine shl_s h fun v68 _ b67 e66 h => ?_
          refine stB_s h fun v71 e69 e70 h => ?_
          refine add_s h fun v73 _ e72 h => ?_
          simp only [go_sem, seval, e49, ne_eq, Int.reduceEq, not_false_eq_true, e54, e55, e56, e57, e58, b61, e62, (cvw_e (s := 5) (k := .u8) io156 v63), e40, (cvw_e (s := 3) (k := .i64) io130 v42), e66, b67, (show intv .add .u32 v60 v68 = .int .u32 (IntKind.wrap .u32 (v60 + v68)) from rfl), e59, e69, e72]
          exact lp_back (ih1 v73 v71 h) ⟨rfl, congrArg (fun n => AV.rs 0 0 n 1 false false) e70.symm, rfl, trivial⟩
        · clear h
          have h := hy43
          refine cnd_s 10000 h (fun hb h => ?_) (fun hb h => ?_)
          · simp only [go_sem, seval]
            refine appB_s (AV.int .u32) (some none) ⟨156, 1, false, 4⟩ (fun _ => rfl) (by decide) rfl h fun v48 e45 e46 e47 h => ?_
            refine appB_ 10000 (AV.int .u32) plain_int (v := v39) (ws := ([0] : List Int)) rfl rfl rfl el83 rfl kd83 (by first | rfl | simp only [go_sem]) (by first | rfl | simp only [go_sem]) (by first | rfl | simp only [go_sem]) e45 e46 e47 (by first | rfl | simp only [go_sem]) rfl rfl ?_
            simp only [go_sem, seval]
            obtain rfl := Option.some.inj h
            exact atJ (wkn (Jy43) ⟨rfl, rfl, rfl, trivial⟩)
          · simp only [go_sem, seval]
            obtain rfl := Option.some.inj h
            exact atJ (wkn (Jy43) ⟨rfl, rfl, rfl, trivial⟩)
      · simp only [go_sem, seval]
        obtain rfl := Option.some.inj h
        exact atJ (wkn (Jy1) ⟨rfl, trivial⟩)
    · exact lp_back (L1 0 [] h) ⟨rfl, rfl, rfl, trivial⟩
theorem w_ref03_made {neg : Bool} {p1_b : (List Int)}   {r : (ref03_Num × Int)} (h : ref03_made neg p1_b = some r) : ACall Tryz.prog 77 [.bool neg, .sl none (List.map (AV.int .u8) p1_b)] [] (.tup [enc_ref03_Num r.1, .int .i64 r.2]) [] := by
  refine acallX 10000 hf77 ok77 (by first | rfl | simp only [go_sem]) meek_tup ?_
  dsimp only [Tryz.f77, nums, Option.getD, List.append]
  unfold ref03_made at h
  refine bsome h fun v1 hv1 h => ?_
  simp only [go_sem, seval]
  refine callX_ 10000 (w_ref03_cut  hv1) (by first | rfl | simp only [go_sem]) (by first | rfl | simp only [go_sem]) ?_
  refine bsome h fun v2 hv2 h => ?_
  simp only [go_sem, seval]
  refine callX_ 10000 (w_ref03_words  hv2) (by first | rfl | simp only [go_sem]) (by first | rfl | simp only [go_sem]) ?_
  simp only [go_sem, seval]
  refine cnd_s 10000 h (fun hb h => ?_) (fun hb h => ?_)
  · simp only [go_sem, seval]
    refine ret_s (fun x => .tup [enc_ref03_Num x.1, .int .i64 x.2]) h ?_
    first | rfl | simp only [go_sem, resAV, resAll, resOne, seval]
  · simp only [go_sem, seval]
    refine bsome h fun y3 hy3 h => ?_
    refine rgJ 24 10000 (.inl rfl) (fun w => w [(4, .ptr 0 0), (5, .int .i64 0)] [some [.bool y3, .sl none (List.map (AV.int .u32) v2)]]) (runX 10000 ?_) (fun Jy3 => ?_)
    · clear hy3
      simp only [go_sem, seval]
      refine ret_s (fun x => .tup [enc_ref03_Num x.1, .int .i64 x.2]) h ?_
      first | rfl | simp only [go_sem, resAV, resAll, resOne, seval]
    · clear h
      have h := hy3
      simp only [go_sem, seval]
      refine grd_ (fun hb5 => ?_) (fun hb5 => ?_)
      · have h := ite_t hb5 h
        simp only [go_sem, seval]
        obtain rfl := Option.some.inj h
        exact atJ (wkn (Jy3) ⟨rfl, rfl, trivial⟩)
      · have h := ite_f hb5 h
        simp only [go_sem, seval]
        obtain rfl := Option.some.inj h
        exact atJ (wkn (Jy3) ⟨rfl, rfl, trivial⟩)
theorem w_ref03_Parse {s : Str}   {r : (ref03_Num × Int)} (h : ref03_Parse s = some r) : ACall Tryz.prog 52 [.str s] [] (.tup [enc_ref03_Num r.1, .int .i64 r.2]) [] := by
  refine acallX 10000 hf52 ok52 (by first | rfl | simp only [go_sem]) meek_tup ?_
  dsimp only [Tryz.f52, nums, Option.getD, List.append]
  unfold ref03_Parse at h
  simp only [go_sem, seval]
  refine bsome h fun y1 hy1 h => ?_
  refine rgJ 115 10000 (.inl rfl) (fun w => w [(0, .str s), (2, .ptr 0 0), (4, .bool y1)] [some [.bool false, .sl (some none) []]]) (runX 10000 ?_) (fun Jy1 => ?_)
  · clear hy1
    simp only [go_sem, seval]
    refine bsome h fun y7 hy7 h => ?_
    refine cndJ 115 10000 (fun w => w [(2, .ptr 0 0), (4, .bool y1), (5, .str y7)] [some [.bool false, .sl (some none) []]]) (runX 10000 ?_) (fun Jy7 => ?_)
    · clear hy7
      simp only [go_sem, seval]
      refine bsome h fun y12 hy12 h => ?_
      refine rgJ 115 10000 (.inl rfl) (fun w => w [(2, .ptr 0 0), (4, .bool y1), (5, .str y7), (48, .bool y12)] [some [.bool false, .sl (some none) []]]) (runX 10000 ?_) (fun Jy12 => ?_)
      · clear hy12
        simp only [go_sem, seval]
        refine cnd_s 10000 h (fun hb h => ?_) (fun hb h => ?_)
        · simp only [go_sem, seval]
          refine ret_s (fun x => .tup [enc_ref03_Num x.1, .int .i64 x.2]) h ?_
          first | rfl | simp only [go_sem, resAV, resAll, resOne, seval]
        · simp only [go_sem, seval]
          refine letK_s h fun K24 hK24 h => ?_
          refine blkJ 115 10000 (fun w => ∀ (v43 : (List Int)), K24 v43 = some r → w [(2, .ptr 0 0), (4, .bool y1), (6, .sl (some none) (List.map (AV.int .u8) v43))] [some [.bool false, .sl (some none) []]]) (fun v43 h => runX 10000 ?_) (fun JK24 => ?_)
          · subst hK24
            dsimp only at h
            simp only [go_sem, seval]
            refine bsome h fun y44 hy44 h => ?_
            refine blkJ 115 10000 (fun w => w [(2, .ptr 0 0), (4, .bool y1), (8, .sl (some none) (List.map (AV.int .u8) y44))] [some [.bool false, .sl (some none) []]]) (runX 10000 ?_) (fun Jy44 => ?_)
            · clear hy44
              refine bsome h fun v110 hv110 h => ?_
              simp only [go_sem, seval]
              refine callX_ 10000 (w_ref03_made  hv110) (by first | rfl | simp only [go_sem]) (by first | rfl | simp only [go_sem]) ?_
              simp only [go_sem, seval]
              refine ret_s (fun x => .tup [enc_ref03_Num x.1, .int .i64 x.2]) h ?_
              first | rfl | simp only [go_sem, resAV, resAll, resOne, seval]
            · clear h
              have h := hy44
              simp only [go_sem, seval]
              refine unown_lp 6 (by first | rfl | simp only [go_sem]) ?_
              refine lpJ 115 fuel (fun q2 w => ∀ (v78 : (List Int)) (v79 : (List Int)), ref03_Parse_l2  q2 v78 v79 = some y44 → w [(2, .ptr 0 0), (4, .bool y1), (6, .sl none (List.map (AV.int .u8) v78)), (8, .sl (some none) (List.map (AV.int .u8) v79))] [some [.bool false, .sl (some none) []]]) (fun w _ _ h => nomatch h) (fun q2 ih2 v78 v79 h => ?_) (fun L2 => ?_)
              · unfold ref03_Parse_l2 at h
                refine runL 10000 ?_
                simp only [go_sem, seval]
                refine cnd_s 10000 h (fun hb h => ?_) (fun hb h => ?_)
                · simp only [go_sem, seval]
                  refine blk_ 10000 ?_
                  simp only [go_sem, seval]
                  refine bsome h fun y80 hy80 h => ?_
                  refine blkJ 115 10000 (fun w => w [(2, .ptr 0 0), (4, .bool y1), (8, .sl (some none) (List.map (AV.int .u8) v79)), (9, .int .u8 y80.1), (10, .sl (some none) (List.map (AV.int .u8) y80.2))] [some [.bool false, .sl (some none) []]]) (runX 10000 ?_) (fun Jy80 => ?_)
                  · clear hy80
                    refine app_s (AV.int .u8) (some none) ⟨5, 1, false, 1⟩ (fun _ => rfl) (by decide) rfl h fun v109 _ (b107 : appc ⟨5, 1, false, 1⟩ (.sl (some none) (List.map (AV.int .u8) v79)) (.sl (some none) [.int .u8 y80.1])) (e108 : appv (.sl (some none) (List.map (AV.int .u8) v79)) (.sl (some none) [.int .u8 y80.1]) = .sl (some none) (List.map (AV.int .u8) v109)) h => ?_
                    simp only [go_sem, seval, b107, e108]
                    exact lp_back (ih2 y80.2 v109 h) ⟨rfl, rfl, rfl, rfl, trivial⟩
                  · clear h
                    have h := hy80
                    simp only [go_sem, seval]
                    refine lpJ 115 fuel (fun q4 w => ∀ (v82 : Int) (v83 : (List Int)) (v84 : Int), ref03_Parse_l4 v78 q4 v82 v83 v84 = some y80 → w [(2, .ptr 0 0), (4, .bool y1), (6, .sl none (List.map (AV.int .u8) v78)), (8, .sl (some none) (List.map (AV.int .u8) v79)), (9, .int .u8 v82), (10, .sl (some none) (List.map (AV.int .u8) v83)), (11, .int .i64 v84)] [some [.bool false, .sl (some none) []]]) (fun w _ _ _ h => nomatch h) (fun q4 ih4 v82 v83 v84 h => ?_) (fun L4 => ?_)
                    · unfold ref03_Parse_l4 at h
                      refine runL 10000 ?_
                      simp only [go_sem, seval]
                      refine cnd_s 10000 h (fun hb h => ?_) (fun hb h => ?_)
                      · simp only [go_sem, seval]
                        refine blk_ 10000 ?_
                        refine lAt_s (AV.int .u8) none .i64 ⟨5, 1, false, 1⟩ (fun _ => rfl) h fun v87 _ b85 e86 h => ?_
                        simp only [go_sem, seval, (show intv .mul .u8 10 v82 = .int .u8 (IntKind.wrap .u8 (10 * v82)) from rfl), b85, e86, (show intv .add .u8 (IntKind.wrap .u8 (10 * v82)) v87 = .int .u8 (IntKind.wrap .u8 ((IntKind.wrap .u8 (10 * v82)) + v87)) from rfl)]
                        refine bsome h fun y88 hy88 h => ?_
                        refine rgJ 115 10000 (.inl rfl) (fun w => w [(2, .ptr 0 0), (4, .bool y1), (6, .sl none (List.map (AV.int .u8) v78)), (8, .sl (some none) (List.map (AV.int .u8) v79)), (9, .int .u8 (IntKind.wrap .u8 ((IntKind.wrap .u8 (10 * v82)) + v87))), (10, .sl (some none) (List.map (AV.int .u8) v83)), (11, .int .i64 v84), (97, .bool y88)] [some [.bool false, .sl (some none) []]]) (runX 10000 ?_) (fun Jy88 => ?_)
                        · clear hy88
                          simp only [go_sem, seval]
                          refine bsome h fun y94 hy94 h => ?_
                          refine cndJ 115 10000 (fun w => w [(2, .ptr 0 0), (4, .bool y1), (6, .sl none (List.map (AV.int .u8) v78)), (8, .sl (some none) (List.map (AV.int .u8) v79)), (9, .int .u8 (IntKind.wrap .u8 ((IntKind.wrap .u8 (10 * v82)) + v87))), (10, .sl (some none) (List.map (AV.int .u8) y94)), (11, .int .i64 v84)] [some [.bool false, .sl (some none) []]]) (runX 10000 ?_) (fun Jy94 => ?_)
                          · clear hy94
                            refine rem_s .u8 h fun v104 _ b103 e102 h => ?_
                            refine add_s h fun v106 _ e105 h => ?_
                            simp only [go_sem, seval, e102, ne_eq, Int.reduceEq, not_false_eq_true, e105]
                            exact lp_back (ih4 v104 y94 v106 h) ⟨rfl, rfl, rfl, rfl, rfl, rfl, rfl, trivial⟩
                          · clear h
                            have h := hy94
                            refine cnd_s 10000 h (fun hb h => ?_) (fun hb h => ?_)
                            · refine quo_s h fun v98 _ b97 e96 h => ?_
                              refine app_s (AV.int .u8) (some none) ⟨5, 1, false, 1⟩ (fun _ => rfl) (by decide) rfl h fun v101 _ (b99 : appc ⟨5, 1, false, 1⟩ (.sl (some none) (List.map (AV.int .u8) v83)) (.sl (some none) [.int .u8 v98])) (e100 : appv (.sl (some none) (List.map (AV.int .u8) v83)) (.sl (some none) [.int .u8 v98]) = .sl (some none) (List.map (AV.int .u8) v101)) h => ?_
                              simp only [go_sem, seval, e96, ne_eq, Int.reduceEq, not_false_eq_true, b99, e100]
                              obtain rfl := Option.some.inj h
                              exact atJ (wkn (Jy94) ⟨rfl, rfl, rfl, rfl, rfl, rfl, rfl, trivial⟩)
                            · simp only [go_sem, seval]
                              obtain rfl := Option.some.inj h
                              exact atJ (wkn (Jy94) ⟨rfl, rfl, rfl, rfl, rfl, rfl, rfl, trivial⟩)
                        · clear h
                          have h := hy88
                          simp only [go_sem, seval]
                          refine grd_ (fun hb90 => ?_) (fun hb90 => ?_)
                          · have h := ite_f hb90 h
                            refine quo_s h fun v93 _ b92 e91 h => ?_
                            simp only [go_sem, seval, e91, ne_eq, Int.reduceEq, not_false_eq_true]
                            obtain rfl := Option.some.inj h
                            exact atJ (wkn (Jy88) ⟨rfl, rfl, rfl, rfl, rfl, rfl, rfl, rfl, trivial⟩)
                          · have h := ite_t hb90 h
                            simp only [go_sem, seval]
                            obtain rfl := Option.some.inj h
                            exact atJ (wkn (Jy88) ⟨rfl, rfl, rfl, rfl, rfl, rfl, rfl, rfl, trivial⟩)
                      · simp only [go_sem, seval]
                        obtain rfl := Option.some.inj h
                        exact atJ (wkn (Jy80) ⟨rfl, rfl, rfl, rfl, rfl, trivial⟩)
                    · exact lp_back (L4 0 [] 0 h) ⟨rfl, rfl, rfl, rfl, rfl, rfl, rfl, trivial⟩
                · simp only [go_sem, seval]
                  obtain rfl := Option.some.inj h
                  exact atJ (wkn (Jy44) ⟨rfl, rfl, rfl, trivial⟩)
              · exact lp_back (L2 v43 [] h) ⟨rfl, rfl, rfl, rfl, trivial⟩
          · clear hK24
            simp only [go_sem, seval]
            refine lpJ 115 fuel (fun q1 w => ∀ (v25 : (List Int)) (v26 : Int), ref03_Parse_l1 y7 K24 q1 v25 v26 = some r → w [(2, .ptr 0 0), (4, .bool y1), (5, .str y7), (6, .sl (some none) (List.map (AV.int .u8) v25)), (7, .int .i64 v26)] [some [.bool false, .sl (some none) []]]) (fun w _ _ h => nomatch h) (fun q1 ih1 v25 v26 h => ?_) (fun L1 => ?_)
            · unfold ref03_Parse_l1 at h
              refine runL 10000 ?_
              simp only [go_sem, seval]
              refine cnd_s 10000 h (fun hb h => ?_) (fun hb h => ?_)
              · simp only [go_sem, seval]
                refine blk_ 10000 ?_
                simp only [go_sem, seval]
                refine bsome h fun y27 hy27 h => ?_
                refine rgJ 115 10000 (.inl rfl) (fun w => w [(2, .ptr 0 0), (4, .bool y1), (5, .str y7), (6, .sl (some none) (List.map (AV.int .u8) v25)), (7, .int .i64 v26), (65, .bool y27)] [some [.bool false, .sl (some none) []]]) (runX 10000 ?_) (fun Jy27 => ?_)
                · clear hy27
                  simp only [go_sem, seval]
                  refine cnd_s 10000 h (fun hb h => ?_) (fun hb h => ?_)
                  · simp only [go_sem, seval]
                    refine ret_s (fun x => .tup [enc_ref03_Num x.1, .int .i64 x.2]) h ?_
                    first | rfl | simp only [go_sem, resAV, resAll, resOne, seval]
                  · refine sIdx_s .i64 h fun v37 _ b35 e36 h => ?_
                    refine app_s (AV.int .u8) (some none) ⟨5, 1, false, 1⟩ (fun _ => rfl) (by decide) rfl h fun v40 _ (b38 : appc ⟨5, 1, false, 1⟩ (.sl (some none) (List.map (AV.int .u8) v25)) (.sl (some none) [.int .u8 (IntKind.wrap .u8 (v37 - 48))])) (e39 : appv (.sl (some none) (List.map (AV.int .u8) v25)) (.sl (some none) [.int .u8 (IntKind.wrap .u8 (v37 - 48))]) = .sl (some none) (List.map (AV.int .u8) v40)) h => ?_
                    refine add_s h fun v42 _ e41 h => ?_
                    simp only [go_sem, seval, b35, e36, (show intv .sub .u8 v37 48 = .int .u8 (IntKind.wrap .u8 (v37 - 48)) from rfl), b38, e39, e41]
                    exact lp_back (ih1 v40 v42 h) ⟨rfl, rfl, rfl, rfl, rfl, trivial⟩
                · clear h
                  have h := hy27
                  refine sIdx_s .i64 h fun v31 _ b29 e30 h => ?_
                  simp only [go_sem, seval, b29, e30]
                  refine grd_ (fun hb32 => ?_) (fun hb32 => ?_)
                  · have h := ite_f hb32 h
                    simp only [go_sem, seval, b29, e30]
                    obtain rfl := Option.some.inj h
                    exact atJ (wkn (Jy27) ⟨rfl, rfl, rfl, rfl, rfl, rfl, trivial⟩)
                  · have h := ite_t hb32 h
                    simp only [go_sem, seval]
                    obtain rfl := Option.some.inj h
                    exact atJ (wkn (Jy27) ⟨rfl, rfl, rfl, rfl, rfl, rfl, trivial⟩)
              · simp only [go_sem, seval]
                exact atJ (wkn (JK24 v25 h) ⟨rfl, rfl, rfl, trivial⟩)
            · exact lp_back (L1 [] 0 h) ⟨rfl, rfl, rfl, rfl, rfl, trivial⟩
      · clear h
        have h := hy12
        simp only [go_sem, seval]
        refine grd_ (fun hb14 => ?_) (fun hb14 => ?_)
        · have h := ite_f hb14 h
          simp only [go_sem, seval]
          refine grd_ (fun hb15 => ?_) (fun hb15 => ?_)
          · have h := ite_f hb15 h
            simp only [go_sem, seval]
            refine grd_ (fun hb16 => ?_) (fun hb16 => ?_)
            · have h := ite_t hb16 h
              refine sIdx_s .i64 h fun v19 _ b17 e18 h => ?_
              simp only [go_sem, seval, b17, e18]
              refine grd_ (fun hb20 => ?_) (fun hb20 => ?_)
              · have h := ite_f hb20 h
                simp only [go_sem, seval]
                refine grd_ (fun hb21 => ?_) (fun hb21 => ?_)
                · have h := ite_t hb21 h
                  simp only [go_sem, seval]
                  obtain rfl := Option.some.inj h
                  exact atJ (wkn (Jy12) ⟨rfl, rfl, rfl, rfl, trivial⟩)
                · have h := ite_f hb21 h
                  simp only [go_sem, seval]
                  obtain rfl := Option.some.inj h
                  exact atJ (wkn (Jy12) ⟨rfl, rfl, rfl, rfl, trivial⟩)
              · have h := ite_t hb20 h
                simp only [go_sem, seval]
                obtain rfl := Option.some.inj h
                exact atJ (wkn (Jy12) ⟨rfl, rfl, rfl, rfl, trivial⟩)
            · have h := ite_f hb16 h
              simp only [go_sem, seval]
              refine grd_ (fun hb22 => ?_) (fun hb22 => ?_)
              · have h := ite_t hb22 h
                simp only [go_sem, seval]
                obtain rfl := Option.some.inj h
                exact atJ (wkn (Jy12) ⟨rfl, rfl, rfl, rfl, trivial⟩)
              · have h := ite_f hb22 h
                simp only [go_sem, seval]
                obtain rfl := Option.some.inj h
                exact atJ (wkn (Jy12) ⟨rfl, rfl, rfl, rfl, trivial⟩)
          · have h := ite_t hb15 h
            simp only [go_sem, seval]
            obtain rfl := Option.some.inj h
            exact atJ (wkn (Jy12) ⟨rfl, rfl, rfl, rfl, trivial⟩)
        · have h := ite_t hb14 h
          simp only [go_sem, seval]
          obtain rfl := Option.some.inj h
          exact atJ (wkn (Jy12) ⟨rfl, rfl, rfl, rfl, trivial⟩)
    · clear h
      have h := hy7
      refine cnd_s 10000 h (fun hb h => ?_) (fun hb h => ?_)
      · refine subS_s (some (.int .i64 1)) none rfl rfl h fun v11 _ b9 e10 h => ?_
        simp only [go_sem, seval, b9, e10]
        obtain rfl := Option.some.inj h
        exact atJ (wkn (Jy7) ⟨rfl, rfl, rfl, trivial⟩)
      · simp only [go_sem, seval]
        obtain rfl := Option.some.inj h
        exact atJ (wkn (Jy7) ⟨rfl, rfl, rfl, trivial⟩)
  · clear h
    have h := hy1
    simp only [go_sem, seval]
    refine grd_ (fun hb3 => ?_) (fun hb3 => ?_)
    · have h := ite_t hb3 h
      refine sIdx_s .i64 h fun v6 _ b4 e5 h => ?_
      simp only [go_sem, seval, b4, e5]
      obtain rfl := Option.some.inj h
      exact atJ (wkn (Jy1) ⟨rfl, rfl, rfl, trivial⟩)
    · have h := ite_f hb3 h
      simp only [go_sem, seval]
      obtain rfl := Option.some.inj h
      exact atJ (wkn (Jy1) ⟨rfl, rfl, rfl, trivial⟩)
theorem w_ref14_shape {n : ref14_Node}   {r : Bool} (h : ref14_shape n = some r) : ACall Tryz.prog 26 [enc_ref14_Node n] [] (.bool r) [] := by
  refine acallX 10000 hf26 ok26 (by first | rfl | simp only [go_sem]) meek_bool ?_
  dsimp only [Tryz.f26, nums, Option.getD, List.append]
  unfold ref14_shape at h
  simp only [go_sem, seval]
  refine rgJ 145 10000 (.inl rfl) (fun w => w [(1, .ptr 0 0), (24, .bool (((!decide (n.K = 12)) && ((!decide (n.N = 0)) || (decide ((0 : Int) < (n.L.length : Int))))) || (decide ((13 : Int) < n.K))))] [some [.int .u8 n.K, .str n.S, .int .i64 n.N, .sl none (List.map AV.str n.L), .sl none (List.map (AV.int .i64) n.Kids)]]) (runX 10000 ?_) (fun Jg1 => ?_)
  · simp only [go_sem, seval]
    refine cnd_s 10000 h (fun hb h => ?_) (fun hb h => ?_)
    · simp only [go_sem, seval]
      refine ret_s (fun x => .bool x) h ?_
      first | rfl | simp only [go_sem, resAV, resAll, resOne, seval]
    · simp only [go_sem, seval]
      refine rgJ 145 10000 (.inl rfl) (fun w => w [(1, .ptr 0 0), (37, .bool (((decide (n.K < 5)) || (decide (n.K = 10))) || (decide ((12 : Int) ≤ n.K))))] [some [.int .u8 n.K, .str n.S, .int .i64 n.N, .sl none (List.map AV.str n.L), .sl none (List.map (AV.int .i64) n.Kids)]]) (runX 10000 ?_) (fun Jg2 => ?_)
      · simp only [go_sem, seval]
        refine letK_s h fun K4 hK4 h => ?_
        refine cndJ 145 10000 (fun w => K4 () = some r → w [(1, .ptr 0 0)] [some [.int .u8 n.K, .str n.S, .int .i64 n.N, .sl none (List.map AV.str n.L), .sl none (List.map (AV.int .i64) n.Kids)]]) (fun  h => runX 10000 ?_) (fun JK4 => ?_)
        · subst hK4
          dsimp only at h
          simp only [go_sem, seval]
          refine rgJ 145 10000 (.inl rfl) (fun w => w [(1, .ptr 0 0), (3, .int .i64 (n.Kids.length : Int)), (50, .bool ((decide (n.K < 8)) && (decide ((0 : Int) < (n.Kids.length : Int)))))] [some [.int .u8 n.K, .str n.S, .int .i64 n.N, .sl none (List.map AV.str n.L), .sl none (List.map (AV.int .i64) n.Kids)]]) (runX 10000 ?_) (fun Jg5 => ?_)
          · simp only [go_sem, seval]
            refine cnd_s 10000 h (fun hb h => ?_) (fun hb h => ?_)
            · simp only [go_sem, seval]
              refine ret_s (fun x => .bool x) h ?_
              first | rfl | simp only [go_sem, resAV, resAll, resOne, seval]
            · simp only [go_sem, seval]
              refine cnd_s 10000 h (fun hb h => ?_) (fun hb h => ?_)
              · refine bsome h fun v6 hv6 h => ?_
                simp only [go_sem, seval]
                refine callX_ 10000 (w_ref03_Parse  hv6) (by first | rfl | simp only [go_sem]) (by first | rfl | simp only [go_sem]) ?_
                simp only [go_sem, seval]
                refine ret_s (fun x => .bool x) h ?_
                first | rfl | simp only [go_sem, resAV, resAll, resOne, seval]
              · simp only [go_sem, seval]
                refine cnd_s 10000 h (fun hb h => ?_) (fun hb h => ?_)
                · simp only [go_sem, seval]
                  refine ret_s (fun x => .bool x) h ?_
                  first | rfl | simp only [go_sem, resAV, resAll, resOne, seval]
                · simp only [go_sem, seval]
                  refine cnd_s 10000 h (fun hb h => ?_) (fun hb h => ?_)
                  · simp only [go_sem, seval]
                    refine bsome h fun y7 hy7 h => ?_
                    refine rgJ 145 10000 (.inl rfl) (fun w => w [(2, .bool y7)] [some [.int .u8 n.K, .str n.S, .int .i64 n.N, .sl none (List.map AV.str n.L), .sl none (List.map (AV.int .i64) n.Kids)]]) (runX 10000 ?_) (fun Jy7 => ?_)
                    · clear hy7
                      simp only [go_sem, seval]
                      refine ret_s (fun x => .bool x) h ?_
                      first | rfl | simp only [go_sem, resAV, resAll, resOne, seval]
                    · clear h
                      have h := hy7
                      refine bsome h fun v9 hv9 h => ?_
                      simp only [go_sem, seval]
                      refine callX_ 10000 (w_ref10_Var  hv9) (by first | rfl | simp only [go_sem]) (by first | rfl | simp only [go_sem]) ?_
                      simp only [go_sem, seval]
                      refine grd_ (fun hb10 => ?_) (fun hb10 => ?_)
                      · have h := ite_f hb10 h
                        refine bsome h fun v11 hv11 h => ?_
                        simp only [go_sem, seval]
                        refine callX_ 10000 (w_ref10_Name  hv11) (by first | rfl | simp only [go_sem]) (by first | rfl | simp only [go_sem]) ?_
                        simp only [go_sem, seval]
                        obtain rfl := Option.some.inj h
                        exact atJ (wkn (Jy7) ⟨rfl, trivial⟩)
                      · have h := ite_t hb10 h
                        simp only [go_sem, seval]
                        obtain rfl := Option.some.inj h
                        exact atJ (wkn (Jy7) ⟨rfl, trivial⟩)
                  · simp only [go_sem, seval]
                    refine cnd_s 10000 h (fun hb h => ?_) (fun hb h => ?_)
                    · simp only [go_sem, seval]
                      refine bsome h fun y12 hy12 h => ?_
                      refine rgJ 145 10000 (.inl rfl) (fun w => w [(2, .bool y12)] [some [.int .u8 n.K, .str n.S, .int .i64 n.N, .sl none (List.map AV.str n.L), .sl none (List.map (AV.int .i64) n.Kids)]]) (runX 10000 ?_) (fun Jy12 => ?_)
                      · clear hy12
                        simp only [go_sem, seval]
                        refine ret_s (fun x => .bool x) h ?_
                        first | rfl | simp only [go_sem, resAV, resAll, resOne, seval]
                      · clear h
                        have h := hy12
                        simp only [go_sem, seval]
                        refine grd_ (fun hb14 => ?_) (fun hb14 => ?_)
                        · have h := ite_t hb14 h
                          refine bsome h fun v15 hv15 h => ?_
                          simp only [go_sem, seval]
                          refine callX_ 10000 (w_ref10_Var  hv15) (by first | rfl | simp only [go_sem]) (by first | rfl | simp only [go_sem]) ?_
                          simp only [go_sem, seval]
                          obtain rfl := Option.some.inj h
                          exact atJ (wkn (Jy12) ⟨rfl, trivial⟩)
                        · have h := ite_f hb14 h
                          simp only [go_sem, seval]
                          obtain rfl := Option.some.inj h
                          exact atJ (wkn (Jy12) ⟨rfl, trivial⟩)
                    · simp only [go_sem, seval]
                      refine cnd_s 10000 h (fun hb h => ?_) (fun hb h => ?_)
                      · refine sub_s h fun v17 _ e16 h => ?_
                        refine bsome h fun v18 hv18 h => ?_
                        simp only [go_sem, seval, e16]
                        refine callX_ 10000 (w_ref14_takes  hv18) (by first | rfl | simp only [go_sem]) (by first | rfl | simp only [go_sem]) ?_
                        simp only [go_sem, seval]
                        refine ret_s (fun x => .bool x) h ?_
                        first | rfl | simp only [go_sem, resAV, resAll, resOne, seval]
                      · simp only [go_sem, seval]
                        refine cnd_s 10000 h (fun hb h => ?_) (fun hb h => ?_)
                        · simp only [go_sem, seval]
                          refine rgJ 145 10000 (.inl rfl) (fun w => w [(2, .bool ((decide ((3 : Int) ≤ (n.Kids.length : Int))) && (decide ((n.Kids.length : Int) ≤ 17))))] [some [.int .u8 n.K, .str n.S, .int .i64 n.N, .sl none (List.map AV.str n.L), .sl none (List.map (AV.int .i64) n.Kids)]]) (runX 10000 ?_) (fun Jg19 => ?_)
                          · simp only [go_sem, seval]
                            refine ret_s (fun x => .bool x) h ?_
                            first | rfl | simp only [go_sem, resAV, resAll, resOne, seval]
                          · simp only [go_sem, seval]
                            refine grd_ (fun hb20 => ?_) (fun hb20 => ?_)
                            · simp only [go_sem, seval]
                              exact atJ (wkn Jg19 ⟨congrArg AV.bool (by first | rfl | (rw [hb20]; rfl) | (simp [hb20]; done) | simp_all), trivial⟩)
                            · simp only [go_sem, seval]
                              exact atJ (wkn Jg19 ⟨congrArg AV.bool (by first | rfl | (rw [hb20]; rfl) | (simp [hb20]; done) | simp_all), trivial⟩)
                        · simp only [go_sem, seval]
                          refine cnd_s 10000 h (fun hb h => ?_) (fun hb h => ?_)
                          · refine bsome h fun v21 hv21 h => ?_
                            simp only [go_sem, seval]
                            refine callX_ 10000 (w_ref14_takes  hv21) (by first | rfl | simp only [go_sem]) (by first | rfl | simp only [go_sem]) ?_
                            simp only [go_sem, seval]
                            refine ret_s (fun x => .bool x) h ?_
                            first | rfl | simp only [go_sem, resAV, resAll, resOne, seval]
                          · simp only [go_sem, seval]
                            refine cnd_s 10000 h (fun hb h => ?_) (fun hb h => ?_)
                            · simp only [go_sem, seval]
                              refine bsome h fun y22 hy22 h => ?_
                              refine rgJ 145 10000 (.inl rfl) (fun w => w [(2, .bool y22)] [some [.int .u8 n.K, .str n.S, .int .i64 n.N, .sl none (List.map AV.str n.L), .sl none (List.map (AV.int .i64) n.Kids)]]) (runX 10000 ?_) (fun Jy22 => ?_)
                              · clear hy22
                                simp only [go_sem, seval]
                                refine ret_s (fun x => .bool x) h ?_
                                first | rfl | simp only [go_sem, resAV, resAll, resOne, seval]
                              · clear h
                                have h := hy22
                                simp only [go_sem, seval]
                                refine grd_ (fun hb24 => ?_) (fun hb24 => ?_)
                                · have h := ite_t hb24 h
                                  simp only [go_sem, seval]
                                  refine grd_ (fun hb25 => ?_) (fun hb25 => ?_)
                                  · have h := ite_t hb25 h
                                    simp only [go_sem, seval]
                                    refine grd_ (fun hb26 => ?_) (fun hb26 => ?_)
                                    · have h := ite_t hb26 h
                                      refine bsome h fun v27 hv27 h => ?_
                                      simp only [go_sem, seval]
                                      refine callX_ 10000 (w_ref14_Vars  hv27) (by first | rfl | simp only [go_sem]) (by first | rfl | simp only [go_sem]) ?_
                                      simp only [go_sem, seval]
                                      obtain rfl := Option.some.inj h
                                      exact atJ (wkn (Jy22) ⟨rfl, trivial⟩)
                                    · have h := ite_f hb26 h
                                      simp only [go_sem, seval]
                                      obtain rfl := Option.some.inj h
                                      exact atJ (wkn (Jy22) ⟨rfl, trivial⟩)
                                  · have h := ite_f hb25 h
                                    simp only [go_sem, seval]
                                    obtain rfl := Option.some.inj h
                                    exact atJ (wkn (Jy22) ⟨rfl, trivial⟩)
                                · have h := ite_f hb24 h
                                  simp only [go_sem, seval]
                                  obtain rfl := Option.some.inj h
                                  exact atJ (wkn (Jy22) ⟨rfl, trivial⟩)
                            · simp only [go_sem, seval]
                              refine rgJ 145 10000 (.inl rfl) (fun w => w [(2, .bool ((decide (n.K < 8)) || (decide ((n.Kids.length : Int) = 1))))] [some [.int .u8 n.K, .str n.S, .int .i64 n.N, .sl none (List.map AV.str n.L), .sl none (List.map (AV.int .i64) n.Kids)]]) (runX 10000 ?_) (fun Jg28 => ?_)
                              · simp only [go_sem, seval]
                                refine ret_s (fun x => .bool x) h ?_
                                first | rfl | simp only [go_sem, resAV, resAll, resOne, seval]
                              · simp only [go_sem, seval]
                                refine grd_ (fun hb29 => ?_) (fun hb29 => ?_)
                                · simp only [go_sem, seval]
                                  exact atJ (wkn Jg28 ⟨congrArg AV.bool (by first | rfl | (rw [hb29]; rfl) | (simp [hb29]; done) | simp_all), trivial⟩)
                                · simp only [go_sem, seval]
                                  exact atJ (wkn Jg28 ⟨congrArg AV.bool (by first | rfl | (rw [hb29]; rfl) | (simp [hb29]; done) | simp_all), trivial⟩)
          · simp only [go_sem, seval]
            refine grd_ (fun hb30 => ?_) (fun hb30 => ?_)
            · simp only [go_sem, seval]
              exact atJ (wkn Jg5 ⟨rfl, rfl, congrArg AV.bool (by first | rfl | (rw [hb30]; rfl) | (simp [hb30]; done) | simp_all), trivial⟩)
            · simp only [go_sem, seval]
              exact atJ (wkn Jg5 ⟨rfl, rfl, congrArg AV.bool (by first | rfl | (rw [hb30]; rfl) | (simp [hb30]; done) | simp_all), trivial⟩)
        · clear hK4
          refine cnd_s 10000 h (fun hb h => ?_) (fun hb h => ?_)
          · simp only [go_sem, seval]
            refine cnd_s 10000 h (fun hb h => ?_) (fun hb h => ?_)
            · simp only [go_sem, seval]
              refine ret_s (fun x => .bool x) h ?_
              first | rfl | simp only [go_sem, resAV, resAll, resOne, seval]
            · simp only [go_sem, seval]
              exact atJ (wkn (JK4  h) ⟨rfl, trivial⟩)
          · simp only [go_sem, seval]
            exact atJ (wkn (JK4  h) ⟨rfl, trivial⟩)
      · simp only [go_sem, seval]
        refine grd_ (fun hb31 => ?_) (fun hb31 => ?_)
        · simp only [go_sem, seval]
          refine grd_ (fun hb32 => ?_) (fun hb32 => ?_)
          · simp only [go_sem, seval]
            exact atJ (wkn Jg2 ⟨rfl, congrArg AV.bool (by first | rfl | (rw [hb31, hb32]; rfl) | (simp [hb31, hb32]; done) | simp_all), trivial⟩)
          · simp only [go_sem, seval]
            exact atJ (wkn Jg2 ⟨rfl, congrArg AV.bool (by first | rfl | (rw [hb31, hb32]; rfl) | (simp [hb31, hb32]; done) | simp_all), trivial⟩)
        · simp only [go_sem, seval]
          exact atJ (wkn Jg2 ⟨rfl, congrArg AV.bool (by first | rfl | (rw [hb31]; rfl) | (simp [hb31]; done) | simp_all), trivial⟩)
  · simp only [go_sem, seval]
    refine grd_ (fun hb33 => ?_) (fun hb33 => ?_)
    · simp only [go_sem, seval]
      refine grd_ (fun hb34 => ?_) (fun hb34 => ?_)
      · simp only [go_sem, seval]
        refine grd_ (fun hb35 => ?_) (fun hb35 => ?_)
        · simp only [go_sem, seval]
          exact atJ (wkn Jg1 ⟨rfl, congrArg AV.bool (by first | rfl | (rw [hb33, hb34, hb35]; rfl) | (simp [hb33, hb34, hb35]; done) | simp_all), trivial⟩)
        · simp only [go_sem, seval]
          exact atJ (wkn Jg1 ⟨rfl, congrArg AV.bool (by first | rfl | (rw [hb33, hb34, hb35]; rfl) | (simp [hb33, hb34, hb35]; done) | simp_all), trivial⟩)
      · simp only [go_sem, seval]
        exact atJ (wkn Jg1 ⟨rfl, congrArg AV.bool (by first | rfl | (rw [hb33, hb34]; rfl) | (simp [hb33, hb34]; done) | simp_all), trivial⟩)
    · simp only [go_sem, seval]
      exact atJ (wkn Jg1 ⟨rfl, congrArg AV.bool (by first | rfl | (rw [hb33]; rfl) | (simp [hb33]; done) | simp_all), trivial⟩)
theorem w_ref14_stands {k : Int} {above : Int} {at_ : Int} {of : Int}   {r : Bool} (h : ref14_stands k above at_ of = some r) : ACall Tryz.prog 27 [.int .u8 k, .int .u8 above, .int .i64 at_, .int .i64 of] [] (.bool r) [] := by
  refine acallX 10000 hf27 ok27 (by first | rfl | simp only [go_sem]) meek_bool ?_
  dsimp only [Tryz.f27, nums, Option.getD, List.append]
  unfold ref14_stands at h
  simp only [go_sem, seval]
  refine cnd_s 10000 h (fun hb h => ?_) (fun hb h => ?_)
  · simp only [go_sem, seval]
    refine rgJ 44 10000 (.inl rfl) (fun w => w [(8, .bool (((decide (above = 9)) || (decide (above = 10))) && (decide (at_ = 0))))] []) (runX 10000 ?_) (fun Jg1 => ?_)
    · simp only [go_sem, seval]
      refine ret_s (fun x => .bool x) h ?_
      first | rfl | simp only [go_sem, resAV, resAll, resOne, seval]
    · simp only [go_sem, seval]
      refine grd_ (fun hb2 => ?_) (fun hb2 => ?_)
      · simp only [go_sem, seval]
        refine grd_ (fun hb3 => ?_) (fun hb3 => ?_)
        · simp only [go_sem, seval]
          exact atJ (wkn Jg1 ⟨congrArg AV.bool (by first | rfl | (rw [hb2, hb3]; rfl) | (simp [hb2, hb3]; done) | simp_all), trivial⟩)
        · simp only [go_sem, seval]
          exact atJ (wkn Jg1 ⟨congrArg AV.bool (by first | rfl | (rw [hb2, hb3]; rfl) | (simp [hb2, hb3]; done) | simp_all), trivial⟩)
      · simp only [go_sem, seval]
        exact atJ (wkn Jg1 ⟨congrArg AV.bool (by first | rfl | (rw [hb2]; rfl) | (simp [hb2]; done) | simp_all), trivial⟩)
  · simp only [go_sem, seval]
    refine cnd_s 10000 h (fun hb h => ?_) (fun hb h => ?_)
    · simp only [go_sem, seval]
      refine bsome h fun y4 hy4 h => ?_
      refine rgJ 44 10000 (.inl rfl) (fun w => w [(8, .bool y4)] []) (runX 10000 ?_) (fun Jy4 => ?_)
      · clear hy4
        simp only [go_sem, seval]
        refine ret_s (fun x => .bool x) h ?_
        first | rfl | simp only [go_sem, resAV, resAll, resOne, seval]
      · clear h
        have h := hy4
        simp only [go_sem, seval]
        refine grd_ (fun hb6 => ?_) (fun hb6 => ?_)
        · have h := ite_t hb6 h
          simp only [go_sem, seval]
          refine grd_ (fun hb7 => ?_) (fun hb7 => ?_)
          · have h := ite_t hb7 h
            refine sub_s h fun v9 _ e8 h => ?_
            simp only [go_sem, seval, e8]
            obtain rfl := Option.some.inj h
            exact atJ (wkn (Jy4) ⟨rfl, trivial⟩)
          · have h := ite_f hb7 h
            simp only [go_sem, seval]
            obtain rfl := Option.some.inj h
            exact atJ (wkn (Jy4) ⟨rfl, trivial⟩)
        · have h := ite_f hb6 h
          simp only [go_sem, seval]
          obtain rfl := Option.some.inj h
          exact atJ (wkn (Jy4) ⟨rfl, trivial⟩)
    · simp only [go_sem, seval]
      refine rgJ 44 10000 (.inl rfl) (fun w => w [(8, .bool ((decide (k = 11)) == ((decide (above = 10)) && (decide ((0 : Int) < at_)))))] []) (runX 10000 ?_) (fun Jg10 => ?_)
      · simp only [go_sem, seval]
        refine ret_s (fun x => .bool x) h ?_
        first | rfl | simp only [go_sem, resAV, resAll, resOne, seval]
      · simp only [go_sem, seval]
        refine grd_ (fun hb11 => ?_) (fun hb11 => ?_)
        · simp only [go_sem, seval]
          exact atJ (wkn Jg10 ⟨congrArg AV.bool (by first | rfl | (rw [hb11]; rfl) | (simp [hb11]; done) | simp_all), trivial⟩)
        · simp only [go_sem, seval]
          exact atJ (wkn Jg10 ⟨congrArg AV.bool (by first | rfl | (rw [hb11]; rfl) | (simp [hb11]; done) | simp_all), trivial⟩)
theorem w_ref14_May {m : ref14_Method}   {r : Bool} (h : ref14_May m = some r) : ACall Tryz.prog 9 [enc_ref14_Method m] [] (.bool r) [] := by
  refine acallX 10000 hf9 ok9 (by first | rfl | simp only [go_sem]) meek_bool ?_
  dsimp only [Tryz.f9, nums, Option.getD, List.append]
  unfold ref14_May at h
  simp only [go_sem, seval]
  refine rg_ 10000 (.inr ⟨[], by kernel_rfl, by kernel_rfl, by rfl⟩) ?_
  refine app_s AV.str none ⟨9, 1, false, 16⟩ (fun _ => rfl) (by decide) rfl h fun v3 _ (b1 : appc ⟨9, 1, false, 16⟩ (.sl (some none) []) (.sl none (List.map AV.str m.Args))) (e2 : appv (.sl (some none) []) (.sl none (List.map AV.str m.Args)) = .sl (some none) (List.map AV.str v3)) h => ?_
  refine app_s AV.str none ⟨9, 1, false, 16⟩ (fun _ => rfl) (by decide) rfl h fun v6 _ b4 e5 h => ?_
  simp only [go_sem, seval, b1, e2, b4, e5]
  refine bsome h fun y7 hy7 h => ?_
  refine rgJ 171 10000 (.inl rfl) (fun w => w [(1, .ptr 0 0), (42, .bool y7)] [some [.str m.Sel, .sl none (List.map AV.str m.Args), .sl none (List.map AV.str m.Temps), .sl none (List.map enc_ref14_Node m.Nodes), .sl none (List.map (AV.int .i64) m.Body)]]) (runX 10000 ?_) (fun Jy7 => ?_)
  · clear hy7
    simp only [go_sem, seval]
    refine cnd_s 10000 h (fun hb h => ?_) (fun hb h => ?_)
    · simp only [go_sem, seval]
      refine ret_s (fun x => .bool x) h ?_
      first | rfl | simp only [go_sem, resAV, resAll, resOne, seval]
    · simp only [go_sem, seval]
      refine letK_s h fun K15 hK15 h => ?_
      refine blkJ 171 10000 (fun w => ∀ (v71 : (List Int)), K15 v71 = some r → w [(1, .ptr 0 0), (4, .sl (some none) (List.map (AV.int .i64) v71))] [some [.str m.Sel, .sl none (List.map AV.str m.Args), .sl none (List.map AV.str m.Temps), .sl none (List.map enc_ref14_Node m.Nodes), .sl none (List.map (AV.int .i64) m.Body)]]) (fun v71 h => runX 10000 ?_) (fun JK15 => ?_)
      · subst hK15
        dsimp only at h
        simp only [go_sem, seval]
        refine cnd_s 10000 h (fun hb h => ?_) (fun hb h => ?_)
        · simp only [go_sem, seval]
          refine ret_s (fun x => .bool x) h ?_
          first | rfl | simp only [go_sem, resAV, resAll, resOne, seval]
        · simp only [go_sem, seval]
          refine letK_s h fun K73 hK73 h => ?_
          refine blkJ 171 10000 (fun w => K73 () = some r → w [] [some [.str m.Sel, .sl none (List.map AV.str m.Args), .sl none (List.map AV.str m.Temps), .sl none (List.map enc_ref14_Node m.Nodes), .sl none (List.map (AV.int .i64) m.Body)]]) (fun  h => runX 10000 ?_) (fun JK73 => ?_)
          · subst hK73
            dsimp only at h
            simp only [go_sem, seval]
            refine ret_s (fun x => .bool x) h ?_
            first | rfl | simp only [go_sem, resAV, resAll, resOne, seval]
          · clear hK73
            simp only [go_sem, seval]
            refine lpJ 171 fuel (fun q3 w => ∀ (v74 : Int), ref14_May_l3 m v71 K73 q3 v74 = some r → w [(1, .ptr 0 0), (4, .sl (some none) (List.map (AV.int .i64) v71)), (11, .int .i64 v74)] [some [.str m.Sel, .sl none (List.map AV.str m.Args), .sl none (List.map AV.str m.Temps), .sl none (List.map enc_ref14_Node m.Nodes), .sl none (List.map (AV.int .i64) m.Body)]]) (fun w _ h => nomatch h) (fun q3 ih3 v74 h => ?_) (fun L3 => ?_)
            · unfold ref14_May_l3 at h
              refine runL 10000 ?_
              simp only [go_sem, seval]
              refine cnd_s 10000 h (fun hb h => ?_) (fun hb h => ?_)
              · simp only [go_sem, seval]
                refine blk_ 10000 ?_
                simp only [go_sem, seval]
                refine bsome h fun y75 hy75 h => ?_
                refine rgJ 171 10000 (.inr ⟨[], by kernel_rfl, by kernel_rfl, by rfl⟩) (fun w => w [(1, .ptr 0 0), (4, .sl (some none) (List.map (AV.int .i64) v71)), (11, .int .i64 v74), (170, .bool y75)] [some [.str m.Sel, .sl none (List.map AV.str m.Args), .sl none (List.map AV.str m.Temps), .sl none (List.map enc_ref14_Node m.Nodes), .sl none (List.map (AV.int .i64) m.Body)]]) (runX 10000 ?_) (fun Jy75 => ?_)
                · clear hy75
                  simp only [go_sem, seval]
                  refine cnd_s 10000 h (fun hb h => ?_) (fun hb h => ?_)
                  · simp only [go_sem, seval]
                    refine ret_s (fun x => .bool x) h ?_
                    first | rfl | simp only [go_sem, resAV, resAll, resOne, seval]
                  · refine add_s h fun v91 _ e90 h => ?_
                    simp only [go_sem, seval, e90]
                    exact lp_back (ih3 v91 h) ⟨rfl, rfl, rfl, trivial⟩
                · clear h
                  have h := hy75
                  refine lAt_s (AV.int .i64) none .i64 ⟨3, 1, false, 8⟩ (fun _ => rfl) h fun v79 _ b77 e78 h => ?_
                  refine lAt_s (AV.int .i64) none .i64 ⟨3, 1, false, 8⟩ (fun _ => rfl) h fun v82 _ b80 e81 h => ?_
                  simp only [go_sem, seval, b77, e78, b80, e81]
                  refine grd_ (fun hb83 => ?_) (fun hb83 => ?_)
                  · have h := ite_f hb83 h
                    refine lAt_s enc_ref14_Node none .i64 ⟨45, 5, true, 80⟩ (fun _ => rfl) h fun v88 _ b86 e87 h => ?_
                    refine bsome h fun v89 hv89 h => ?_
                    simp only [go_sem, seval, b80, e81, b86, e87]
                    refine callX_ 10000 (w_ref14_stands  hv89) (by first | rfl | simp only [go_sem]) (by first | rfl | simp only [go_sem]) ?_
                    simp only [go_sem, seval]
                    obtain rfl := Option.some.inj h
                    exact atJ (wkn (Jy75) ⟨rfl, rfl, rfl, rfl, trivial⟩)
                  · have h := ite_t hb83 h
                    simp only [go_sem, seval]
                    obtain rfl := Option.some.inj h
                    exact atJ (wkn (Jy75) ⟨rfl, rfl, rfl, rfl, trivial⟩)
              · simp only [go_sem, seval]
                exact atJ (wkn (JK73  h) trivial)
            · exact lp_back (L3 0 h) ⟨rfl, rfl, rfl, trivial⟩
      · clear hK15
        simp only [go_sem, seval]
        refine lpJ 171 fuel (fun q1 w => ∀ (v16 : (List Int)) (v17 : (List Int)) (v18 : Int), ref14_May_l1 m K15 q1 v16 v17 v18 = some r → w [(1, .ptr 0 0), (4, .sl (some none) (List.map (AV.int .i64) v16)), (5, .sl (some none) (List.map (AV.int .i64) v17)), (6, .int .i64 v18)] [some [.str m.Sel, .sl none (List.map AV.str m.Args), .sl none (List.map AV.str m.Temps), .sl none (List.map enc_ref14_Node m.Nodes), .sl none (List.map (AV.int .i64) m.Body)]]) (fun w _ _ _ h => nomatch h) (fun q1 ih1 v16 v17 v18 h => ?_) (fun L1 => ?_)
        · unfold ref14_May_l1 at h
          refine runL 10000 ?_
          simp only [go_sem, seval]
          refine cnd_s 10000 h (fun hb h => ?_) (fun hb h => ?_)
          · simp only [go_sem, seval]
            refine blk_ 10000 ?_
            refine lAt_s enc_ref14_Node none .i64 ⟨45, 5, true, 80⟩ (fun _ => rfl) h fun v21 _ b19 e20 h => ?_
            simp only [go_sem, seval, b19, e20]
            refine bsome h fun y22 hy22 h => ?_
            refine rgJ 171 10000 (.inl rfl) (fun w => w [(1, .ptr 0 0), (4, .sl (some none) (List.map (AV.int .i64) v16)), (5, .sl (some none) (List.map (AV.int .i64) v17)), (6, .int .i64 v18), (7, .ptr 1 0), (65, .bool y22)] [some [.str m.Sel, .sl none (List.map AV.str m.Args), .sl none (List.map AV.str m.Temps), .sl none (List.map enc_ref14_Node m.Nodes), .sl none (List.map (AV.int .i64) m.Body)], some [.int .u8 v21.K, .str v21.S, .int .i64 v21.N, .sl none (List.map AV.str v21.L), .sl none (List.map (AV.int .i64) v21.Kids)]]) (runX 10000 ?_) (fun Jy22 => ?_)
            · clear hy22
              simp only [go_sem, seval]
              refine cnd_s 10000 h (fun hb h => ?_) (fun hb h => ?_)
              · simp only [go_sem, seval]
                refine ret_s (fun x => .bool x) h ?_
                first | rfl | simp only [go_sem, resAV, resAll, resOne, seval]
              · simp only [go_sem, seval]
                refine letK_s h fun K27 hK27 h => ?_
                refine blkJ 171 10000 (fun w => ∀ (v52 : Int), K27 v52 = some r → w [(1, .ptr 0 0), (4, .sl (some none) (List.map (AV.int .i64) v16)), (5, .sl (some none) (List.map (AV.int .i64) v17)), (6, .int .i64 v18), (7, .ptr 1 0), (8, .int .i64 v52)] [some [.str m.Sel, .sl none (List.map AV.str m.Args), .sl none (List.map AV.str m.Temps), .sl none (List.map enc_ref14_Node m.Nodes), .sl none (List.map (AV.int .i64) m.Body)], some [.int .u8 v21.K, .str v21.S, .int .i64 v21.N, .sl none (List.map AV.str v21.L), .sl none (List.map (AV.int .i64) v21.Kids)]]) (fun v52 h => runX 10000 ?_) (fun JK27 => ?_)
                · subst hK27
                  dsimp only at h
                  simp only [go_sem, seval]
                  refine cnd_s 10000 h (fun hb h => ?_) (fun hb h => ?_)
                  · simp only [go_sem, seval]
                    refine ret_s (fun x => .bool x) h ?_
                    first | rfl | simp only [go_sem, resAV, resAll, resOne, seval]
                  · refine add_s h fun v54 _ e53 h => ?_
                    refine app_s (AV.int .i64) (some none) ⟨3, 1, false, 8⟩ (fun _ => rfl) (by decide) rfl h fun v57 _ (b55 : appc ⟨3, 1, false, 8⟩ (.sl (some none) (List.map (AV.int .i64) v17)) (.sl (some none) [.int .i64 v54])) (e56 : appv (.sl (some none) (List.map (AV.int .i64) v17)) (.sl (some none) [.int .i64 v54]) = .sl (some none) (List.map (AV.int .i64) v57)) h => ?_
                    refine sub_s h fun v59 _ e58 h => ?_
                    refine subL_s (AV.int .i64) none ⟨3, 1, false, 8⟩ (fun _ => rfl) none (some (.int .i64 v59)) rfl rfl h fun v62 _ b60 e61 h => ?_
                    refine app_s (AV.int .i64) none ⟨3, 1, false, 8⟩ (fun _ => rfl) (by decide) rfl h fun v65 _ (b63 : appc ⟨3, 1, false, 8⟩ (.sl (some none) []) (.sl none (List.map (AV.int .i64) v62))) (e64 : appv (.sl (some none) []) (.sl none (List.map (AV.int .i64) v62)) = .sl (some none) (List.map (AV.int .i64) v65)) h => ?_
                    refine app_s (AV.int .i64) (some none) ⟨3, 1, false, 8⟩ (fun _ => rfl) (by decide) rfl h fun v68 _ (b66 : appc ⟨3, 1, false, 8⟩ (.sl (some none) (List.map (AV.int .i64) v65)) (.sl (some none) [.int .i64 v18])) (e67 : appv (.sl (some none) (List.map (AV.int .i64) v65)) (.sl (some none) [.int .i64 v18]) = .sl (some none) (List.map (AV.int .i64) v68)) h => ?_
                    refine add_s h fun v70 _ e69 h => ?_
                    simp only [go_sem, seval, e53, b55, e56, e58, b60, e61, b63, e64, b66, e67, e69]
                    exact lp_backH 1 (ih1 v68 v57 v70 h) ⟨rfl, rfl, rfl, rfl, trivial⟩ rfl rfl rfl (by first | rfl | simp only [go_sem, ltF]) (by first | rfl | simp only [go_sem, allLt])
                · clear hK27
                  simp only [go_sem, seval]
                  refine lpJ 171 fuel (fun q2 w => ∀ (v28 : Int) (v29 : Int), ref14_May_l2 m v16 v17 v21 K27 q2 v28 v29 = some r → w [(1, .ptr 0 0), (4, .sl (some none) (List.map (AV.int .i64) v16)), (5, .sl (some none) (List.map (AV.int .i64) v17)), (6, .int .i64 v18), (7, .ptr 1 0), (8, .int .i64 v28), (9, .int .i64 v29)] [some [.str m.Sel, .sl none (List.map AV.str m.Args), .sl none (List.map AV.str m.Temps), .sl none (List.map enc_ref14_Node m.Nodes), .sl none (List.map (AV.int .i64) m.Body)], some [.int .u8 v21.K, .str v21.S, .int .i64 v21.N, .sl none (List.map AV.str v21.L), .sl none (List.map (AV.int .i64) v21.Kids)]]) (fun w _ _ h => nomatch h) (fun q2 ih2 v28 v29 h => ?_) (fun L2 => ?_)
                  · unfold ref14_May_l2 at h
                    refine runL 10000 ?_
                    simp only [go_sem, seval]
                    refine cnd_s 10000 h (fun hb h => ?_) (fun hb h => ?_)
                    · simp only [go_sem, seval]
                      refine blk_ 10000 ?_
                      refine sub_s h fun v31 _ e30 h => ?_
                      refine add_s h fun v33 _ e32 h => ?_
                      refine lAt_s (AV.int .i64) none .i64 ⟨3, 1, false, 8⟩ (fun _ => rfl) h fun v36 _ b34 e35 h => ?_
                      simp only [go_sem, seval, e30, e32, b34, e35]
                      refine bsome h fun y37 hy37 h => ?_
                      refine rgJ 171 10000 (.inr ⟨[], by kernel_rfl, by kernel_rfl, by rfl⟩) (fun w => w [(1, .ptr 0 0), (4, .sl (some none) (List.map (AV.int .i64) v16)), (5, .sl (some none) (List.map (AV.int .i64) v17)), (6, .int .i64 v18), (7, .ptr 1 0), (8, .int .i64 v28), (9, .int .i64 v29), (10, .int .i64 v36), (106, .bool y37)] [some [.str m.Sel, .sl none (List.map AV.str m.Args), .sl none (List.map AV.str m.Temps), .sl none (List.map enc_ref14_Node m.Nodes), .sl none (List.map (AV.int .i64) m.Body)], some [.int .u8 v21.K, .str v21.S, .int .i64 v21.N, .sl none (List.map AV.str v21.L), .sl none (List.map (AV.int .i64) v21.Kids)]]) (runX 10000 ?_) (fun Jy37 => ?_)
                      · clear hy37
                        simp only [go_sem, seval]
                        refine cnd_s 10000 h (fun hb h => ?_) (fun hb h => ?_)
                        · simp only [go_sem, seval]
                          refine ret_s (fun x => .bool x) h ?_
                          first | rfl | simp only [go_sem, resAV, resAll, resOne, seval]
                        · refine lAt_s (AV.int .i64) none .i64 ⟨3, 1, false, 8⟩ (fun _ => rfl) h fun v49 _ b47 e48 h => ?_
                          refine add_s h fun v51 _ e50 h => ?_
                          simp only [go_sem, seval, b47, e48, (mxv_e .i64 v28 v49), e50]
                          exact lp_back (ih2 (max v28 v49) v51 h) ⟨rfl, rfl, rfl, rfl, rfl, rfl, rfl, trivial⟩
                      · clear h
                        have h := hy37
                        refine lAt_s (AV.int .i64) none .i64 ⟨3, 1, false, 8⟩ (fun _ => rfl) h fun v41 _ b39 e40 h => ?_
                        simp only [go_sem, seval, b39, e40]
                        refine grd_ (fun hb42 => ?_) (fun hb42 => ?_)
                        · have h := ite_f hb42 h
                          refine lAt_s enc_ref14_Node none .i64 ⟨45, 5, true, 80⟩ (fun _ => rfl) h fun v45 _ b43 e44 h => ?_
                          refine bsome h fun v46 hv46 h => ?_
                          simp only [go_sem, seval, b43, e44]
                          refine callX_ 10000 (w_ref14_stands  hv46) (by first | rfl | simp only [go_sem]) (by first | rfl | simp only [go_sem]) ?_
                          simp only [go_sem, seval]
                          obtain rfl := Option.some.inj h
                          exact atJ (wkn (Jy37) ⟨rfl, rfl, rfl, rfl, rfl, rfl, rfl, rfl, rfl, trivial⟩)
                        · have h := ite_t hb42 h
                          simp only [go_sem, seval]
                          obtain rfl := Option.some.inj h
                          exact atJ (wkn (Jy37) ⟨rfl, rfl, rfl, rfl, rfl, rfl, rfl, rfl, rfl, trivial⟩)
                    · simp only [go_sem, seval]
                      exact atJ (wkn (JK27 v28 h) ⟨rfl, rfl, rfl, rfl, rfl, rfl, trivial⟩)
                  · exact lp_back (L2 0 0 h) ⟨rfl, rfl, rfl, rfl, rfl, rfl, rfl, trivial⟩
            · clear h
              have h := hy22
              refine bsome h fun v24 hv24 h => ?_
              simp only [go_sem, seval]
              refine callX_ 10000 (w_ref14_shape  hv24) (by first | rfl | simp only [go_sem]) (by first | rfl | simp only [go_sem]) ?_
              simp only [go_sem, seval]
              refine grd_ (fun hb25 => ?_) (fun hb25 => ?_)
              · have h := ite_f hb25 h
                simp only [go_sem, seval]
                obtain rfl := Option.some.inj h
                exact atJ (wkn (Jy22) ⟨rfl, rfl, rfl, rfl, rfl, rfl, trivial⟩)
              · have h := ite_t hb25 h
                simp only [go_sem, seval]
                obtain rfl := Option.some.inj h
                exact atJ (wkn (Jy22) ⟨rfl, rfl, rfl, rfl, rfl, rfl, trivial⟩)
          · simp only [go_sem, seval]
            exact atJ (wkn (JK15 v16 h) ⟨rfl, rfl, trivial⟩)
        · exact lp_back (L1 [] [] 0 h) ⟨rfl, rfl, rfl, rfl, trivial⟩
  · clear h
    have h := hy7
    refine bsome h fun v9 hv9 h => ?_
    simp only [go_sem, seval]
    refine callX_ 10000 (w_ref14_takes  hv9) (by first | rfl | simp only [go_sem]) (by first | rfl | simp only [go_sem]) ?_
    simp only [go_sem, seval]
    refine grd_ (fun hb10 => ?_) (fun hb10 => ?_)
    · have h := ite_f hb10 h
      refine bsome h fun v11 hv11 h => ?_
      simp only [go_sem, seval]
      refine callX_ 10000 (w_ref14_Vars  hv11) (by first | rfl | simp only [go_sem]) (by first | rfl | simp only [go_sem]) ?_
      simp only [go_sem, seval]
      refine grd_ (fun hb12 => ?_) (fun hb12 => ?_)
      · have h := ite_f hb12 h
        simp only [go_sem, seval]
        refine grd_ (fun hb13 => ?_) (fun hb13 => ?_)
        · have h := ite_f hb13 h
          simp only [go_sem, seval]
          obtain rfl := Option.some.inj h
          exact atJ (wkn (Jy7) ⟨rfl, rfl, trivial⟩)
        · have h := ite_t hb13 h
          simp only [go_sem, seval]
          obtain rfl := Option.some.inj h
          exact atJ (wkn (Jy7) ⟨rfl, rfl, trivial⟩)
      · have h := ite_t hb12 h
        simp only [go_sem, seval]
        obtain rfl := Option.some.inj h
        exact atJ (wkn (Jy7) ⟨rfl, rfl, trivial⟩)
    · have h := ite_t hb10 h
      simp only [go_sem, seval]
      obtain rfl := Option.some.inj h
      exact atJ (wkn (Jy7) ⟨rfl, rfl, trivial⟩)
theorem w_ref14_texts {a : (List Str)} {p1_b : (List Str)}   {r : Bool} (h : ref14_texts a p1_b = some r) : ACall Tryz.prog 33 [.sl none (List.map AV.str a), .sl none (List.map AV.str p1_b)] [] (.bool r) [] := by
  refine acallX 10000 hf33 ok33 (by first | rfl | simp only [go_sem]) meek_bool ?_
  dsimp only [Tryz.f33, nums, Option.getD, List.append]
  unfold ref14_texts at h
  simp only [go_sem, seval]
  refine cnd_s 10000 h (fun hb h => ?_) (fun hb h => ?_)
  · simp only [go_sem, seval]
    refine ret_s (fun x => .bool x) h ?_
    first | rfl | simp only [go_sem, resAV, resAll, resOne, seval]
  · simp only [go_sem, seval]
    refine letK_s h fun K2 hK2 h => ?_
    refine blkJ 26 10000 (fun w => K2 () = some r → w [] []) (fun  h => runX 10000 ?_) (fun JK2 => ?_)
    · subst hK2
      dsimp only at h
      simp only [go_sem, seval]
      refine ret_s (fun x => .bool x) h ?_
      first | rfl | simp only [go_sem, resAV, resAll, resOne, seval]
    · clear hK2
      simp only [go_sem, seval]
      refine lpJ 26 fuel (fun q1 w => ∀ (v3 : Int), ref14_texts_l1 a p1_b K2 q1 v3 = some r → w [(0, .sl none (List.map AV.str a)), (1, .sl none (List.map AV.str p1_b)), (5, .int .i64 v3)] []) (fun w _ h => nomatch h) (fun q1 ih1 v3 h => ?_) (fun L1 => ?_)
      · unfold ref14_texts_l1 at h
        refine runL 10000 ?_
        simp only [go_sem, seval]
        refine cnd_s 10000 h (fun hb h => ?_) (fun hb h => ?_)
        · simp only [go_sem, seval]
          refine blk_ 10000 ?_
          simp only [go_sem, seval]
          refine rg_ 10000 (.inr ⟨[], by kernel_rfl, by kernel_rfl, by rfl⟩) ?_
          refine lAt_s AV.str none .i64 ⟨9, 1, false, 16⟩ (fun _ => rfl) h fun v6 _ b4 e5 h => ?_
          refine lAt_s AV.str none .i64 ⟨9, 1, false, 16⟩ (fun _ => rfl) h fun v9 _ b7 e8 h => ?_
          simp only [go_sem, seval, b4, e5, b7, e8]
          refine cnd_s 10000 h (fun hb h => ?_) (fun hb h => ?_)
          · simp only [go_sem, seval]
            refine ret_s (fun x => .bool x) h ?_
            first | rfl | simp only [go_sem, resAV, resAll, resOne, seval]
          · refine add_s h fun v11 _ e10 h => ?_
            simp only [go_sem, seval, e10]
            exact lp_back (ih1 v11 h) ⟨rfl, rfl, rfl, trivial⟩
        · simp only [go_sem, seval]
          exact atJ (wkn (JK2  h) trivial)
      · exact lp_back (L1 0 h) ⟨rfl, rfl, rfl, trivial⟩
end Go.Cq

