import Derived.Test.YtphdekcijjgbeaaGreatDoorTW1
set_option linter.unusedSectionVars false
set_option linter.unusedVariables false
set_option linter.unusedSimpArgs false
set_option linter.unnecessarySimpa false
set_option maxRecDepth 100000
set_option maxHeartbeats 4000000
namespace Go.Cq
open Go Go.Av Go.Proofs
variable [Lay] [SeatLay]
attribute [local irreducible] hold ex W Wr nd cndV rgO exitO grdO grdV grdG callX alcX stX nckX
theorem w_ref14_ints {a : (List Int)} {p1_b : (List Int)}   {r : Bool} (h : ref14_ints a p1_b = some r) : ACall Tryz.prog 34 [.sl none (List.map (AV.int .i64) a), .sl none (List.map (AV.int .i64) p1_b)] [] (.bool r) [] := by
  refine acallX 10000 hf34 ok34 (by first | rfl | simp only [go_sem]) meek_bool ?_
  dsimp only [Tryz.f34, nums, Option.getD, List.append]
  unfold ref14_ints at h
  simp only [go_sem, seval]
  refine cnd_s 10000 h (fun hb h => ?_) (fun hb h => ?_)
  · simp only [go_sem, seval]
    refine ret_s (fun x => .bool x) h ?_
    first | rfl | simp only [go_sem, resAV, resAll, resOne, seval]
  · simp only [go_sem, seval]
    refine letK_s h fun K2 hK2 h => ?_
    refine blkJ 26 10000 (fun w => K2 () = some r → w [] []) (fun  h => runX 10000 ?_) (fun JK2 => ?_)
    · subst hK2
      dsimp only at h
      simp only [go_sem, seval]
      refine ret_s (fun x => .bool x) h ?_
      first | rfl | simp only [go_sem, resAV, resAll, resOne, seval]
    · clear hK2
      simp only [go_sem, seval]
      refine lpJ 26 fuel (fun q1 w => ∀ (v3 : Int), ref14_ints_l1 a p1_b K2 q1 v3 = some r → w [(0, .sl none (List.map (AV.int .i64) a)), (1, .sl none (List.map (AV.int .i64) p1_b)), (5, .int .i64 v3)] []) (fun w _ h => nomatch h) (fun q1 ih1 v3 h => ?_) (fun L1 => ?_)
      · unfold ref14_ints_l1 at h
        refine runL 10000 ?_
        simp only [go_sem, seval]
        refine cnd_s 10000 h (fun hb h => ?_) (fun hb h => ?_)
        · simp only [go_sem, seval]
          refine blk_ 10000 ?_
          simp only [go_sem, seval]
          refine rg_ 10000 (.inr ⟨[], by kernel_rfl, by kernel_rfl, by rfl⟩) ?_
          refine lAt_s (AV.int .i64) none .i64 ⟨3, 1, false, 8⟩ (fun _ => rfl) h fun v6 _ b4 e5 h => ?_
          refine lAt_s (AV.int .i64) none .i64 ⟨3, 1, false, 8⟩ (fun _ => rfl) h fun v9 _ b7 e8 h => ?_
          simp only [go_sem, seval, b4, e5, b7, e8]
          refine cnd_s 10000 h (fun hb h => ?_) (fun hb h => ?_)
          · simp only [go_sem, seval]
            refine ret_s (fun x => .bool x) h ?_
            first | rfl | simp only [go_sem, resAV, resAll, resOne, seval]
          · refine add_s h fun v11 _ e10 h => ?_
            simp only [go_sem, seval, e10]
            exact lp_back (ih1 v11 h) ⟨rfl, rfl, rfl, trivial⟩
        · simp only [go_sem, seval]
          exact atJ (wkn (JK2  h) trivial)
      · exact lp_back (L1 0 h) ⟨rfl, rfl, rfl, trivial⟩
theorem w_ref14_Same {a : ref14_Method} {p1_b : ref14_Method}   {r : Bool} (h : ref14_Same a p1_b = some r) : ACall Tryz.prog 12 [enc_ref14_Method a, enc_ref14_Method p1_b] [] (.bool r) [] := by
  refine acallX 10000 hf12 ok12 (by first | rfl | simp only [go_sem]) meek_bool ?_
  dsimp only [Tryz.f12, nums, Option.getD, List.append]
  unfold ref14_Same at h
  simp only [go_sem, seval]
  refine bsome h fun y1 hy1 h => ?_
  refine rgJ 98 10000 (.inl rfl) (fun w => w [(2, .ptr 0 0), (3, .ptr 1 0), (45, .bool y1)] [some [.str a.Sel, .sl none (List.map AV.str a.Args), .sl none (List.map AV.str a.Temps), .sl none (List.map enc_ref14_Node a.Nodes), .sl none (List.map (AV.int .i64) a.Body)], some [.str p1_b.Sel, .sl none (List.map AV.str p1_b.Args), .sl none (List.map AV.str p1_b.Temps), .sl none (List.map enc_ref14_Node p1_b.Nodes), .sl none (List.map (AV.int .i64) p1_b.Body)]]) (runX 10000 ?_) (fun Jy1 => ?_)
  · clear hy1
    simp only [go_sem, seval]
    refine cnd_s 10000 h (fun hb h => ?_) (fun hb h => ?_)
    · simp only [go_sem, seval]
      refine ret_s (fun x => .bool x) h ?_
      first | rfl | simp only [go_sem, resAV, resAll, resOne, seval]
    · simp only [go_sem, seval]
      refine letK_s h fun K11 hK11 h => ?_
      refine blkJ 98 10000 (fun w => K11 () = some r → w [] [some [.str a.Sel, .sl none (List.map AV.str a.Args), .sl none (List.map AV.str a.Temps), .sl none (List.map enc_ref14_Node a.Nodes), .sl none (List.map (AV.int .i64) a.Body)], some [.str p1_b.Sel, .sl none (List.map AV.str p1_b.Args), .sl none (List.map AV.str p1_b.Temps), .sl none (List.map enc_ref14_Node p1_b.Nodes), .sl none (List.map (AV.int .i64) p1_b.Body)]]) (fun  h => runX 10000 ?_) (fun JK11 => ?_)
      · subst hK11
        dsimp only at h
        simp only [go_sem, seval]
        refine ret_s (fun x => .bool x) h ?_
        first | rfl | simp only [go_sem, resAV, resAll, resOne, seval]
      · clear hK11
        simp only [go_sem, seval]
        refine lpJ 98 fuel (fun q1 w => ∀ (v12 : Int), ref14_Same_l1 a p1_b K11 q1 v12 = some r → w [(2, .ptr 0 0), (3, .ptr 1 0), (5, .int .i64 v12)] [some [.str a.Sel, .sl none (List.map AV.str a.Args), .sl none (List.map AV.str a.Temps), .sl none (List.map enc_ref14_Node a.Nodes), .sl none (List.map (AV.int .i64) a.Body)], some [.str p1_b.Sel, .sl none (List.map AV.str p1_b.Args), .sl none (List.map AV.str p1_b.Temps), .sl none (List.map enc_ref14_Node p1_b.Nodes), .sl none (List.map (AV.int .i64) p1_b.Body)]]) (fun w _ h => nomatch h) (fun q1 ih1 v12 h => ?_) (fun L1 => ?_)
        · unfold ref14_Same_l1 at h
          refine runL 10000 ?_
          simp only [go_sem, seval]
          refine cnd_s 10000 h (fun hb h => ?_) (fun hb h => ?_)
          · simp only [go_sem, seval]
            refine blk_ 10000 ?_
            simp only [go_sem, seval]
            refine bsome h fun y13 hy13 h => ?_
            refine rgJ2 98 10000 10 2 [(2, 0), (3, 1), (6, 2), (7, 3), (53, 0), (58, 1), (54, 1000003), (56, 1000003), (59, 1000003), (61, 1000003), (2000000, 1000003), (2000001, 1000003)] [(2, 0), (3, 1), (6, 3), (7, 2), (53, 0), (58, 1), (54, 1000003), (56, 1000003), (59, 1000003), (61, 1000003), (2000000, 1000003), (2000001, 1000003)] (by kernel_rfl) (by rfl) (by kernel_rfl) (by kernel_rfl) (by rfl) (by rfl) (fun w => w [(2, .ptr 0 0), (3, .ptr 1 0), (5, .int .i64 v12), (6, .ptr 2 0), (7, .ptr 3 0)] [some [.str a.Sel, .sl none (List.map AV.str a.Args), .sl none (List.map AV.str a.Temps), .sl none (List.map enc_ref14_Node a.Nodes), .sl none (List.map (AV.int .i64) a.Body)], some [.str p1_b.Sel, .sl none (List.map AV.str p1_b.Args), .sl none (List.map AV.str p1_b.Temps), .sl none (List.map enc_ref14_Node p1_b.Nodes), .sl none (List.map (AV.int .i64) p1_b.Body)], some [.int .u8 y13.1.K, .str y13.1.S, .int .i64 y13.1.N, .sl none (List.map AV.str y13.1.L), .sl none (List.map (AV.int .i64) y13.1.Kids)], some [.int .u8 y13.2.K, .str y13.2.S, .int .i64 y13.2.N, .sl none (List.map AV.str y13.2.L), .sl none (List.map (AV.int .i64) y13.2.Kids)]]) (runX 10000 ?_) (fun Jy13 => ?_) (fun Jy13 => ?_)
            · clear hy13
              simp only [go_sem, seval]
              refine bsome h fun y21 hy21 h => ?_
              refine rgJ 98 10000 (.inl rfl) (fun w => w [(2, .ptr 0 0), (3, .ptr 1 0), (5, .int .i64 v12), (97, .bool y21)] [some [.str a.Sel, .sl none (List.map AV.str a.Args), .sl none (List.map AV.str a.Temps), .sl none (List.map enc_ref14_Node a.Nodes), .sl none (List.map (AV.int .i64) a.Body)], some [.str p1_b.Sel, .sl none (List.map AV.str p1_b.Args), .sl none (List.map AV.str p1_b.Temps), .sl none (List.map enc_ref14_Node p1_b.Nodes), .sl none (List.map (AV.int .i64) p1_b.Body)], some [.int .u8 y13.1.K, .str y13.1.S, .int .i64 y13.1.N, .sl none (List.map AV.str y13.1.L), .sl none (List.map (AV.int .i64) y13.1.Kids)], some [.int .u8 y13.2.K, .str y13.2.S, .int .i64 y13.2.N, .sl none (List.map AV.str y13.2.L), .sl none (List.map (AV.int .i64) y13.2.Kids)]]) (runX 10000 ?_) (fun Jy21 => ?_)
              · clear hy21
                simp only [go_sem, seval]
                refine cnd_s 10000 h (fun hb h => ?_) (fun hb h => ?_)
                · simp only [go_sem, seval]
                  refine ret_s (fun x => .bool x) h ?_
                  first | rfl | simp only [go_sem, resAV, resAll, resOne, seval]
                · refine add_s h fun v30 _ e29 h => ?_
                  simp only [go_sem, seval, e29]
                  exact lp_backH 2 (ih1 v30 h) ⟨rfl, rfl, rfl, trivial⟩ rfl rfl rfl (by first | rfl | simp only [go_sem, ltF]) (by first | rfl | simp only [go_sem, allLt])
              · clear h
                have h := hy21
                simp only [go_sem, seval]
                refine grd_ (fun hb23 => ?_) (fun hb23 => ?_)
                · have h := ite_f hb23 h
                  simp only [go_sem, seval]
                  refine grd_ (fun hb24 => ?_) (fun hb24 => ?_)
                  · have h := ite_f hb24 h
                    simp only [go_sem, seval]
                    refine grd_ (fun hb25 => ?_) (fun hb25 => ?_)
                    · have h := ite_f hb25 h
                      refine bsome h fun v26 hv26 h => ?_
                      simp only [go_sem, seval]
                      refine callX_ 10000 (w_ref14_texts  hv26) (by first | rfl | simp only [go_sem]) (by first | rfl | simp only [go_sem]) ?_
                      simp only [go_sem, seval]
                      refine grd_ (fun hb27 => ?_) (fun hb27 => ?_)
                      · have h := ite_f hb27 h
                        refine bsome h fun v28 hv28 h => ?_
                        simp only [go_sem, seval]
                        refine callX_ 10000 (w_ref14_ints  hv28) (by first | rfl | simp only [go_sem]) (by first | rfl | simp only [go_sem]) ?_
                        simp only [go_sem, seval]
                        obtain rfl := Option.some.inj h
                        exact atJ (wkn (Jy21) ⟨rfl, rfl, rfl, rfl, trivial⟩)
                      · have h := ite_t hb27 h
                        simp only [go_sem, seval]
                        obtain rfl := Option.some.inj h
                        exact atJ (wkn (Jy21) ⟨rfl, rfl, rfl, rfl, trivial⟩)
                    · have h := ite_t hb25 h
                      simp only [go_sem, seval]
                      obtain rfl := Option.some.inj h
                      exact atJ (wkn (Jy21) ⟨rfl, rfl, rfl, rfl, trivial⟩)
                  · have h := ite_t hb24 h
                    simp only [go_sem, seval]
                    obtain rfl := Option.some.inj h
                    exact atJ (wkn (Jy21) ⟨rfl, rfl, rfl, rfl, trivial⟩)
                · have h := ite_t hb23 h
                  simp only [go_sem, seval]
                  obtain rfl := Option.some.inj h
                  exact atJ (wkn (Jy21) ⟨rfl, rfl, rfl, rfl, trivial⟩)
            · clear h
              have h := hy13
              refine lAt_s enc_ref14_Node none .i64 ⟨45, 5, true, 80⟩ (fun _ => rfl) h fun v17 _ b15 e16 h => ?_
              refine lAt_s enc_ref14_Node none .i64 ⟨45, 5, true, 80⟩ (fun _ => rfl) h fun v20 _ b18 e19 h => ?_
              simp only [go_sem, seval, b15, e16, b18, e19]
              obtain rfl := Option.some.inj h
              exact atJ (wkn (Jy13) ⟨rfl, rfl, rfl, rfl, rfl, trivial⟩)
            · clear h
              have h := hy13
              simp only [swAt]
              refine lAt_s enc_ref14_Node none .i64 ⟨45, 5, true, 80⟩ (fun _ => rfl) h fun v17 _ b15 e16 h => ?_
              refine lAt_s enc_ref14_Node none .i64 ⟨45, 5, true, 80⟩ (fun _ => rfl) h fun v20 _ b18 e19 h => ?_
              simp only [go_sem, seval, b15, e16, b18, e19]
              obtain rfl := Option.some.inj h
              exact atJ (swJ 2 3 Jy13 ⟨rfl, rfl, rfl, rfl, rfl, trivial⟩ rfl rfl rfl rfl rfl)
          · simp only [go_sem, seval]
            exact atJ (wkn (JK11  h) trivial)
        · exact lp_back (L1 0 h) ⟨rfl, rfl, rfl, trivial⟩
  · clear h
    have h := hy1
    simp only [go_sem, seval]
    refine grd_ (fun hb3 => ?_) (fun hb3 => ?_)
    · have h := ite_f hb3 h
      refine bsome h fun v4 hv4 h => ?_
      simp only [go_sem, seval]
      refine callX_ 10000 (w_ref14_texts  hv4) (by first | rfl | simp only [go_sem]) (by first | rfl | simp only [go_sem]) ?_
      simp only [go_sem, seval]
      refine grd_ (fun hb5 => ?_) (fun hb5 => ?_)
      · have h := ite_f hb5 h
        refine bsome h fun v6 hv6 h => ?_
        simp only [go_sem, seval]
        refine callX_ 10000 (w_ref14_texts  hv6) (by first | rfl | simp only [go_sem]) (by first | rfl | simp only [go_sem]) ?_
        simp only [go_sem, seval]
        refine grd_ (fun hb7 => ?_) (fun hb7 => ?_)
        · have h := ite_f hb7 h
          refine bsome h fun v8 hv8 h => ?_
          simp only [go_sem, seval]
          refine callX_ 10000 (w_ref14_ints  hv8) (by first | rfl | simp only [go_sem]) (by first | rfl | simp only [go_sem]) ?_
          simp only [go_sem, seval]
          refine grd_ (fun hb9 => ?_) (fun hb9 => ?_)
          · have h := ite_f hb9 h
            simp only [go_sem, seval]
            obtain rfl := Option.some.inj h
            exact atJ (wkn (Jy1) ⟨rfl, rfl, rfl, trivial⟩)
          · have h := ite_t hb9 h
            simp only [go_sem, seval]
            obtain rfl := Option.some.inj h
            exact atJ (wkn (Jy1) ⟨rfl, rfl, rfl, trivial⟩)
        · have h := ite_t hb7 h
          simp only [go_sem, seval]
          obtain rfl := Option.some.inj h
          exact atJ (wkn (Jy1) ⟨rfl, rfl, rfl, trivial⟩)
      · have h := ite_t hb5 h
        simp only [go_sem, seval]
        obtain rfl := Option.some.inj h
        exact atJ (wkn (Jy1) ⟨rfl, rfl, rfl, trivial⟩)
    · have h := ite_t hb3 h
      simp only [go_sem, seval]
      obtain rfl := Option.some.inj h
      exact atJ (wkn (Jy1) ⟨rfl, rfl, rfl, trivial⟩)
theorem w_ref14_Above {m : ref14_Method}   {r : (List Int)} (h : ref14_Above m = some r) : ACall Tryz.prog 37 [enc_ref14_Method m] [] (.sl none (List.map (AV.int .i64) r)) [] := by
  refine acallX 10000 hf37 ok37 (by first | rfl | simp only [go_sem]) meek_sl ?_
  dsimp only [Tryz.f37, nums, Option.getD, List.append]
  unfold ref14_Above at h
  simp only [go_sem, seval]
  refine mkL_s h fun v2 e1 h => ?_
  refine makeB_ 10000 (AV.int .i64) (0 : Int) false el24 rfl ze3 (plain_int _) rfl rfl (by first | rfl | simp only [go_sem]) (by first | rfl | simp only [go_sem]) e1 1 rfl rfl ?_
  simp only [go_sem, seval]
  refine bsome h fun y3 hy3 h => ?_
  refine blkJ 52 10000 (fun w => w [(1, .ptr 0 0), (3, .rs 1 0 y3.length 1 false false)] [some [.str m.Sel, .sl none (List.map AV.str m.Args), .sl none (List.map AV.str m.Temps), .sl none (List.map enc_ref14_Node m.Nodes), .sl none (List.map (AV.int .i64) m.Body)], some (List.map (AV.int .i64) y3)]) (runX 10000 ?_) (fun Jy3 => ?_)
  · clear hy3
    simp only [go_sem, seval]
    refine bsome h fun y32 hy32 h => ?_
    refine blkJ 52 10000 (fun w => w [(3, .rs 1 0 y32.length 1 false false)] [some [.str m.Sel, .sl none (List.map AV.str m.Args), .sl none (List.map AV.str m.Temps), .sl none (List.map enc_ref14_Node m.Nodes), .sl none (List.map (AV.int .i64) m.Body)], some (List.map (AV.int .i64) y32)]) (runX 10000 ?_) (fun Jy32 => ?_)
    · clear hy32
      simp only [go_sem, seval]
      refine mvF_ 10000 (AV.int .i64) plain_int (v := y32) rfl rfl (by first | rfl | simp only [go_sem]) (by first | rfl | simp only [go_sem]) (by first | rfl | simp only [go_sem]) rfl rfl ?_
      simp only [go_sem, seval]
      refine ret_s (fun x => .sl none (List.map (AV.int .i64) x)) h ?_
      first | rfl | simp only [go_sem, resAV, resAll, resOne, seval]
    · clear h
      have h := hy32
      simp only [go_sem, seval]
      refine lpJ 52 fuel (fun q2 w => ∀ (v82 : Int) (v83 : (List Int)), ref14_Above_l2 m q2 v82 v83 = some y32 → w [(1, .ptr 0 0), (3, .rs 1 0 v83.length 1 false false), (5, .int .i64 v82)] [some [.str m.Sel, .sl none (List.map AV.str m.Args), .sl none (List.map AV.str m.Temps), .sl none (List.map enc_ref14_Node m.Nodes), .sl none (List.map (AV.int .i64) m.Body)], some (List.map (AV.int .i64) v83)]) (fun w _ _ h => nomatch h) (fun q2 ih2 v82 v83 h => ?_) (fun L2 => ?_)
      · unfold ref14_Above_l2 at h
        refine runL 10000 ?_
        simp only [go_sem, seval]
        refine cnd_s 10000 h (fun hb h => ?_) (fun hb h => ?_)
        · simp only [go_sem, seval]
          refine blk_ 10000 ?_
          simp only [go_sem, seval]
          refine bsome h fun y84 hy84 h => ?_
          refine blkJ 52 10000 (fun w => w [(1, .ptr 0 0), (3, .rs 1 0 y84.length 1 false false), (5, .int .i64 v82)] [some [.str m.Sel, .sl none (List.map AV.str m.Args), .sl none (List.map AV.str m.Temps), .sl none (List.map enc_ref14_Node m.Nodes), .sl none (List.map (AV.int .i64) m.Body)], some (List.map (AV.int .i64) y84)]) (runX 10000 ?_) (fun Jy84 => ?_)
          · clear hy84
            refine add_s h fun v130 _ e129 h => ?_
            simp only [go_sem, seval, e129]
            exact lp_back (ih2 v130 y84 h) ⟨rfl, rfl, rfl, trivial⟩
          · clear h
            have h := hy84
            simp only [go_sem, seval]
            refine lpJ 52 fuel (fun q4 w => ∀ (v107 : Int) (v108 : (List Int)), ref14_Above_l4 m v82 q4 v107 v108 = some y84 → w [(1, .ptr 0 0), (3, .rs 1 0 v108.length 1 false false), (5, .int .i64 v82), (6, .int .i64 v107)] [some [.str m.Sel, .sl none (List.map AV.str m.Args), .sl none (List.map AV.str m.Temps), .sl none (List.map enc_ref14_Node m.Nodes), .sl none (List.map (AV.int .i64) m.Body)], some (List.map (AV.int .i64) v108)]) (fun w _ _ h => nomatch h) (fun q4 ih4 v107 v108 h => ?_) (fun L4 => ?_)
            · unfold ref14_Above_l4 at h
              refine runL 10000 ?_
              refine lAt_s enc_ref14_Node none .i64 ⟨45, 5, true, 80⟩ (fun _ => rfl) h fun v111 _ b109 e110 h => ?_
              simp only [go_sem, seval, b109, e110]
              refine cnd_s 10000 h (fun hb h => ?_) (fun hb h => ?_)
              · simp only [go_sem, seval]
                refine blk_ 10000 ?_
                refine lAt_s (AV.int .i64) none .i64 ⟨3, 1, false, 8⟩ (fun _ => rfl) h fun v116 _ b114 e115 h => ?_
                refine bAt_s (AV.int .i64) .i64 ⟨3, 1, false, 8⟩ rfl 1 false false rfl h fun v123 _ e117 e118 e119 e120 e121 e122 h => ?_
                refine stB_s h fun v126 e124 e125 h => ?_
                refine add_s h fun v128 _ e127 h => ?_
                simp only [go_sem, seval, b109, e110, b114, e115, e117, e118, e119, e120, e121, e122, e124, e127]
                exact lp_back (ih4 v128 v126 h) ⟨rfl, congrArg (fun n => AV.rs 1 0 n 1 false false) e125.symm, rfl, rfl, trivial⟩
              · simp only [go_sem, seval]
                obtain rfl := Option.some.inj h
                exact atJ (wkn (Jy84) ⟨rfl, rfl, rfl, trivial⟩)
            · exact lp_back (L4 0 v83 h) ⟨rfl, rfl, rfl, rfl, trivial⟩
        · simp only [go_sem, seval]
          obtain rfl := Option.some.inj h
          exact atJ (wkn (Jy32) ⟨rfl, trivial⟩)
      · exact lp_back (L2 0 y3 h) ⟨rfl, rfl, rfl, trivial⟩
  · clear h
    have h := hy3
    simp only [go_sem, seval]
    refine lpJ 52 fuel (fun q1 w => ∀ (v18 : Int) (v19 : (List Int)), ref14_Above_l1 m q1 v18 v19 = some y3 → w [(1, .ptr 0 0), (3, .rs 1 0 v19.length 1 false false), (4, .int .i64 v18)] [some [.str m.Sel, .sl none (List.map AV.str m.Args), .sl none (List.map AV.str m.Temps), .sl none (List.map enc_ref14_Node m.Nodes), .sl none (List.map (AV.int .i64) m.Body)], some (List.map (AV.int .i64) v19)]) (fun w _ _ h => nomatch h) (fun q1 ih1 v18 v19 h => ?_) (fun L1 => ?_)
    · unfold ref14_Above_l1 at h
      refine runL 10000 ?_
      simp only [go_sem, seval]
      refine cnd_s 10000 h (fun hb h => ?_) (fun hb h => ?_)
      · simp only [go_sem, seval]
        refine blk_ 10000 ?_
        refine bAt_s (AV.int .i64) .i64 ⟨3, 1, false, 8⟩ rfl 1 false false rfl h fun v26 _ e20 e21 e22 e23 e24 e25 h => ?_
        refine stB_s h fun v29 e27 e28 h => ?_
        refine add_s h fun v31 _ e30 h => ?_
        simp only [go_sem, seval, e20, e21, e22, e23, e24, e25, e27, e30]
        exact lp_back (ih1 v31 v29 h) ⟨rfl, congrArg (fun n => AV.rs 1 0 n 1 false false) e28.symm, rfl, trivial⟩
      · simp only [go_sem, seval]
        obtain rfl := Option.some.inj h
        exact atJ (wkn (Jy3) ⟨rfl, rfl, trivial⟩)
    · exact lp_back (L1 0 v2 h) ⟨rfl, rfl, rfl, trivial⟩
theorem w_ref14_In {l : (List Str)} {s : Str}   {r : Bool} (h : ref14_In l s = some r) : ACall Tryz.prog 38 [.sl none (List.map AV.str l), .str s] [] (.bool r) [] := by
  refine acallX 10000 hf38 ok38 (by first | rfl | simp only [go_sem]) meek_bool ?_
  dsimp only [Tryz.f38, nums, Option.getD, List.append]
  unfold ref14_In at h
  simp only [go_sem, seval]
  refine letK_s h fun K2 hK2 h => ?_
  refine blkJ 18 10000 (fun w => K2 () = some r → w [] []) (fun  h => runX 10000 ?_) (fun JK2 => ?_)
  · subst hK2
    dsimp only at h
    simp only [go_sem, seval]
    refine ret_s (fun x => .bool x) h ?_
    first | rfl | simp only [go_sem, resAV, resAll, resOne, seval]
  · clear hK2
    simp only [go_sem, seval]
    refine lpJ 18 fuel (fun q1 w => ∀ (v3 : Int), ref14_In_l1 l s K2 q1 v3 = some r → w [(0, .sl none (List.map AV.str l)), (1, .str s), (5, .int .i64 v3)] []) (fun w _ h => nomatch h) (fun q1 ih1 v3 h => ?_) (fun L1 => ?_)
    · unfold ref14_In_l1 at h
      refine runL 10000 ?_
      simp only [go_sem, seval]
      refine cnd_s 10000 h (fun hb h => ?_) (fun hb h => ?_)
      · simp only [go_sem, seval]
        refine blk_ 10000 ?_
        refine lAt_s AV.str none .i64 ⟨9, 1, false, 16⟩ (fun _ => rfl) h fun v6 _ b4 e5 h => ?_
        simp only [go_sem, seval, b4, e5]
        refine cnd_s 10000 h (fun hb h => ?_) (fun hb h => ?_)
        · simp only [go_sem, seval]
          refine ret_s (fun x => .bool x) h ?_
          first | rfl | simp only [go_sem, resAV, resAll, resOne, seval]
        · refine add_s h fun v8 _ e7 h => ?_
          simp only [go_sem, seval, e7]
          exact lp_back (ih1 v8 h) ⟨rfl, rfl, rfl, trivial⟩
      · simp only [go_sem, seval]
        exact atJ (wkn (JK2  h) trivial)
    · exact lp_back (L1 0 h) ⟨rfl, rfl, rfl, trivial⟩
theorem w_ref14_Insert {l : (List Str)} {s : Str}   {r : (List Str)} (h : ref14_Insert l s = some r) : ACall Tryz.prog 39 [.sl none (List.map AV.str l), .str s] [] (.sl none (List.map AV.str r)) [] := by
  refine acallX 10000 hf39 ok39 (by first | rfl | simp only [go_sem]) meek_sl ?_
  dsimp only [Tryz.f39, nums, Option.getD, List.append]
  unfold ref14_Insert at h
  refine bsome h fun v1 hv1 h => ?_
  simp only [go_sem, seval]
  refine callX_ 10000 (w_ref14_In  hv1) (by first | rfl | simp only [go_sem]) (by first | rfl | simp only [go_sem]) ?_
  simp only [go_sem, seval]
  refine bsome h fun y2 hy2 h => ?_
  refine blkJ 45 10000 (fun w => w [(1, .str s), (5, .sl (some none) (List.map AV.str y2.1)), (6, .bool y2.2)] []) (runX 10000 ?_) (fun Jy2 => ?_)
  · clear hy2
    simp only [go_sem, seval]
    refine bsome h fun y26 hy26 h => ?_
    refine cndJ 45 10000 (fun w => w [(5, .sl (some none) (List.map AV.str y26))] []) (runX 10000 ?_) (fun Jy26 => ?_)
    · clear hy26
      simp only [go_sem, seval]
      refine ret_s (fun x => .sl none (List.map AV.str x)) h ?_
      first | rfl | simp only [go_sem, resAV, resAll, resOne, seval]
    · clear h
      have h := hy26
      refine cnd_s 10000 h (fun hb h => ?_) (fun hb h => ?_)
      · refine app_s AV.str (some none) ⟨9, 1, false, 16⟩ (fun _ => rfl) (by decide) rfl h fun v30 _ (b28 : appc ⟨9, 1, false, 16⟩ (.sl (some none) (List.map AV.str y2.1)) (.sl (some none) [.str s])) (e29 : appv (.sl (some none) (List.map AV.str y2.1)) (.sl (some none) [.str s]) = .sl (some none) (List.map AV.str v30)) h => ?_
        simp only [go_sem, seval, b28, e29]
        obtain rfl := Option.some.inj h
        exact atJ (wkn (Jy26) ⟨rfl, trivial⟩)
      · simp only [go_sem, seval]
        obtain rfl := Option.some.inj h
        exact atJ (wkn (Jy26) ⟨rfl, trivial⟩)
  · clear h
    have h := hy2
    simp only [go_sem, seval]
    refine lpJ 45 fuel (fun q1 w => ∀ (v4 : (List Str)) (v5 : Bool) (v6 : Int), ref14_Insert_l1 l s q1 v4 v5 v6 = some y2 → w [(0, .sl none (List.map AV.str l)), (1, .str s), (5, .sl (some none) (List.map AV.str v4)), (6, .bool v5), (7, .int .i64 v6)] []) (fun w _ _ _ h => nomatch h) (fun q1 ih1 v4 v5 v6 h => ?_) (fun L1 => ?_)
    · unfold ref14_Insert_l1 at h
      refine runL 10000 ?_
      simp only [go_sem, seval]
      refine cnd_s 10000 h (fun hb h => ?_) (fun hb h => ?_)
      · simp only [go_sem, seval]
        refine blk_ 10000 ?_
        simp only [go_sem, seval]
        refine bsome h fun y7 hy7 h => ?_
        refine rgJ 45 10000 (.inl rfl) (fun w => w [(0, .sl none (List.map AV.str l)), (1, .str s), (5, .sl (some none) (List.map AV.str v4)), (6, .bool v5), (7, .int .i64 v6), (26, .bool y7)] []) (runX 10000 ?_) (fun Jy7 => ?_)
        · clear hy7
          simp only [go_sem, seval]
          refine bsome h fun y13 hy13 h => ?_
          refine cndJ 45 10000 (fun w => w [(0, .sl none (List.map AV.str l)), (1, .str s), (5, .sl (some none) (List.map AV.str y13.1)), (6, .bool y13.2), (7, .int .i64 v6)] []) (runX 10000 ?_) (fun Jy13 => ?_)
          · clear hy13
            refine lAt_s AV.str none .i64 ⟨9, 1, false, 16⟩ (fun _ => rfl) h fun v20 _ b18 e19 h => ?_
            refine app_s AV.str (some none) ⟨9, 1, false, 16⟩ (fun _ => rfl) (by decide) rfl h fun v23 _ (b21 : appc ⟨9, 1, false, 16⟩ (.sl (some none) (List.map AV.str y13.1)) (.sl (some none) [.str v20])) (e22 : appv (.sl (some none) (List.map AV.str y13.1)) (.sl (some none) [.str v20]) = .sl (some none) (List.map AV.str v23)) h => ?_
            refine add_s h fun v25 _ e24 h => ?_
            simp only [go_sem, seval, b18, e19, b21, e22, e24]
            exact lp_back (ih1 v23 y13.2 v25 h) ⟨rfl, rfl, rfl, rfl, rfl, trivial⟩
          · clear h
            have h := hy13
            refine cnd_s 10000 h (fun hb h => ?_) (fun hb h => ?_)
            · refine app_s AV.str (some none) ⟨9, 1, false, 16⟩ (fun _ => rfl) (by decide) rfl h fun v17 _ (b15 : appc ⟨9, 1, false, 16⟩ (.sl (some none) (List.map AV.str v4)) (.sl (some none) [.str s])) (e16 : appv (.sl (some none) (List.map AV.str v4)) (.sl (some none) [.str s]) = .sl (some none) (List.map AV.str v17)) h => ?_
              simp only [go_sem, seval, b15, e16]
              obtain rfl := Option.some.inj h
              exact atJ (wkn (Jy13) ⟨rfl, rfl, rfl, rfl, rfl, trivial⟩)
            · simp only [go_sem, seval]
              obtain rfl := Option.some.inj h
              exact atJ (wkn (Jy13) ⟨rfl, rfl, rfl, rfl, rfl, trivial⟩)
        · clear h
          have h := hy7
          simp only [go_sem, seval]
          refine grd_ (fun hb9 => ?_) (fun hb9 => ?_)
          · have h := ite_t hb9 h
            refine lAt_s AV.str none .i64 ⟨9, 1, false, 16⟩ (fun _ => rfl) h fun v12 _ b10 e11 h => ?_
            simp only [go_sem, seval, b10, e11]
            obtain rfl := Option.some.inj h
            exact atJ (wkn (Jy7) ⟨rfl, rfl, rfl, rfl, rfl, rfl, trivial⟩)
          · have h := ite_f hb9 h
            simp only [go_sem, seval]
            obtain rfl := Option.some.inj h
            exact atJ (wkn (Jy7) ⟨rfl, rfl, rfl, rfl, rfl, rfl, trivial⟩)
      · simp only [go_sem, seval]
        obtain rfl := Option.some.inj h
        exact atJ (wkn (Jy2) ⟨rfl, rfl, rfl, trivial⟩)
    · exact lp_back (L1 [] v1 0 h) ⟨rfl, rfl, rfl, rfl, rfl, trivial⟩
theorem w_ref14_Free {m : ref14_Method}   {r : (List Str)} (h : ref14_Free m = some r) : ACall Tryz.prog 15 [enc_ref14_Method m] [] (.sl none (List.map AV.str r)) [] := by
  refine acallX 10000 hf15 ok15 (by first | rfl | simp only [go_sem]) meek_sl ?_
  dsimp only [Tryz.f15, nums, Option.getD, List.append]
  unfold ref14_Free at h
  refine bsome h fun v1 hv1 h => ?_
  simp only [go_sem, seval]
  refine callX_ 10000 (w_ref14_May  hv1) (by first | rfl | simp only [go_sem]) (by first | rfl | simp only [go_sem]) ?_
  simp only [go_sem, seval]
  refine cnd_s 10000 h (fun hb h => ?_) (fun hb h => ?_)
  · simp only [go_sem, seval]
    refine ret_s (fun x => .sl none (List.map AV.str x)) h ?_
    first | rfl | simp only [go_sem, resAV, resAll, resOne, seval]
  · refine bsome h fun v2 hv2 h => ?_
    simp only [go_sem, seval]
    refine callX_ 10000 (w_ref14_Above  hv2) (by first | rfl | simp only [go_sem]) (by first | rfl | simp only [go_sem]) ?_
    simp only [go_sem, seval]
    refine bsome h fun y3 hy3 h => ?_
    refine blkJ 81 10000 (fun w => w [(3, .sl none (List.map AV.str y3))] [some [.str m.Sel, .sl none (List.map AV.str m.Args), .sl none (List.map AV.str m.Temps), .sl none (List.map enc_ref14_Node m.Nodes), .sl none (List.map (AV.int .i64) m.Body)]]) (runX 10000 ?_) (fun Jy3 => ?_)
    · clear hy3
      simp only [go_sem, seval]
      refine ret_s (fun x => .sl none (List.map AV.str x)) h ?_
      first | rfl | simp only [go_sem, resAV, resAll, resOne, seval]
    · clear h
      have h := hy3
      simp only [go_sem, seval]
      refine unown_lp 3 (by first | rfl | simp only [go_sem]) ?_
      refine lpJ 81 fuel (fun q1 w => ∀ (v47 : (List Str)) (v48 : Int), ref14_Free_l1 m v2 q1 v47 v48 = some y3 → w [(1, .ptr 0 0), (3, .sl none (List.map AV.str v47)), (4, .sl none (List.map (AV.int .i64) v2)), (5, .int .i64 v48)] [some [.str m.Sel, .sl none (List.map AV.str m.Args), .sl none (List.map AV.str m.Temps), .sl none (List.map enc_ref14_Node m.Nodes), .sl none (List.map (AV.int .i64) m.Body)]]) (fun w _ _ h => nomatch h) (fun q1 ih1 v47 v48 h => ?_) (fun L1 => ?_)
      · unfold ref14_Free_l1 at h
        refine runL 10000 ?_
        simp only [go_sem, seval]
        refine cnd_s 10000 h (fun hb h => ?_) (fun hb h => ?_)
        · simp only [go_sem, seval]
          refine bsome h fun y49 hy49 h => ?_
          refine blkJ 81 10000 (fun w => w [(1, .ptr 0 0), (3, .sl none (List.map AV.str y49)), (4, .sl none (List.map (AV.int .i64) v2)), (5, .int .i64 v48)] [some [.str m.Sel, .sl none (List.map AV.str m.Args), .sl none (List.map AV.str m.Temps), .sl none (List.map enc_ref14_Node m.Nodes), .sl none (List.map (AV.int .i64) m.Body)]]) (runX 10000 ?_) (fun Jy49 => ?_)
          · clear hy49
            refine add_s h fun v88 _ e87 h => ?_
            simp only [go_sem, seval, e87]
            exact lp_back (ih1 y49 v88 h) ⟨rfl, rfl, rfl, rfl, trivial⟩
          · clear h
            have h := hy49
            simp only [go_sem, seval]
            refine bsome h fun y51 hy51 h => ?_
            refine rgJ 81 10000 (.inl rfl) (fun w => w [(1, .ptr 0 0), (3, .sl none (List.map AV.str v47)), (4, .sl none (List.map (AV.int .i64) v2)), (5, .int .i64 v48), (37, .bool y51)] [some [.str m.Sel, .sl none (List.map AV.str m.Args), .sl none (List.map AV.str m.Temps), .sl none (List.map enc_ref14_Node m.Nodes), .sl none (List.map (AV.int .i64) m.Body)]]) (runX 10000 ?_) (fun Jy51 => ?_)
            · clear hy51
              simp only [go_sem, seval]
              refine cnd_s 10000 h (fun hb h => ?_) (fun hb h => ?_)
              · simp only [go_sem, seval]
                obtain rfl := Option.some.inj h
                exact atJ (wkn (Jy49) ⟨rfl, rfl, rfl, rfl, trivial⟩)
              · refine lAt_s enc_ref14_Node none .i64 ⟨45, 5, true, 80⟩ (fun _ => rfl) h fun v61 _ b59 e60 h => ?_
                simp only [go_sem, seval, b59, e60]
                refine bsome h fun y62 hy62 h => ?_
                refine rgJ 81 10000 (.inl rfl) (fun w => w [(1, .ptr 0 0), (3, .sl none (List.map AV.str v47)), (4, .sl none (List.map (AV.int .i64) v2)), (5, .int .i64 v48), (6, .str v61.S), (7, .bool y62)] [some [.str m.Sel, .sl none (List.map AV.str m.Args), .sl none (List.map AV.str m.Temps), .sl none (List.map enc_ref14_Node m.Nodes), .sl none (List.map (AV.int .i64) m.Body)]]) (runX 10000 ?_) (fun Jy62 => ?_)
                · clear hy62
                  refine lAt_s (AV.int .i64) none .i64 ⟨3, 1, false, 8⟩ (fun _ => rfl) h fun v69 _ b67 e68 h => ?_
                  simp only [go_sem, seval, b67, e68]
                  refine bsome h fun y70 hy70 h => ?_
                  refine blkJ 81 10000 (fun w => w [(1, .ptr 0 0), (3, .sl none (List.map AV.str v47)), (4, .sl none (List.map (AV.int .i64) v2)), (5, .int .i64 v48), (6, .str v61.S), (7, .bool y70)] [some [.str m.Sel, .sl none (List.map AV.str m.Args), .sl none (List.map AV.str m.Temps), .sl none (List.map enc_ref14_Node m.Nodes), .sl none (List.map (AV.int .i64) m.Body)]]) (runX 10000 ?_) (fun Jy70 => ?_)
                  · clear hy70
                    simp only [go_sem, seval]
                    refine bsome h fun y84 hy84 h => ?_
                    refine cndJ 81 10000 (fun w => w [(1, .ptr 0 0), (3, .sl none (List.map AV.str y84)), (4, .sl none (List.map (AV.int .i64) v2)), (5, .int .i64 v48)] [some [.str m.Sel, .sl none (List.map AV.str m.Args), .sl none (List.map AV.str m.Temps), .sl none (List.map enc_ref14_Node m.Nodes), .sl none (List.map (AV.int .i64) m.Body)]]) (runX 10000 ?_) (fun Jy84 => ?_)
                    · clear hy84
                      simp only [go_sem, seval]
                      obtain rfl := Option.some.inj h
                      exact atJ (wkn (Jy49) ⟨rfl, rfl, rfl, rfl, trivial⟩)
                    · clear h
                      have h := hy84
                      refine cnd_s 10000 h (fun hb h => ?_) (fun hb h => ?_)
                      · refine bsome h fun v86 hv86 h => ?_
                        simp only [go_sem, seval]
                        refine callX_ 10000 (w_ref14_Insert  hv86) (by first | rfl | simp only [go_sem]) (by first | rfl | simp only [go_sem]) ?_
                        simp only [go_sem, seval]
                        obtain rfl := Option.some.inj h
                        exact atJ (wkn (Jy84) ⟨rfl, rfl, rfl, rfl, trivial⟩)
                      · simp only [go_sem, seval]
                        obtain rfl := Option.some.inj h
                        exact atJ (wkn (Jy84) ⟨rfl, rfl, rfl, rfl, trivial⟩)
                  · clear h
                    have h := hy70
                    simp only [go_sem, seval]
                    refine lpJ 81 fuel (fun q3 w => ∀ (v72 : Bool) (v73 : Int), ref14_Free_l3 m v2 v61 q3 v72 v73 = some y70 → w [(1, .ptr 0 0), (3, .sl none (List.map AV.str v47)), (4, .sl none (List.map (AV.int .i64) v2)), (5, .int .i64 v48), (6, .str v61.S), (7, .bool v72), (8, .int .i64 v73)] [some [.str m.Sel, .sl none (List.map AV.str m.Args), .sl none (List.map AV.str m.Temps), .sl none (List.map enc_ref14_Node m.Nodes), .sl none (List.map (AV.int .i64) m.Body)]]) (fun w _ _ h => nomatch h) (fun q3 ih3 v72 v73 h => ?_) (fun L3 => ?_)
                    · unfold ref14_Free_l3 at h
                      refine runL 10000 ?_
                      simp only [go_sem, seval]
                      refine cnd_s 10000 h (fun hb h => ?_) (fun hb h => ?_)
                      · simp only [go_sem, seval]
                        refine blk_ 10000 ?_
                        simp only [go_sem, seval]
                        refine bsome h fun y74 hy74 h => ?_
                        refine rgJ 81 10000 (.inl rfl) (fun w => w [(1, .ptr 0 0), (3, .sl none (List.map AV.str v47)), (4, .sl none (List.map (AV.int .i64) v2)), (5, .int .i64 v48), (6, .str v61.S), (7, .bool y74), (8, .int .i64 v73)] [some [.str m.Sel, .sl none (List.map AV.str m.Args), .sl none (List.map AV.str m.Temps), .sl none (List.map enc_ref14_Node m.Nodes), .sl none (List.map (AV.int .i64) m.Body)]]) (runX 10000 ?_) (fun Jy74 => ?_)
                        · clear hy74
                          refine lAt_s (AV.int .i64) none .i64 ⟨3, 1, false, 8⟩ (fun _ => rfl) h fun v83 _ b81 e82 h => ?_
                          simp only [go_sem, seval, b81, e82]
                          exact lp_back (ih3 y74 v83 h) ⟨rfl, rfl, rfl, rfl, rfl, rfl, rfl, trivial⟩
                        · clear h
                          have h := hy74
                          simp only [go_sem, seval]
                          refine grd_ (fun hb76 => ?_) (fun hb76 => ?_)
                          · have h := ite_f hb76 h
                            refine lAt_s enc_ref14_Node none .i64 ⟨45, 5, true, 80⟩ (fun _ => rfl) h fun v79 _ b77 e78 h => ?_
                            refine bsome h fun v80 hv80 h => ?_
                            simp only [go_sem, seval, b77, e78]
                            refine callX_ 10000 (w_ref14_In  hv80) (by first | rfl | simp only [go_sem]) (by first | rfl | simp only [go_sem]) ?_
                            simp only [go_sem, seval]
                            obtain rfl := Option.some.inj h
                            exact atJ (wkn (Jy74) ⟨rfl, rfl, rfl, rfl, rfl, rfl, rfl, trivial⟩)
                          · have h := ite_t hb76 h
                            simp only [go_sem, seval]
                            obtain rfl := Option.some.inj h
                            exact atJ (wkn (Jy74) ⟨rfl, rfl, rfl, rfl, rfl, rfl, rfl, trivial⟩)
                      · simp only [go_sem, seval]
                        obtain rfl := Option.some.inj h
                        exact atJ (wkn (Jy70) ⟨rfl, rfl, rfl, rfl, rfl, rfl, trivial⟩)
                    · exact lp_back (L3 y62 v69 h) ⟨rfl, rfl, rfl, rfl, rfl, rfl, rfl, trivial⟩
                · clear h
                  have h := hy62
                  refine bsome h fun v64 hv64 h => ?_
                  simp only [go_sem, seval]
                  refine callX_ 10000 (w_ref14_In  hv64) (by first | rfl | simp only [go_sem]) (by first | rfl | simp only [go_sem]) ?_
                  simp only [go_sem, seval]
                  refine grd_ (fun hb65 => ?_) (fun hb65 => ?_)
                  · have h := ite_f hb65 h
                    refine bsome h fun v66 hv66 h => ?_
                    simp only [go_sem, seval]
                    refine callX_ 10000 (w_ref14_In  hv66) (by first | rfl | simp only [go_sem]) (by first | rfl | simp only [go_sem]) ?_
                    simp only [go_sem, seval]
                    obtain rfl := Option.some.inj h
                    exact atJ (wkn (Jy62) ⟨rfl, rfl, rfl, rfl, rfl, rfl, trivial⟩)
                  · have h := ite_t hb65 h
                    simp only [go_sem, seval]
                    obtain rfl := Option.some.inj h
                    exact atJ (wkn (Jy62) ⟨rfl, rfl, rfl, rfl, rfl, rfl, trivial⟩)
            · clear h
              have h := hy51
              refine lAt_s enc_ref14_Node none .i64 ⟨45, 5, true, 80⟩ (fun _ => rfl) h fun v55 _ b53 e54 h => ?_
              simp only [go_sem, seval, b53, e54]
              refine grd_ (fun hb56 => ?_) (fun hb56 => ?_)
              · have h := ite_t hb56 h
                simp only [go_sem, seval, b53, e54]
                obtain rfl := Option.some.inj h
                exact atJ (wkn (Jy51) ⟨rfl, rfl, rfl, rfl, rfl, trivial⟩)
              · have h := ite_f hb56 h
                simp only [go_sem, seval]
                obtain rfl := Option.some.inj h
                exact atJ (wkn (Jy51) ⟨rfl, rfl, rfl, rfl, rfl, trivial⟩)
        · simp only [go_sem, seval]
          obtain rfl := Option.some.inj h
          exact atJ (wkn (Jy3) ⟨rfl, trivial⟩)
      · exact lp_back (L1 [] 0 h) ⟨rfl, rfl, rfl, rfl, trivial⟩
theorem w_ref14_Sent {m : ref14_Method}   {r : (List Str)} (h : ref14_Sent m = some r) : ACall Tryz.prog 17 [enc_ref14_Method m] [] (.sl none (List.map AV.str r)) [] := by
  refine acallX 10000 hf17 ok17 (by first | rfl | simp only [go_sem]) meek_sl ?_
  dsimp only [Tryz.f17, nums, Option.getD, List.append]
  unfold ref14_Sent at h
  refine bsome h fun v1 hv1 h => ?_
  simp only [go_sem, seval]
  refine callX_ 10000 (w_ref14_May  hv1) (by first | rfl | simp only [go_sem]) (by first | rfl | simp only [go_sem]) ?_
  simp only [go_sem, seval]
  refine cnd_s 10000 h (fun hb h => ?_) (fun hb h => ?_)
  · simp only [go_sem, seval]
    refine ret_s (fun x => .sl none (List.map AV.str x)) h ?_
    first | rfl | simp only [go_sem, resAV, resAll, resOne, seval]
  · simp only [go_sem, seval]
    refine bsome h fun y2 hy2 h => ?_
    refine blkJ 41 10000 (fun w => w [(3, .sl none (List.map AV.str y2))] [some [.str m.Sel, .sl none (List.map AV.str m.Args), .sl none (List.map AV.str m.Temps), .sl none (List.map enc_ref14_Node m.Nodes), .sl none (List.map (AV.int .i64) m.Body)]]) (runX 10000 ?_) (fun Jy2 => ?_)
    · clear hy2
      simp only [go_sem, seval]
      refine ret_s (fun x => .sl none (List.map AV.str x)) h ?_
      first | rfl | simp only [go_sem, resAV, resAll, resOne, seval]
    · clear h
      have h := hy2
      simp only [go_sem, seval]
      refine unown_lp 3 (by first | rfl | simp only [go_sem]) ?_
      refine lpJ 41 fuel (fun q1 w => ∀ (v22 : (List Str)) (v23 : Int), ref14_Sent_l1 m q1 v22 v23 = some y2 → w [(1, .ptr 0 0), (3, .sl none (List.map AV.str v22)), (4, .int .i64 v23)] [some [.str m.Sel, .sl none (List.map AV.str m.Args), .sl none (List.map AV.str m.Temps), .sl none (List.map enc_ref14_Node m.Nodes), .sl none (List.map (AV.int .i64) m.Body)]]) (fun w _ _ h => nomatch h) (fun q1 ih1 v22 v23 h => ?_) (fun L1 => ?_)
      · unfold ref14_Sent_l1 at h
        refine runL 10000 ?_
        simp only [go_sem, seval]
        refine cnd_s 10000 h (fun hb h => ?_) (fun hb h => ?_)
        · simp only [go_sem, seval]
          refine blk_ 10000 ?_
          simp only [go_sem, seval]
          refine bsome h fun y24 hy24 h => ?_
          refine rgJ 41 10000 (.inl rfl) (fun w => w [(1, .ptr 0 0), (3, .sl none (List.map AV.str v22)), (4, .int .i64 v23), (31, .bool y24)] [some [.str m.Sel, .sl none (List.map AV.str m.Args), .sl none (List.map AV.str m.Temps), .sl none (List.map enc_ref14_Node m.Nodes), .sl none (List.map (AV.int .i64) m.Body)]]) (runX 10000 ?_) (fun Jy24 => ?_)
          · clear hy24
            simp only [go_sem, seval]
            refine bsome h fun y32 hy32 h => ?_
            refine cndJ 41 10000 (fun w => w [(1, .ptr 0 0), (3, .sl none (List.map AV.str y32)), (4, .int .i64 v23)] [some [.str m.Sel, .sl none (List.map AV.str m.Args), .sl none (List.map AV.str m.Temps), .sl none (List.map enc_ref14_Node m.Nodes), .sl none (List.map (AV.int .i64) m.Body)]]) (runX 10000 ?_) (fun Jy32 => ?_)
            · clear hy32
              refine add_s h fun v39 _ e38 h => ?_
              simp only [go_sem, seval, e38]
              exact lp_back (ih1 y32 v39 h) ⟨rfl, rfl, rfl, trivial⟩
            · clear h
              have h := hy32
              refine cnd_s 10000 h (fun hb h => ?_) (fun hb h => ?_)
              · refine lAt_s enc_ref14_Node none .i64 ⟨45, 5, true, 80⟩ (fun _ => rfl) h fun v36 _ b34 e35 h => ?_
                refine bsome h fun v37 hv37 h => ?_
                simp only [go_sem, seval, b34, e35]
                refine callX_ 10000 (w_ref14_Insert  hv37) (by first | rfl | simp only [go_sem]) (by first | rfl | simp only [go_sem]) ?_
                simp only [go_sem, seval]
                obtain rfl := Option.some.inj h
                exact atJ (wkn (Jy32) ⟨rfl, rfl, rfl, trivial⟩)
              · simp only [go_sem, seval]
                obtain rfl := Option.some.inj h
                exact atJ (wkn (Jy32) ⟨rfl, rfl, rfl, trivial⟩)
          · clear h
            have h := hy24
            refine lAt_s enc_ref14_Node none .i64 ⟨45, 5, true, 80⟩ (fun _ => rfl) h fun v28 _ b26 e27 h => ?_
            simp only [go_sem, seval, b26, e27]
            refine grd_ (fun hb29 => ?_) (fun hb29 => ?_)
            · have h := ite_f hb29 h
              simp only [go_sem, seval, b26, e27]
              obtain rfl := Option.some.inj h
              exact atJ (wkn (Jy24) ⟨rfl, rfl, rfl, rfl, trivial⟩)
            · have h := ite_t hb29 h
              simp only [go_sem, seval]
              obtain rfl := Option.some.inj h
              exact atJ (wkn (Jy24) ⟨rfl, rfl, rfl, rfl, trivial⟩)
        · simp only [go_sem, seval]
          obtain rfl := Option.some.inj h
          exact atJ (wkn (Jy2) ⟨rfl, trivial⟩)
      · exact lp_back (L1 [] 0 h) ⟨rfl, rfl, rfl, trivial⟩
theorem w_law14_TreeTells {m : ref14_Method} {o : ref14_Method}   {r : Bool} (h : law14_TreeTells m o = some r) : ACall Tryz.prog 3 [enc_ref14_Method m, enc_ref14_Method o] [] (.bool r) [] := by
  refine acallX 10000 hf3 ok3 (by first | rfl | simp only [go_sem]) meek_bool ?_
  dsimp only [Tryz.f3, nums, Option.getD, List.append]
  unfold law14_TreeTells at h
  simp only [go_sem, seval]
  refine bsome h fun y1 hy1 h => ?_
  refine rgJ 62 10000 (.inl rfl) (fun w => w [(2, .ptr 0 0), (3, .ptr 1 0), (14, .bool y1)] [some [.str m.Sel, .sl none (List.map AV.str m.Args), .sl none (List.map AV.str m.Temps), .sl none (List.map enc_ref14_Node m.Nodes), .sl none (List.map (AV.int .i64) m.Body)], some [.str o.Sel, .sl none (List.map AV.str o.Args), .sl none (List.map AV.str o.Temps), .sl none (List.map enc_ref14_Node o.Nodes), .sl none (List.map (AV.int .i64) o.Body)]]) (runX 10000 ?_) (fun Jy1 => ?_)
  · clear hy1
    simp only [go_sem, seval]
    refine cnd_s 10000 h (fun hb h => ?_) (fun hb h => ?_)
    · refine bsome h fun v6 hv6 h => ?_
      simp only [go_sem, seval]
      refine callX_ 10000 (w_law14_sure  hv6) (by first | rfl | simp only [go_sem]) (by first | rfl | simp only [go_sem]) ?_
      simp only [go_sem, seval]
      refine ret_s (fun x => .bool x) h ?_
      first | rfl | simp only [go_sem, resAV, resAll, resOne, seval]
    · simp only [go_sem, seval]
      refine bsome h fun y7 hy7 h => ?_
      refine rgJ2 62 10000 4 2 [(2, 0), (3, 1), (5, 2), (6, 3)] [(2, 0), (3, 1), (5, 3), (6, 2)] (by kernel_rfl) (by rfl) (by kernel_rfl) (by kernel_rfl) (by rfl) (by rfl) (fun w => w [(2, .ptr 0 0), (3, .ptr 1 0), (5, .ptr 2 0), (6, .ptr 3 0)] [some [.str m.Sel, .sl none (List.map AV.str m.Args), .sl none (List.map AV.str m.Temps), .sl none (List.map enc_ref14_Node m.Nodes), .sl none (List.map (AV.int .i64) m.Body)], some [.str o.Sel, .sl none (List.map AV.str o.Args), .sl none (List.map AV.str o.Temps), .sl none (List.map enc_ref14_Node o.Nodes), .sl none (List.map (AV.int .i64) o.Body)], some [.str y7.1.Sel, .sl none (List.map AV.str y7.1.Args), .sl none (List.map AV.str y7.1.Temps), .sl none (List.map enc_tree_Node y7.1.Nodes), .sl none (List.map (AV.int .i64) y7.1.Body)], some [.str y7.2.Sel, .sl none (List.map AV.str y7.2.Args), .sl none (List.map AV.str y7.2.Temps), .sl none (List.map enc_tree_Node y7.2.Nodes), .sl none (List.map (AV.int .i64) y7.2.Body)]]) (runX 10000 ?_) (fun Jy7 => ?_) (fun Jy7 => ?_)
      · clear hy7
        refine bsome h fun v11 hv11 h => ?_
        simp only [go_sem, seval]
        refine callX_ 10000 (w_tree_Check  hv11) (by first | rfl | simp only [go_sem]) (by first | rfl | simp only [go_sem]) ?_
        refine bsome h fun v12 hv12 h => ?_
        simp only [go_sem, seval]
        refine callX_ 10000 (w_ref14_May  hv12) (by first | rfl | simp only [go_sem]) (by first | rfl | simp only [go_sem]) ?_
        simp only [go_sem, seval]
        refine bsome h fun y13 hy13 h => ?_
        refine rgJ 62 10000 (.inr ⟨[], by kernel_rfl, by kernel_rfl, by rfl⟩) (fun w => w [(4, .bool y13)] [some [.str m.Sel, .sl none (List.map AV.str m.Args), .sl none (List.map AV.str m.Temps), .sl none (List.map enc_ref14_Node m.Nodes), .sl none (List.map (AV.int .i64) m.Body)], some [.str o.Sel, .sl none (List.map AV.str o.Args), .sl none (List.map AV.str o.Temps), .sl none (List.map enc_ref14_Node o.Nodes), .sl none (List.map (AV.int .i64) o.Body)], some [.str y7.1.Sel, .sl none (List.map AV.str y7.1.Args), .sl none (List.map AV.str y7.1.Temps), .sl none (List.map enc_tree_Node y7.1.Nodes), .sl none (List.map (AV.int .i64) y7.1.Body)], some [.str y7.2.Sel, .sl none (List.map AV.str y7.2.Args), .sl none (List.map AV.str y7.2.Temps), .sl none (List.map enc_tree_Node y7.2.Nodes), .sl none (List.map (AV.int .i64) y7.2.Body)]]) (runX 10000 ?_) (fun Jy13 => ?_)
        · clear hy13
          simp only [go_sem, seval]
          refine ret_s (fun x => .bool x) h ?_
          first | rfl | simp only [go_sem, resAV, resAll, resOne, seval]
        · clear h
          have h := hy13
          simp only [go_sem, seval]
          refine grd_ (fun hb15 => ?_) (fun hb15 => ?_)
          · have h := ite_t hb15 h
            simp only [go_sem, seval]
            refine grd_ (fun hb16 => ?_) (fun hb16 => ?_)
            · have h := ite_f hb16 h
              refine bsome h fun v17 hv17 h => ?_
              simp only [go_sem, seval]
              refine callX_ 10000 (w_law_num  hv17) (by first | rfl | simp only [go_sem]) (by first | rfl | simp only [go_sem]) ?_
              simp only [go_sem, seval]
              refine grd_ (fun hb18 => ?_) (fun hb18 => ?_)
              · have h := ite_t hb18 h
                refine bsome h fun v19 hv19 h => ?_
                simp only [go_sem, seval]
                refine callX_ 10000 (w_tree_Same  hv19) (by first | rfl | simp only [go_sem]) (by first | rfl | simp only [go_sem]) ?_
                refine bsome h fun v20 hv20 h => ?_
                simp only [go_sem, seval]
                refine callX_ 10000 (w_ref14_Same  hv20) (by first | rfl | simp only [go_sem]) (by first | rfl | simp only [go_sem]) ?_
                simp only [go_sem, seval]
                refine grd_ (fun hb21 => ?_) (fun hb21 => ?_)
                · have h := ite_t hb21 h
                  refine bsome h fun v22 hv22 h => ?_
                  simp only [go_sem, seval]
                  refine callX_ 10000 (w_tree_Free  hv22) (by first | rfl | simp only [go_sem]) (by first | rfl | simp only [go_sem]) ?_
                  refine bsome h fun v23 hv23 h => ?_
                  simp only [go_sem, seval]
                  refine callX_ 10000 (w_ref14_Free  hv23) (by first | rfl | simp only [go_sem]) (by first | rfl | simp only [go_sem]) ?_
                  refine bsome h fun v24 hv24 h => ?_
                  simp only [go_sem, seval]
                  refine callX_ 10000 (w_law14_texts  hv24) (by first | rfl | simp only [go_sem]) (by first | rfl | simp only [go_sem]) ?_
                  simp only [go_sem, seval]
                  refine grd_ (fun hb25 => ?_) (fun hb25 => ?_)
                  · have h := ite_t hb25 h
                    refine bsome h fun v26 hv26 h => ?_
                    simp only [go_sem, seval]
                    refine callX_ 10000 (w_tree_Sent  hv26) (by first | rfl | simp only [go_sem]) (by first | rfl | simp only [go_sem]) ?_
                    refine bsome h fun v27 hv27 h => ?_
                    simp only [go_sem, seval]
                    refine callX_ 10000 (w_ref14_Sent  hv27) (by first | rfl | simp only [go_sem]) (by first | rfl | simp only [go_sem]) ?_
                    refine bsome h fun v28 hv28 h => ?_
                    simp only [go_sem, seval]
                    refine callX_ 10000 (w_law14_texts  hv28) (by first | rfl | simp only [go_sem]) (by first | rfl | simp only [go_sem]) ?_
                    simp only [go_sem, seval]
                    refine grd_ (fun hb29 => ?_) (fun hb29 => ?_)
                    · have h := ite_t hb29 h
                      refine bsome h fun v30 hv30 h => ?_
                      simp only [go_sem, seval]
                      refine callX_ 10000 (w_law14_sure  hv30) (by first | rfl | simp only [go_sem]) (by first | rfl | simp only [go_sem]) ?_
                      simp only [go_sem, seval]
                      obtain rfl := Option.some.inj h
                      exact atJ (wkn (Jy13) ⟨rfl, trivial⟩)
                    · have h := ite_f hb29 h
                      simp only [go_sem, seval]
                      obtain rfl := Option.some.inj h
                      exact atJ (wkn (Jy13) ⟨rfl, trivial⟩)
                  · have h := ite_f hb25 h
                    simp only [go_sem, seval]
                    obtain rfl := Option.some.inj h
                    exact atJ (wkn (Jy13) ⟨rfl, trivial⟩)
                · have h := ite_f hb21 h
                  simp only [go_sem, seval]
                  obtain rfl := Option.some.inj h
                  exact atJ (wkn (Jy13) ⟨rfl, trivial⟩)
              · have h := ite_f hb18 h
                simp only [go_sem, seval]
                obtain rfl := Option.some.inj h
                exact atJ (wkn (Jy13) ⟨rfl, trivial⟩)
            · have h := ite_t hb16 h
              refine bsome h fun v31 hv31 h => ?_
              simp only [go_sem, seval]
              refine callX_ 10000 (w_tree_Same  hv31) (by first | rfl | simp only [go_sem]) (by first | rfl | simp only [go_sem]) ?_
              refine bsome h fun v32 hv32 h => ?_
              simp only [go_sem, seval]
              refine callX_ 10000 (w_ref14_Same  hv32) (by first | rfl | simp only [go_sem]) (by first | rfl | simp only [go_sem]) ?_
              simp only [go_sem, seval]
              refine grd_ (fun hb33 => ?_) (fun hb33 => ?_)
              · have h := ite_t hb33 h
                refine bsome h fun v34 hv34 h => ?_
                simp only [go_sem, seval]
                refine callX_ 10000 (w_tree_Free  hv34) (by first | rfl | simp only [go_sem]) (by first | rfl | simp only [go_sem]) ?_
                refine bsome h fun v35 hv35 h => ?_
                simp only [go_sem, seval]
                refine callX_ 10000 (w_ref14_Free  hv35) (by first | rfl | simp only [go_sem]) (by first | rfl | simp only [go_sem]) ?_
                refine bsome h fun v36 hv36 h => ?_
                simp only [go_sem, seval]
                refine callX_ 10000 (w_law14_texts  hv36) (by first | rfl | simp only [go_sem]) (by first | rfl | simp only [go_sem]) ?_
                simp only [go_sem, seval]
                refine grd_ (fun hb37 => ?_) (fun hb37 => ?_)
                · have h := ite_t hb37 h
                  refine bsome h fun v38 hv38 h => ?_
                  simp only [go_sem, seval]
                  refine callX_ 10000 (w_tree_Sent  hv38) (by first | rfl | simp only [go_sem]) (by first | rfl | simp only [go_sem]) ?_
                  refine bsome h fun v39 hv39 h => ?_
                  simp only [go_sem, seval]
                  refine callX_ 10000 (w_ref14_Sent  hv39) (by first | rfl | simp only [go_sem]) (by first | rfl | simp only [go_sem]) ?_
                  refine bsome h fun v40 hv40 h => ?_
                  simp only [go_sem, seval]
                  refine callX_ 10000 (w_law14_texts  hv40) (by first | rfl | simp only [go_sem]) (by first | rfl | simp only [go_sem]) ?_
                  simp only [go_sem, seval]
                  refine grd_ (fun hb41 => ?_) (fun hb41 => ?_)
                  · have h := ite_t hb41 h
                    refine bsome h fun v42 hv42 h => ?_
                    simp only [go_sem, seval]
                    refine callX_ 10000 (w_law14_sure  hv42) (by first | rfl | simp only [go_sem]) (by first | rfl | simp only [go_sem]) ?_
                    simp only [go_sem, seval]
                    obtain rfl := Option.some.inj h
                    exact atJ (wkn (Jy13) ⟨rfl, trivial⟩)
                  · have h := ite_f hb41 h
                    simp only [go_sem, seval]
                    obtain rfl := Option.some.inj h
                    exact atJ (wkn (Jy13) ⟨rfl, trivial⟩)
                · have h := ite_f hb37 h
                  simp only [go_sem, seval]
                  obtain rfl := Option.some.inj h
                  exact atJ (wkn (Jy13) ⟨rfl, trivial⟩)
              · have h := ite_f hb33 h
                simp only [go_sem, seval]
                obtain rfl := Option.some.inj h
                exact atJ (wkn (Jy13) ⟨rfl, trivial⟩)
          · have h := ite_f hb15 h
            simp only [go_sem, seval]
            obtain rfl := Option.some.inj h
            exact atJ (wkn (Jy13) ⟨rfl, trivial⟩)
      · clear h
        have h := hy7
        refine bsome h fun v9 hv9 h => ?_
        simp only [go_sem, seval]
        refine callX_ 10000 (w_law14_giveMethod  hv9) (by first | rfl | simp only [go_sem]) (by first | rfl | simp only [go_sem]) ?_
        refine bsome h fun v10 hv10 h => ?_
        simp only [go_sem, seval]
        refine callX_ 10000 (w_law14_giveMethod  hv10) (by first | rfl | simp only [go_sem]) (by first | rfl | simp only [go_sem]) ?_
        simp only [go_sem, seval]
        obtain rfl := Option.some.inj h
        exact atJ (wkn (Jy7) ⟨rfl, rfl, rfl, rfl, trivial⟩)
      · clear h
        have h := hy7
        simp only [swAt]
        refine bsome h fun v9 hv9 h => ?_
        simp only [go_sem, seval]
        refine callX_ 10000 (w_law14_giveMethod  hv9) (by first | rfl | simp only [go_sem]) (by first | rfl | simp only [go_sem]) ?_
        refine bsome h fun v10 hv10 h => ?_
        simp only [go_sem, seval]
        refine callX_ 10000 (w_law14_giveMethod  hv10) (by first | rfl | simp only [go_sem]) (by first | rfl | simp only [go_sem]) ?_
        simp only [go_sem, seval]
        obtain rfl := Option.some.inj h
        exact atJ (swJ 2 3 Jy7 ⟨rfl, rfl, rfl, rfl, trivial⟩ rfl rfl rfl rfl rfl)
  · clear h
    have h := hy1
    refine bsome h fun v3 hv3 h => ?_
    simp only [go_sem, seval]
    refine callX_ 10000 (w_law14_bigTree  hv3) (by first | rfl | simp only [go_sem]) (by first | rfl | simp only [go_sem]) ?_
    simp only [go_sem, seval]
    refine grd_ (fun hb4 => ?_) (fun hb4 => ?_)
    · have h := ite_f hb4 h
      refine bsome h fun v5 hv5 h => ?_
      simp only [go_sem, seval]
      refine callX_ 10000 (w_law14_bigTree  hv5) (by first | rfl | simp only [go_sem]) (by first | rfl | simp only [go_sem]) ?_
      simp only [go_sem, seval]
      obtain rfl := Option.some.inj h
      exact atJ (wkn (Jy1) ⟨rfl, rfl, rfl, trivial⟩)
    · have h := ite_t hb4 h
      simp only [go_sem, seval]
      obtain rfl := Option.some.inj h
      exact atJ (wkn (Jy1) ⟨rfl, rfl, rfl, trivial⟩)
end Go.Cq

