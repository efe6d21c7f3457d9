import Derived.Test.YteeokchpojaaoaaGreatDoorSEn
import Derived.Test.YteeokchpojaaoaaGreatDoorSHa
set_option linter.unusedSectionVars false
set_option linter.unusedVariables false
set_option linter.unusedSimpArgs false
set_option linter.unusedVariables false
set_option linter.unusedSimpArgs false
set_option maxRecDepth 100000
set_option maxHeartbeats 4000000
set_option pp.maxSteps 400
namespace Go.Cq
open Go Go.Av Go.Proofs
variable [Lay] [SeatLay]
attribute [local irreducible] hold ex W Wr nd cndV rgO exitO grdO grdV grdG callX alcX stX nckX
theorem w_script_Form {name : Str}   {r : (Str × Bool)} (h : script_Form name = some r) : ACall Tryz.prog 15 [.str name] [] (.tup [.str r.1, .bool r.2]) [] := by
  refine acallX 10000 hf15 ok15 (by first | rfl | simp only [go_sem]) meek_tup ?_
  dsimp only [Tryz.f15, nums, Option.getD, List.append]
  unfold script_Form at h
  simp only [go_sem, Nat.reduceAdd, Nat.reduceLT, Nat.reduceLeDiff, Nat.reduceEqDiff, Nat.reduceBEq, Nat.reduceBNe]
  refine blk_ 10000 ?_
  simp only [go_sem, Nat.reduceAdd, Nat.reduceLT, Nat.reduceLeDiff, Nat.reduceEqDiff, Nat.reduceBEq, Nat.reduceBNe]
  refine bsome h fun y1 hy1 h => ?_
  refine cndJ 36 10000 (fun w => w [(4, .str name), (5, .bool y1)] []) (runX 10000 ?_) (fun Jy1 => ?_)
  · clear hy1
    simp only [go_sem, Nat.reduceAdd, Nat.reduceLT, Nat.reduceLeDiff, Nat.reduceEqDiff, Nat.reduceBEq, Nat.reduceBNe]
    refine cnd_s 10000 h (fun hb h => ?_) (fun hb h => ?_)
    · skip
      simp only [go_sem, Nat.reduceAdd, Nat.reduceLT, Nat.reduceLeDiff, Nat.reduceEqDiff, Nat.reduceBEq, Nat.reduceBNe]
      refine ret_s (fun x => .tup [.str x.1, .bool x.2]) h ?_
      first | rfl | simp only [go_sem, resAV, resAll, resOne]
    · skip
      simp only [go_sem, Nat.reduceAdd, Nat.reduceLT, Nat.reduceLeDiff, Nat.reduceEqDiff, Nat.reduceBEq, Nat.reduceBNe]
      refine cnd_s 10000 h (fun hb h => ?_) (fun hb h => ?_)
      · skip
        simp only [go_sem, Nat.reduceAdd, Nat.reduceLT, Nat.reduceLeDiff, Nat.reduceEqDiff, Nat.reduceBEq, Nat.reduceBNe]
        refine ret_s (fun x => .tup [.str x.1, .bool x.2]) h ?_
        first | rfl | simp only [go_sem, resAV, resAll, resOne]
      · skip
        simp only [go_sem, Nat.reduceAdd, Nat.reduceLT, Nat.reduceLeDiff, Nat.reduceEqDiff, Nat.reduceBEq, Nat.reduceBNe]
        refine bsome h fun y5 hy5 h => ?_
        refine cndJ 36 10000 (fun w => w [(4, .str name), (11, .bool y5)] []) (runX 10000 ?_) (fun Jy5 => ?_)
        · clear hy5
          simp only [go_sem, Nat.reduceAdd, Nat.reduceLT, Nat.reduceLeDiff, Nat.reduceEqDiff, Nat.reduceBEq, Nat.reduceBNe]
          refine cnd_s 10000 h (fun hb h => ?_) (fun hb h => ?_)
          · skip
            simp only [go_sem, Nat.reduceAdd, Nat.reduceLT, Nat.reduceLeDiff, Nat.reduceEqDiff, Nat.reduceBEq, Nat.reduceBNe]
            refine ret_s (fun x => .tup [.str x.1, .bool x.2]) h ?_
            first | rfl | simp only [go_sem, resAV, resAll, resOne]
          · skip
            simp only [go_sem, Nat.reduceAdd, Nat.reduceLT, Nat.reduceLeDiff, Nat.reduceEqDiff, Nat.reduceBEq, Nat.reduceBNe]
            refine bsome h fun y13 hy13 h => ?_
            refine cndJ 36 10000 (fun w => w [(4, .str name), (17, .bool y13)] []) (runX 10000 ?_) (fun Jy13 => ?_)
            · clear hy13
              simp only [go_sem, Nat.reduceAdd, Nat.reduceLT, Nat.reduceLeDiff, Nat.reduceEqDiff, Nat.reduceBEq, Nat.reduceBNe]
              refine cnd_s 10000 h (fun hb h => ?_) (fun hb h => ?_)
              · skip
                simp only [go_sem, Nat.reduceAdd, Nat.reduceLT, Nat.reduceLeDiff, Nat.reduceEqDiff, Nat.reduceBEq, Nat.reduceBNe]
                refine ret_s (fun x => .tup [.str x.1, .bool x.2]) h ?_
                first | rfl | simp only [go_sem, resAV, resAll, resOne]
              · skip
                simp only [go_sem, Nat.reduceAdd, Nat.reduceLT, Nat.reduceLeDiff, Nat.reduceEqDiff, Nat.reduceBEq, Nat.reduceBNe]
                refine cnd_s 10000 h (fun hb h => ?_) (fun hb h => ?_)
                · skip
                  simp only [go_sem, Nat.reduceAdd, Nat.reduceLT, Nat.reduceLeDiff, Nat.reduceEqDiff, Nat.reduceBEq, Nat.reduceBNe]
                  refine ret_s (fun x => .tup [.str x.1, .bool x.2]) h ?_
                  first | rfl | simp only [go_sem, resAV, resAll, resOne]
                · skip
                  simp only [go_sem, Nat.reduceAdd, Nat.reduceLT, Nat.reduceLeDiff, Nat.reduceEqDiff, Nat.reduceBEq, Nat.reduceBNe]
                  refine cnd_s 10000 h (fun hb h => ?_) (fun hb h => ?_)
                  · skip
                    simp only [go_sem, Nat.reduceAdd, Nat.reduceLT, Nat.reduceLeDiff, Nat.reduceEqDiff, Nat.reduceBEq, Nat.reduceBNe]
                    refine ret_s (fun x => .tup [.str x.1, .bool x.2]) h ?_
                    first | rfl | simp only [go_sem, resAV, resAll, resOne]
                  · skip
                    simp only [go_sem, Nat.reduceAdd, Nat.reduceLT, Nat.reduceLeDiff, Nat.reduceEqDiff, Nat.reduceBEq, Nat.reduceBNe]
                    refine cnd_s 10000 h (fun hb h => ?_) (fun hb h => ?_)
                    · skip
                      simp only [go_sem, Nat.reduceAdd, Nat.reduceLT, Nat.reduceLeDiff, Nat.reduceEqDiff, Nat.reduceBEq, Nat.reduceBNe]
                      refine ret_s (fun x => .tup [.str x.1, .bool x.2]) h ?_
                      first | rfl | simp only [go_sem, resAV, resAll, resOne]
                    · skip
                      simp only [go_sem, Nat.reduceAdd, Nat.reduceLT, Nat.reduceLeDiff, Nat.reduceEqDiff, Nat.reduceBEq, Nat.reduceBNe]
                      refine cnd_s 10000 h (fun hb h => ?_) (fun hb h => ?_)
                      · skip
                        simp only [go_sem, Nat.reduceAdd, Nat.reduceLT, Nat.reduceLeDiff, Nat.reduceEqDiff, Nat.reduceBEq, Nat.reduceBNe]
                        refine ret_s (fun x => .tup [.str x.1, .bool x.2]) h ?_
                        first | rfl | simp only [go_sem, resAV, resAll, resOne]
                      · skip
                        simp only [go_sem, Nat.reduceAdd, Nat.reduceLT, Nat.reduceLeDiff, Nat.reduceEqDiff, Nat.reduceBEq, Nat.reduceBNe]
                        refine cnd_s 10000 h (fun hb h => ?_) (fun hb h => ?_)
                        · skip
                          simp only [go_sem, Nat.reduceAdd, Nat.reduceLT, Nat.reduceLeDiff, Nat.reduceEqDiff, Nat.reduceBEq, Nat.reduceBNe]
                          refine ret_s (fun x => .tup [.str x.1, .bool x.2]) h ?_
                          first | rfl | simp only [go_sem, resAV, resAll, resOne]
                        · skip
                          simp only [go_sem, Nat.reduceAdd, Nat.reduceLT, Nat.reduceLeDiff, Nat.reduceEqDiff, Nat.reduceBEq, Nat.reduceBNe]
                          refine bsome h fun y15 hy15 h => ?_
                          refine cndJ 36 10000 (fun w => w [(4, .str name), (30, .bool y15)] []) (runX 10000 ?_) (fun Jy15 => ?_)
                          · clear hy15
                            simp only [go_sem, Nat.reduceAdd, Nat.reduceLT, Nat.reduceLeDiff, Nat.reduceEqDiff, Nat.reduceBEq, Nat.reduceBNe]
                            refine cnd_s 10000 h (fun hb h => ?_) (fun hb h => ?_)
                            · skip
                              simp only [go_sem, Nat.reduceAdd, Nat.reduceLT, Nat.reduceLeDiff, Nat.reduceEqDiff, Nat.reduceBEq, Nat.reduceBNe]
                              refine ret_s (fun x => .tup [.str x.1, .bool x.2]) h ?_
                              first | rfl | simp only [go_sem, resAV, resAll, resOne]
                            · skip
                              simp only [go_sem, Nat.reduceAdd, Nat.reduceLT, Nat.reduceLeDiff, Nat.reduceEqDiff, Nat.reduceBEq, Nat.reduceBNe]
                              refine bsome h fun y17 hy17 h => ?_
                              refine cndJ 36 10000 (fun w => w [(33, .bool y17)] []) (runX 10000 ?_) (fun Jy17 => ?_)
                              · clear hy17
                                simp only [go_sem, Nat.reduceAdd, Nat.reduceLT, Nat.reduceLeDiff, Nat.reduceEqDiff, Nat.reduceBEq, Nat.reduceBNe]
                                refine cnd_s 10000 h (fun hb h => ?_) (fun hb h => ?_)
                                · skip
                                  simp only [go_sem, Nat.reduceAdd, Nat.reduceLT, Nat.reduceLeDiff, Nat.reduceEqDiff, Nat.reduceBEq, Nat.reduceBNe]
                                  refine ret_s (fun x => .tup [.str x.1, .bool x.2]) h ?_
                                  first | rfl | simp only [go_sem, resAV, resAll, resOne]
                                · skip
                                  simp only [go_sem, Nat.reduceAdd, Nat.reduceLT, Nat.reduceLeDiff, Nat.reduceEqDiff, Nat.reduceBEq, Nat.reduceBNe]
                                  refine ret_s (fun x => .tup [.str x.1, .bool x.2]) h ?_
                                  first | rfl | simp only [go_sem, resAV, resAll, resOne]
                              · clear h
                                have h := hy17
                                refine cnd_s 10000 h (fun hb h => ?_) (fun hb h => ?_)
                                · skip
                                  simp only [go_sem, Nat.reduceAdd, Nat.reduceLT, Nat.reduceLeDiff, Nat.reduceEqDiff, Nat.reduceBEq, Nat.reduceBNe]
                                  obtain rfl := Option.some.inj h
                                  exact atJ (wkn (Jy17) ⟨rfl, trivial⟩)
                                · skip
                                  simp only [go_sem, Nat.reduceAdd, Nat.reduceLT, Nat.reduceLeDiff, Nat.reduceEqDiff, Nat.reduceBEq, Nat.reduceBNe]
                                  obtain rfl := Option.some.inj h
                                  exact atJ (wkn (Jy17) ⟨rfl, trivial⟩)
                          · clear h
                            have h := hy15
                            refine cnd_s 10000 h (fun hb h => ?_) (fun hb h => ?_)
                            · skip
                              simp only [go_sem, Nat.reduceAdd, Nat.reduceLT, Nat.reduceLeDiff, Nat.reduceEqDiff, Nat.reduceBEq, Nat.reduceBNe]
                              obtain rfl := Option.some.inj h
                              exact atJ (wkn (Jy15) ⟨rfl, rfl, trivial⟩)
                            · skip
                              simp only [go_sem, Nat.reduceAdd, Nat.reduceLT, Nat.reduceLeDiff, Nat.reduceEqDiff, Nat.reduceBEq, Nat.reduceBNe]
                              obtain rfl := Option.some.inj h
                              exact atJ (wkn (Jy15) ⟨rfl, rfl, trivial⟩)
            · clear h
              have h := hy13
              refine cnd_s 10000 h (fun hb h => ?_) (fun hb h => ?_)
              · skip
                simp only [go_sem, Nat.reduceAdd, Nat.reduceLT, Nat.reduceLeDiff, Nat.reduceEqDiff, Nat.reduceBEq, Nat.reduceBNe]
                obtain rfl := Option.some.inj h
                exact atJ (wkn (Jy13) ⟨rfl, rfl, trivial⟩)
              · skip
                simp only [go_sem, Nat.reduceAdd, Nat.reduceLT, Nat.reduceLeDiff, Nat.reduceEqDiff, Nat.reduceBEq, Nat.reduceBNe]
                obtain rfl := Option.some.inj h
                exact atJ (wkn (Jy13) ⟨rfl, rfl, trivial⟩)
        · clear h
          have h := hy5
          refine cnd_s 10000 h (fun hb h => ?_) (fun hb h => ?_)
          · skip
            simp only [go_sem, Nat.reduceAdd, Nat.reduceLT, Nat.reduceLeDiff, Nat.reduceEqDiff, Nat.reduceBEq, Nat.reduceBNe]
            obtain rfl := Option.some.inj h
            exact atJ (wkn (Jy5) ⟨rfl, rfl, trivial⟩)
          · skip
            simp only [go_sem, Nat.reduceAdd, Nat.reduceLT, Nat.reduceLeDiff, Nat.reduceEqDiff, Nat.reduceBEq, Nat.reduceBNe]
            refine bsome h fun y7 hy7 h => ?_
            refine cndJ 36 10000 (fun w => w [(4, .str name), (11, .bool y7)] []) (runX 10000 ?_) (fun Jy7 => ?_)
            · clear hy7
              simp only [go_sem, Nat.reduceAdd, Nat.reduceLT, Nat.reduceLeDiff, Nat.reduceEqDiff, Nat.reduceBEq, Nat.reduceBNe]
              obtain rfl := Option.some.inj h
              exact atJ (wkn (Jy5) ⟨rfl, rfl, trivial⟩)
            · clear h
              have h := hy7
              refine cnd_s 10000 h (fun hb h => ?_) (fun hb h => ?_)
              · skip
                simp only [go_sem, Nat.reduceAdd, Nat.reduceLT, Nat.reduceLeDiff, Nat.reduceEqDiff, Nat.reduceBEq, Nat.reduceBNe]
                obtain rfl := Option.some.inj h
                exact atJ (wkn (Jy7) ⟨rfl, rfl, trivial⟩)
              · skip
                simp only [go_sem, Nat.reduceAdd, Nat.reduceLT, Nat.reduceLeDiff, Nat.reduceEqDiff, Nat.reduceBEq, Nat.reduceBNe]
                refine bsome h fun y9 hy9 h => ?_
                refine cndJ 36 10000 (fun w => w [(4, .str name), (11, .bool y9)] []) (runX 10000 ?_) (fun Jy9 => ?_)
                · clear hy9
                  simp only [go_sem, Nat.reduceAdd, Nat.reduceLT, Nat.reduceLeDiff, Nat.reduceEqDiff, Nat.reduceBEq, Nat.reduceBNe]
                  obtain rfl := Option.some.inj h
                  exact atJ (wkn (Jy7) ⟨rfl, rfl, trivial⟩)
                · clear h
                  have h := hy9
                  refine cnd_s 10000 h (fun hb h => ?_) (fun hb h => ?_)
                  · skip
                    simp only [go_sem, Nat.reduceAdd, Nat.reduceLT, Nat.reduceLeDiff, Nat.reduceEqDiff, Nat.reduceBEq, Nat.reduceBNe]
                    obtain rfl := Option.some.inj h
                    exact atJ (wkn (Jy9) ⟨rfl, rfl, trivial⟩)
                  · skip
                    simp only [go_sem, Nat.reduceAdd, Nat.reduceLT, Nat.reduceLeDiff, Nat.reduceEqDiff, Nat.reduceBEq, Nat.reduceBNe]
                    refine bsome h fun y11 hy11 h => ?_
                    refine cndJ 36 10000 (fun w => w [(4, .str name), (11, .bool y11)] []) (runX 10000 ?_) (fun Jy11 => ?_)
                    · clear hy11
                      simp only [go_sem, Nat.reduceAdd, Nat.reduceLT, Nat.reduceLeDiff, Nat.reduceEqDiff, Nat.reduceBEq, Nat.reduceBNe]
                      obtain rfl := Option.some.inj h
                      exact atJ (wkn (Jy9) ⟨rfl, rfl, trivial⟩)
                    · clear h
                      have h := hy11
                      refine cnd_s 10000 h (fun hb h => ?_) (fun hb h => ?_)
                      · skip
                        simp only [go_sem, Nat.reduceAdd, Nat.reduceLT, Nat.reduceLeDiff, Nat.reduceEqDiff, Nat.reduceBEq, Nat.reduceBNe]
                        obtain rfl := Option.some.inj h
                        exact atJ (wkn (Jy11) ⟨rfl, rfl, trivial⟩)
                      · skip
                        simp only [go_sem, Nat.reduceAdd, Nat.reduceLT, Nat.reduceLeDiff, Nat.reduceEqDiff, Nat.reduceBEq, Nat.reduceBNe]
                        obtain rfl := Option.some.inj h
                        exact atJ (wkn (Jy11) ⟨rfl, rfl, trivial⟩)
  · clear h
    have h := hy1
    refine cnd_s 10000 h (fun hb h => ?_) (fun hb h => ?_)
    · skip
      simp only [go_sem, Nat.reduceAdd, Nat.reduceLT, Nat.reduceLeDiff, Nat.reduceEqDiff, Nat.reduceBEq, Nat.reduceBNe]
      obtain rfl := Option.some.inj h
      exact atJ (wkn (Jy1) ⟨rfl, rfl, trivial⟩)
    · skip
      simp only [go_sem, Nat.reduceAdd, Nat.reduceLT, Nat.reduceLeDiff, Nat.reduceEqDiff, Nat.reduceBEq, Nat.reduceBNe]
      refine bsome h fun y3 hy3 h => ?_
      refine cndJ 36 10000 (fun w => w [(4, .str name), (5, .bool y3)] []) (runX 10000 ?_) (fun Jy3 => ?_)
      · clear hy3
        simp only [go_sem, Nat.reduceAdd, Nat.reduceLT, Nat.reduceLeDiff, Nat.reduceEqDiff, Nat.reduceBEq, Nat.reduceBNe]
        obtain rfl := Option.some.inj h
        exact atJ (wkn (Jy1) ⟨rfl, rfl, trivial⟩)
      · clear h
        have h := hy3
        refine cnd_s 10000 h (fun hb h => ?_) (fun hb h => ?_)
        · skip
          simp only [go_sem, Nat.reduceAdd, Nat.reduceLT, Nat.reduceLeDiff, Nat.reduceEqDiff, Nat.reduceBEq, Nat.reduceBNe]
          obtain rfl := Option.some.inj h
          exact atJ (wkn (Jy3) ⟨rfl, rfl, trivial⟩)
        · skip
          simp only [go_sem, Nat.reduceAdd, Nat.reduceLT, Nat.reduceLeDiff, Nat.reduceEqDiff, Nat.reduceBEq, Nat.reduceBNe]
          obtain rfl := Option.some.inj h
          exact atJ (wkn (Jy3) ⟨rfl, rfl, trivial⟩)
theorem w_slices_IndexFunc_Lbyte_byte {s : (List Int)} {p1_f : (Int → Option Bool)}  (fv_p1_f : FuncId) (hf_p1_f : ∀ (a0 : Int) (z : Bool), p1_f a0 = some z → ACall Tryz.prog fv_p1_f [.int .u8 a0] [] (.bool z) []) {r : Int} (h : slices_IndexFunc_Lbyte_byte s p1_f = some r) : ACall Tryz.prog 73 [.sl none (List.map (AV.int .u8) s), .fn (.func fv_p1_f) [] []] [] (.int .i64 r) [] := by
  refine acallX 10000 hf73 ok73 (by first | rfl | simp only [go_sem]) meek_int ?_
  dsimp only [Tryz.f73, nums, Option.getD, List.append]
  unfold slices_IndexFunc_Lbyte_byte at h
  simp only [go_sem, Nat.reduceAdd, Nat.reduceLT, Nat.reduceLeDiff, Nat.reduceEqDiff, Nat.reduceBEq, Nat.reduceBNe]
  refine letK_s h fun K2 hK2 h => ?_
  refine blkJ 19 10000 (fun w => K2 () = some r → w [] []) (fun  h => runX 10000 ?_) (fun JK2 => ?_)
  · subst hK2
    dsimp only at h
    simp only [go_sem, Nat.reduceAdd, Nat.reduceLT, Nat.reduceLeDiff, Nat.reduceEqDiff, Nat.reduceBEq, Nat.reduceBNe]
    refine ret_s (fun x => .int .i64 x) h ?_
    first | rfl | simp only [go_sem, resAV, resAll, resOne]
  · clear hK2
    simp only [go_sem, Nat.reduceAdd, Nat.reduceLT, Nat.reduceLeDiff, Nat.reduceEqDiff, Nat.reduceBEq, Nat.reduceBNe]
    refine lpJ 19 fuel (fun q1 w => ∀ (v3 : Int), slices_IndexFunc_Lbyte_byte_l1 s p1_f K2 q1 v3 = some r → w [(0, .sl none (List.map (AV.int .u8) s)), (1, .fn (.func fv_p1_f) [] []), (7, .int .i64 (s.length : Int)), (8, .int .i64 v3)] []) (fun w _ h => nomatch h) (fun q1 ih1 v3 h => ?_) (fun L1 => ?_)
    · unfold slices_IndexFunc_Lbyte_byte_l1 at h
      refine runL 10000 ?_
      simp only [go_sem, Nat.reduceAdd, Nat.reduceLT, Nat.reduceLeDiff, Nat.reduceEqDiff, Nat.reduceBEq, Nat.reduceBNe]
      refine cnd_s 10000 h (fun hb h => ?_) (fun hb h => ?_)
      · skip
        simp only [go_sem, Nat.reduceAdd, Nat.reduceLT, Nat.reduceLeDiff, Nat.reduceEqDiff, Nat.reduceBEq, Nat.reduceBNe]
        refine blk_ 10000 ?_
        refine lAt_s (AV.int .u8) none .i64 ⟨5, 1, false, 1⟩ (fun _ => rfl) h fun v6 _ b4 e5 h => ?_
        refine bsome h fun v7 hv7 h => ?_
        simp only [go_sem, Nat.reduceAdd, Nat.reduceLT, Nat.reduceLeDiff, Nat.reduceEqDiff, Nat.reduceBEq, Nat.reduceBNe, b4, e5]
        refine callX_ 10000 (hf_p1_f _ _ hv7) (by first | rfl | simp only [go_sem]) (by first | rfl | simp only [go_sem]) ?_
        simp only [go_sem, Nat.reduceAdd, Nat.reduceLT, Nat.reduceLeDiff, Nat.reduceEqDiff, Nat.reduceBEq, Nat.reduceBNe]
        refine cnd_s 10000 h (fun hb h => ?_) (fun hb h => ?_)
        · skip
          simp only [go_sem, Nat.reduceAdd, Nat.reduceLT, Nat.reduceLeDiff, Nat.reduceEqDiff, Nat.reduceBEq, Nat.reduceBNe]
          refine ret_s (fun x => .int .i64 x) h ?_
          first | rfl | simp only [go_sem, resAV, resAll, resOne]
        · skip
          refine add_s h fun v9 _ e8 h => ?_
          simp only [go_sem, Nat.reduceAdd, Nat.reduceLT, Nat.reduceLeDiff, Nat.reduceEqDiff, Nat.reduceBEq, Nat.reduceBNe, e8]
          exact lp_back (ih1 v9 h) ⟨rfl, rfl, rfl, rfl, trivial⟩
      · skip
        simp only [go_sem, Nat.reduceAdd, Nat.reduceLT, Nat.reduceLeDiff, Nat.reduceEqDiff, Nat.reduceBEq, Nat.reduceBNe]
        exact atJ (wkn (JK2  h) trivial)
    · exact lp_back (L1 0 h) ⟨rfl, rfl, rfl, rfl, trivial⟩
theorem w_slices_ContainsFunc_Lbyte_byte {s : (List Int)} {p1_f : (Int → Option Bool)}  (fv_p1_f : FuncId) (hf_p1_f : ∀ (a0 : Int) (z : Bool), p1_f a0 = some z → ACall Tryz.prog fv_p1_f [.int .u8 a0] [] (.bool z) []) {r : Bool} (h : slices_ContainsFunc_Lbyte_byte s p1_f = some r) : ACall Tryz.prog 59 [.sl none (List.map (AV.int .u8) s), .fn (.func fv_p1_f) [] []] [] (.bool r) [] := by
  refine acallX 10000 hf59 ok59 (by first | rfl | simp only [go_sem]) meek_bool ?_
  dsimp only [Tryz.f59, nums, Option.getD, List.append]
  unfold slices_ContainsFunc_Lbyte_byte at h
  refine bsome h fun v1 hv1 h => ?_
  simp only [go_sem, Nat.reduceAdd, Nat.reduceLT, Nat.reduceLeDiff, Nat.reduceEqDiff, Nat.reduceBEq, Nat.reduceBNe]
  refine callX_ 10000 (w_slices_IndexFunc_Lbyte_byte fv_p1_f hf_p1_f hv1) (by first | rfl | simp only [go_sem]) (by first | rfl | simp only [go_sem]) ?_
  simp only [go_sem, Nat.reduceAdd, Nat.reduceLT, Nat.reduceLeDiff, Nat.reduceEqDiff, Nat.reduceBEq, Nat.reduceBNe]
  refine ret_s (fun x => .bool x) h ?_
  first | rfl | simp only [go_sem, resAV, resAll, resOne]
theorem w_script_worded_1 {c : Int}   {r : Bool} (h : script_worded_1 c = some r) : ACall Tryz.prog 60 [.int .u8 c] [] (.bool r) [] := by
  refine acallX 10000 hf60 ok60 (by first | rfl | simp only [go_sem]) meek_bool ?_
  dsimp only [Tryz.f60, nums, Option.getD, List.append]
  unfold script_worded_1 at h
  simp only [go_sem, Nat.reduceAdd, Nat.reduceLT, Nat.reduceLeDiff, Nat.reduceEqDiff, Nat.reduceBEq, Nat.reduceBNe]
  refine rgJ 9 10000 (.inl rfl) (fun w => w [(2, .bool ((decide (c < 33)) || (decide ((126 : Int) < c))))] []) (runX 10000 ?_) (fun Jg1 => ?_)
  · skip
    simp only [go_sem, Nat.reduceAdd, Nat.reduceLT, Nat.reduceLeDiff, Nat.reduceEqDiff, Nat.reduceBEq, Nat.reduceBNe]
    refine ret_s (fun x => .bool x) h ?_
    first | rfl | simp only [go_sem, resAV, resAll, resOne]
  · skip
    simp only [go_sem, Nat.reduceAdd, Nat.reduceLT, Nat.reduceLeDiff, Nat.reduceEqDiff, Nat.reduceBEq, Nat.reduceBNe]
    refine grd_ (fun hb2 => ?_) (fun hb2 => ?_)
    · skip
      simp only [go_sem, Nat.reduceAdd, Nat.reduceLT, Nat.reduceLeDiff, Nat.reduceEqDiff, Nat.reduceBEq, Nat.reduceBNe]
      exact atJ (wkn Jg1 ⟨congrArg AV.bool (by first | rfl | (rw [hb2]; rfl) | (simp [hb2]; done) | simp_all), trivial⟩)
    · skip
      simp only [go_sem, Nat.reduceAdd, Nat.reduceLT, Nat.reduceLeDiff, Nat.reduceEqDiff, Nat.reduceBEq, Nat.reduceBNe]
      exact atJ (wkn Jg1 ⟨congrArg AV.bool (by first | rfl | (rw [hb2]; rfl) | (simp [hb2]; done) | simp_all), trivial⟩)
theorem w_script_worded {s : Str}   {r : Bool} (h : script_worded s = some r) : ACall Tryz.prog 45 [.str s] [] (.bool r) [] := by
  refine acallX 10000 hf45 ok45 (by first | rfl | simp only [go_sem]) meek_bool ?_
  dsimp only [Tryz.f45, nums, Option.getD, List.append]
  unfold script_worded at h
  simp only [go_sem, Nat.reduceAdd, Nat.reduceLT, Nat.reduceLeDiff, Nat.reduceEqDiff, Nat.reduceBEq, Nat.reduceBNe]
  refine bsome h fun y1 hy1 h => ?_
  refine rgJ 16 10000 (.inl rfl) (fun w => w [(2, .bool y1)] []) (runX 10000 ?_) (fun Jy1 => ?_)
  · clear hy1
    simp only [go_sem, Nat.reduceAdd, Nat.reduceLT, Nat.reduceLeDiff, Nat.reduceEqDiff, Nat.reduceBEq, Nat.reduceBNe]
    refine ret_s (fun x => .bool x) h ?_
    first | rfl | simp only [go_sem, resAV, resAll, resOne]
  · clear h
    have h := hy1
    simp only [go_sem, Nat.reduceAdd, Nat.reduceLT, Nat.reduceLeDiff, Nat.reduceEqDiff, Nat.reduceBEq, Nat.reduceBNe]
    refine grd_ (fun hb3 => ?_) (fun hb3 => ?_)
    · skip
      have h := ite_t hb3 h
      simp only [go_sem, Nat.reduceAdd, Nat.reduceLT, Nat.reduceLeDiff, Nat.reduceEqDiff, Nat.reduceBEq, Nat.reduceBNe]
      refine grd_ (fun hb4 => ?_) (fun hb4 => ?_)
      · skip
        have h := ite_t hb4 h
        refine bsome h fun v5 hv5 h => ?_
        simp only [go_sem, Nat.reduceAdd, Nat.reduceLT, Nat.reduceLeDiff, Nat.reduceEqDiff, Nat.reduceBEq, Nat.reduceBNe, (bytes_e (P := Tryz.prog) (s := 9) (d := 100) (by rw [kd100]; rfl) (by rw [kd100]; rfl) s)]
        refine callX_ 10000 (w_slices_ContainsFunc_Lbyte_byte 60 (fun _ _ h => w_script_worded_1 h) hv5) (by first | rfl | simp only [go_sem]) (by first | rfl | simp only [go_sem]) ?_
        simp only [go_sem, Nat.reduceAdd, Nat.reduceLT, Nat.reduceLeDiff, Nat.reduceEqDiff, Nat.reduceBEq, Nat.reduceBNe]
        obtain rfl := Option.some.inj h
        exact atJ (wkn (Jy1) ⟨rfl, trivial⟩)
      · skip
        have h := ite_f hb4 h
        simp only [go_sem, Nat.reduceAdd, Nat.reduceLT, Nat.reduceLeDiff, Nat.reduceEqDiff, Nat.reduceBEq, Nat.reduceBNe]
        obtain rfl := Option.some.inj h
        exact atJ (wkn (Jy1) ⟨rfl, trivial⟩)
    · skip
      have h := ite_f hb3 h
      simp only [go_sem, Nat.reduceAdd, Nat.reduceLT, Nat.reduceLeDiff, Nat.reduceEqDiff, Nat.reduceBEq, Nat.reduceBNe]
      obtain rfl := Option.some.inj h
      exact atJ (wkn (Jy1) ⟨rfl, trivial⟩)
theorem w_script_reader_next {p0_r : script_reader}   {r : (Str × script_reader)} (h : script_reader_next p0_r = some r) : ACall Tryz.prog 55 [.ptr 0 0] [some [.str p0_r.c.Name, .sl (some none) (List.map (AV.int .i64) p0_r.c.N), .sl (some none) (List.map enc_api_Val p0_r.c.V), .str p0_r.c.W, .str p0_r.c.S, .sl none (List.map AV.str p0_r.parts), .bool p0_r.wrong]] (.str r.1) [some [.str r.2.c.Name, .sl (some none) (List.map (AV.int .i64) r.2.c.N), .sl (some none) (List.map enc_api_Val r.2.c.V), .str r.2.c.W, .str r.2.c.S, .sl none (List.map AV.str r.2.parts), .bool r.2.wrong]] := by
  refine acallHX 10000 hf55 ok55 (by first | rfl | simp only [go_sem]) meek_str rfl (by first | rfl | simp only [go_sem, allLt]) ?_
  dsimp only [Tryz.f55, nums, Option.getD, List.append]
  unfold script_reader_next at h
  simp only [go_sem, Nat.reduceAdd, Nat.reduceLT, Nat.reduceLeDiff, Nat.reduceEqDiff, Nat.reduceBEq, Nat.reduceBNe]
  refine cnd_s 10000 h (fun hb h => ?_) (fun hb h => ?_)
  · skip
    simp only [go_sem, Nat.reduceAdd, Nat.reduceLT, Nat.reduceLeDiff, Nat.reduceEqDiff, Nat.reduceBEq, Nat.reduceBNe]
    refine retH_s (fun x => .str x.1) (fun x => [some [.str x.2.c.Name, .sl (some none) (List.map (AV.int .i64) x.2.c.N), .sl (some none) (List.map enc_api_Val x.2.c.V), .str x.2.c.W, .str x.2.c.S, .sl none (List.map AV.str x.2.parts), .bool x.2.wrong]]) h ?_ ?_
    · first | rfl | simp only [go_sem, resAV, resAll, resOne]
    · first | rfl | simp only [go_sem, resAV, resAll, resOne]
  · skip
    refine lAt_s AV.str none .i64 ⟨9, 1, false, 16⟩ (fun _ => rfl) h fun v3 _ b1 e2 h => ?_
    refine subL_s AV.str none ⟨9, 1, false, 16⟩ (fun _ => rfl) (some (.int .i64 1)) none rfl rfl h fun v6 _ b4 e5 h => ?_
    simp only [go_sem, Nat.reduceAdd, Nat.reduceLT, Nat.reduceLeDiff, Nat.reduceEqDiff, Nat.reduceBEq, Nat.reduceBNe, b1, e2, b4, e5]
    refine retH_s (fun x => .str x.1) (fun x => [some [.str x.2.c.Name, .sl (some none) (List.map (AV.int .i64) x.2.c.N), .sl (some none) (List.map enc_api_Val x.2.c.V), .str x.2.c.W, .str x.2.c.S, .sl none (List.map AV.str x.2.parts), .bool x.2.wrong]]) h ?_ ?_
    · first | rfl | simp only [go_sem, resAV, resAll, resOne]
    · first | rfl | simp only [go_sem, resAV, resAll, resOne]
theorem w_script_number {s : Str}   {r : (Int × Bool)} (h : script_number s = some r) : ACall Tryz.prog 71 [.str s] [] (.tup [.int .i64 r.1, .bool r.2]) [] := by
  refine acallX 10000 hf71 ok71 (by first | rfl | simp only [go_sem]) meek_tup ?_
  dsimp only [Tryz.f71, nums, Option.getD, List.append]
  unfold script_number at h
  refine bsome h fun v1 hv1 h => ?_
  simp only [go_sem, Nat.reduceAdd, Nat.reduceLT, Nat.reduceLeDiff, Nat.reduceEqDiff, Nat.reduceBEq, Nat.reduceBNe]
  refine callX_ 10000 (w_strconv_Atoi  hv1) (by first | rfl | simp only [go_sem]) (by first | rfl | simp only [go_sem]) ?_
  simp only [go_sem, Nat.reduceAdd, Nat.reduceLT, Nat.reduceLeDiff, Nat.reduceEqDiff, Nat.reduceBEq, Nat.reduceBNe]
  refine bsome h fun y2 hy2 h => ?_
  refine rgJ 20 10000 (.inl rfl) (fun w => w [(2, .int .i64 v1.1), (3, .bool y2)] []) (runX 10000 ?_) (fun Jy2 => ?_)
  · clear hy2
    simp only [go_sem, Nat.reduceAdd, Nat.reduceLT, Nat.reduceLeDiff, Nat.reduceEqDiff, Nat.reduceBEq, Nat.reduceBNe]
    refine ret_s (fun x => .tup [.int .i64 x.1, .bool x.2]) h ?_
    first | rfl | simp only [go_sem, resAV, resAll, resOne]
  · clear h
    have h := hy2
    simp only [go_sem, Nat.reduceAdd, Nat.reduceLT, Nat.reduceLeDiff, Nat.reduceEqDiff, Nat.reduceBEq, Nat.reduceBNe]
    refine grd_ (fun hb4 => ?_) (fun hb4 => ?_)
    · skip
      have h := ite_t hb4 h
      refine bsome h fun v5 hv5 h => ?_
      simp only [go_sem, Nat.reduceAdd, Nat.reduceLT, Nat.reduceLeDiff, Nat.reduceEqDiff, Nat.reduceBEq, Nat.reduceBNe]
      refine callX_ 10000 (w_strconv_Itoa  hv5) (by first | rfl | simp only [go_sem]) (by first | rfl | simp only [go_sem]) ?_
      simp only [go_sem, Nat.reduceAdd, Nat.reduceLT, Nat.reduceLeDiff, Nat.reduceEqDiff, Nat.reduceBEq, Nat.reduceBNe]
      obtain rfl := Option.some.inj h
      exact atJ (wkn (Jy2) ⟨rfl, rfl, trivial⟩)
    · skip
      have h := ite_f hb4 h
      simp only [go_sem, Nat.reduceAdd, Nat.reduceLT, Nat.reduceLeDiff, Nat.reduceEqDiff, Nat.reduceBEq, Nat.reduceBNe]
      obtain rfl := Option.some.inj h
      exact atJ (wkn (Jy2) ⟨rfl, rfl, trivial⟩)
theorem w_script_reader_number {p0_r : script_reader}   {r : script_reader} (h : script_reader_number p0_r = some r) : ACall Tryz.prog 53 [.ptr 0 0] [some [.str p0_r.c.Name, .sl (some none) (List.map (AV.int .i64) p0_r.c.N), .sl (some none) (List.map enc_api_Val p0_r.c.V), .str p0_r.c.W, .str p0_r.c.S, .sl none (List.map AV.str p0_r.parts), .bool p0_r.wrong]] (.tup []) [some [.str r.c.Name, .sl (some none) (List.map (AV.int .i64) r.c.N), .sl (some none) (List.map enc_api_Val r.c.V), .str r.c.W, .str r.c.S, .sl none (List.map AV.str r.parts), .bool r.wrong]] := by
  refine acallHX 10000 hf53 ok53 (by first | rfl | simp only [go_sem]) meek_tup rfl (by first | rfl | simp only [go_sem, allLt]) ?_
  dsimp only [Tryz.f53, nums, Option.getD, List.append]
  unfold script_reader_number at h
  refine bsome h fun v1 hv1 h => ?_
  simp only [go_sem, Nat.reduceAdd, Nat.reduceLT, Nat.reduceLeDiff, Nat.reduceEqDiff, Nat.reduceBEq, Nat.reduceBNe]
  refine callH_ 10000 [0] (w_script_reader_next  hv1) (by first | rfl | simp only [go_sem]) (by first | rfl | simp only [go_sem]) (by first | rfl | simp only [go_sem]) ?_
  refine bsome h fun v2 hv2 h => ?_
  simp only [go_sem, Nat.reduceAdd, Nat.reduceLT, Nat.reduceLeDiff, Nat.reduceEqDiff, Nat.reduceBEq, Nat.reduceBNe]
  refine callX_ 10000 (w_script_number  hv2) (by first | rfl | simp only [go_sem]) (by first | rfl | simp only [go_sem]) ?_
  simp only [go_sem, Nat.reduceAdd, Nat.reduceLT, Nat.reduceLeDiff, Nat.reduceEqDiff, Nat.reduceBEq, Nat.reduceBNe]
  refine bsome h fun y3 hy3 h => ?_
  refine rgJ 33 10000 (.inl rfl) (fun w => w [(0, .ptr 0 0), (2, .int .i64 v2.1)] [some [.str v1.2.c.Name, .sl (some none) (List.map (AV.int .i64) v1.2.c.N), .sl (some none) (List.map enc_api_Val v1.2.c.V), .str v1.2.c.W, .str v1.2.c.S, .sl none (List.map AV.str v1.2.parts), .bool y3]]) (runX 10000 ?_) (fun Jy3 => ?_)
  · clear hy3
    refine app_s (AV.int .i64) (some none) ⟨3, 1, false, 8⟩ (fun _ => rfl) (by decide) rfl h fun v8 _ (b6 : appc ⟨3, 1, false, 8⟩ (.sl (some none) (List.map (AV.int .i64) v1.2.c.N)) (.sl (some none) [.int .i64 v2.1])) (e7 : appv (.sl (some none) (List.map (AV.int .i64) v1.2.c.N)) (.sl (some none) [.int .i64 v2.1]) = .sl (some none) (List.map (AV.int .i64) v8)) h => ?_
    simp only [go_sem, Nat.reduceAdd, Nat.reduceLT, Nat.reduceLeDiff, Nat.reduceEqDiff, Nat.reduceBEq, Nat.reduceBNe, b6, e7]
    refine atEndF (retH_s (fun x => .tup []) (fun x => [some [.str x.c.Name, .sl (some none) (List.map (AV.int .i64) x.c.N), .sl (some none) (List.map enc_api_Val x.c.V), .str x.c.W, .str x.c.S, .sl none (List.map AV.str x.parts), .bool x.wrong]]) h ?_ ?_)
    · first | rfl | simp only [go_sem, resAV, resAll, resOne]
    · first | rfl | simp only [go_sem, resAV, resAll, resOne]
  · clear h
    have h := hy3
    simp only [go_sem, Nat.reduceAdd, Nat.reduceLT, Nat.reduceLeDiff, Nat.reduceEqDiff, Nat.reduceBEq, Nat.reduceBNe]
    refine grd_ (fun hb5 => ?_) (fun hb5 => ?_)
    · skip
      have h := ite_f hb5 h
      simp only [go_sem, Nat.reduceAdd, Nat.reduceLT, Nat.reduceLeDiff, Nat.reduceEqDiff, Nat.reduceBEq, Nat.reduceBNe]
      obtain rfl := Option.some.inj h
      exact atJ (wkn (Jy3) ⟨rfl, rfl, trivial⟩)
    · skip
      have h := ite_t hb5 h
      simp only [go_sem, Nat.reduceAdd, Nat.reduceLT, Nat.reduceLeDiff, Nat.reduceEqDiff, Nat.reduceBEq, Nat.reduceBNe]
      obtain rfl := Option.some.inj h
      exact atJ (wkn (Jy3) ⟨rfl, rfl, trivial⟩)
theorem w_object_Value {levels : Int} {p1_v : api_Val}   {r : Bool} (h : object_Value levels p1_v = some r) : ACall Tryz.prog 30 [.int .i64 levels, enc_api_Val p1_v] [] (.bool r) [] := by
  refine acallX 10000 hf30 ok30 (by first | rfl | simp only [go_sem]) meek_bool ?_
  dsimp only [Tryz.f30, nums, Option.getD, List.append]
  unfold object_Value at h
  simp only [go_sem, Nat.reduceAdd, Nat.reduceLT, Nat.reduceLeDiff, Nat.reduceEqDiff, Nat.reduceBEq, Nat.reduceBNe]
  refine rgJ 53 10000 (.inl rfl) (fun w => w [(3, .ptr 0 0), (13, .bool ((decide (p1_v.L < 0)) || (decide (levels ≤ p1_v.L))))] [some [.int .u8 p1_v.K, .int .i64 p1_v.N, .int .i64 p1_v.L]]) (runX 10000 ?_) (fun Jg1 => ?_)
  · skip
    simp only [go_sem, Nat.reduceAdd, Nat.reduceLT, Nat.reduceLeDiff, Nat.reduceEqDiff, Nat.reduceBEq, Nat.reduceBNe]
    refine cnd_s 10000 h (fun hb h => ?_) (fun hb h => ?_)
    · skip
      simp only [go_sem, Nat.reduceAdd, Nat.reduceLT, Nat.reduceLeDiff, Nat.reduceEqDiff, Nat.reduceBEq, Nat.reduceBNe]
      refine ret_s (fun x => .bool x) h ?_
      first | rfl | simp only [go_sem, resAV, resAll, resOne]
    · skip
      simp only [go_sem, Nat.reduceAdd, Nat.reduceLT, Nat.reduceLeDiff, Nat.reduceEqDiff, Nat.reduceBEq, Nat.reduceBNe]
      refine blk_ 10000 ?_
      simp only [go_sem, Nat.reduceAdd, Nat.reduceLT, Nat.reduceLeDiff, Nat.reduceEqDiff, Nat.reduceBEq, Nat.reduceBNe]
      refine bsome h fun y2 hy2 h => ?_
      refine cndJ 53 10000 (fun w => w [(3, .ptr 0 0), (15, .int .u8 p1_v.K), (16, .bool y2)] [some [.int .u8 p1_v.K, .int .i64 p1_v.N, .int .i64 p1_v.L]]) (runX 10000 ?_) (fun Jy2 => ?_)
      · clear hy2
        simp only [go_sem, Nat.reduceAdd, Nat.reduceLT, Nat.reduceLeDiff, Nat.reduceEqDiff, Nat.reduceBEq, Nat.reduceBNe]
        refine cnd_s 10000 h (fun hb h => ?_) (fun hb h => ?_)
        · skip
          simp only [go_sem, Nat.reduceAdd, Nat.reduceLT, Nat.reduceLeDiff, Nat.reduceEqDiff, Nat.reduceBEq, Nat.reduceBNe]
          refine ret_s (fun x => .bool x) h ?_
          first | rfl | simp only [go_sem, resAV, resAll, resOne]
        · skip
          simp only [go_sem, Nat.reduceAdd, Nat.reduceLT, Nat.reduceLeDiff, Nat.reduceEqDiff, Nat.reduceBEq, Nat.reduceBNe]
          refine cnd_s 10000 h (fun hb h => ?_) (fun hb h => ?_)
          · skip
            simp only [go_sem, Nat.reduceAdd, Nat.reduceLT, Nat.reduceLeDiff, Nat.reduceEqDiff, Nat.reduceBEq, Nat.reduceBNe]
            refine rgJ 53 10000 (.inl rfl) (fun w => w [(4, .bool ((decide (((-2305843009213693952) : Int) ≤ p1_v.N)) && (decide (p1_v.N ≤ 2305843009213693951))))] [some [.int .u8 p1_v.K, .int .i64 p1_v.N, .int .i64 p1_v.L]]) (runX 10000 ?_) (fun Jg6 => ?_)
            · skip
              simp only [go_sem, Nat.reduceAdd, Nat.reduceLT, Nat.reduceLeDiff, Nat.reduceEqDiff, Nat.reduceBEq, Nat.reduceBNe]
              refine ret_s (fun x => .bool x) h ?_
              first | rfl | simp only [go_sem, resAV, resAll, resOne]
            · skip
              simp only [go_sem, Nat.reduceAdd, Nat.reduceLT, Nat.reduceLeDiff, Nat.reduceEqDiff, Nat.reduceBEq, Nat.reduceBNe]
              refine grd_ (fun hb7 => ?_) (fun hb7 => ?_)
              · skip
                simp only [go_sem, Nat.reduceAdd, Nat.reduceLT, Nat.reduceLeDiff, Nat.reduceEqDiff, Nat.reduceBEq, Nat.reduceBNe]
                exact atJ (wkn Jg6 ⟨congrArg AV.bool (by first | rfl | (rw [hb7]; rfl) | (simp [hb7]; done) | simp_all), trivial⟩)
              · skip
                simp only [go_sem, Nat.reduceAdd, Nat.reduceLT, Nat.reduceLeDiff, Nat.reduceEqDiff, Nat.reduceBEq, Nat.reduceBNe]
                exact atJ (wkn Jg6 ⟨congrArg AV.bool (by first | rfl | (rw [hb7]; rfl) | (simp [hb7]; done) | simp_all), trivial⟩)
          · skip
            simp only [go_sem, Nat.reduceAdd, Nat.reduceLT, Nat.reduceLeDiff, Nat.reduceEqDiff, Nat.reduceBEq, Nat.reduceBNe]
            refine cnd_s 10000 h (fun hb h => ?_) (fun hb h => ?_)
            · skip
              simp only [go_sem, Nat.reduceAdd, Nat.reduceLT, Nat.reduceLeDiff, Nat.reduceEqDiff, Nat.reduceBEq, Nat.reduceBNe]
              refine rgJ 53 10000 (.inl rfl) (fun w => w [(4, .bool ((decide ((0 : Int) ≤ p1_v.N)) && (decide (p1_v.N < 65536))))] [some [.int .u8 p1_v.K, .int .i64 p1_v.N, .int .i64 p1_v.L]]) (runX 10000 ?_) (fun Jg8 => ?_)
              · skip
                simp only [go_sem, Nat.reduceAdd, Nat.reduceLT, Nat.reduceLeDiff, Nat.reduceEqDiff, Nat.reduceBEq, Nat.reduceBNe]
                refine ret_s (fun x => .bool x) h ?_
                first | rfl | simp only [go_sem, resAV, resAll, resOne]
              · skip
                simp only [go_sem, Nat.reduceAdd, Nat.reduceLT, Nat.reduceLeDiff, Nat.reduceEqDiff, Nat.reduceBEq, Nat.reduceBNe]
                refine grd_ (fun hb9 => ?_) (fun hb9 => ?_)
                · skip
                  simp only [go_sem, Nat.reduceAdd, Nat.reduceLT, Nat.reduceLeDiff, Nat.reduceEqDiff, Nat.reduceBEq, Nat.reduceBNe]
                  exact atJ (wkn Jg8 ⟨congrArg AV.bool (by first | rfl | (rw [hb9]; rfl) | (simp [hb9]; done) | simp_all), trivial⟩)
                · skip
                  simp only [go_sem, Nat.reduceAdd, Nat.reduceLT, Nat.reduceLeDiff, Nat.reduceEqDiff, Nat.reduceBEq, Nat.reduceBNe]
                  exact atJ (wkn Jg8 ⟨congrArg AV.bool (by first | rfl | (rw [hb9]; rfl) | (simp [hb9]; done) | simp_all), trivial⟩)
            · skip
              simp only [go_sem, Nat.reduceAdd, Nat.reduceLT, Nat.reduceLeDiff, Nat.reduceEqDiff, Nat.reduceBEq, Nat.reduceBNe]
              refine cnd_s 10000 h (fun hb h => ?_) (fun hb h => ?_)
              · skip
                simp only [go_sem, Nat.reduceAdd, Nat.reduceLT, Nat.reduceLeDiff, Nat.reduceEqDiff, Nat.reduceBEq, Nat.reduceBNe]
                refine rgJ 53 10000 (.inl rfl) (fun w => w [(4, .bool ((decide ((0 : Int) ≤ p1_v.N)) && (decide (p1_v.N < 64))))] [some [.int .u8 p1_v.K, .int .i64 p1_v.N, .int .i64 p1_v.L]]) (runX 10000 ?_) (fun Jg10 => ?_)
                · skip
                  simp only [go_sem, Nat.reduceAdd, Nat.reduceLT, Nat.reduceLeDiff, Nat.reduceEqDiff, Nat.reduceBEq, Nat.reduceBNe]
                  refine ret_s (fun x => .bool x) h ?_
                  first | rfl | simp only [go_sem, resAV, resAll, resOne]
                · skip
                  simp only [go_sem, Nat.reduceAdd, Nat.reduceLT, Nat.reduceLeDiff, Nat.reduceEqDiff, Nat.reduceBEq, Nat.reduceBNe]
                  refine grd_ (fun hb11 => ?_) (fun hb11 => ?_)
                  · skip
                    simp only [go_sem, Nat.reduceAdd, Nat.reduceLT, Nat.reduceLeDiff, Nat.reduceEqDiff, Nat.reduceBEq, Nat.reduceBNe]
                    exact atJ (wkn Jg10 ⟨congrArg AV.bool (by first | rfl | (rw [hb11]; rfl) | (simp [hb11]; done) | simp_all), trivial⟩)
                  · skip
                    simp only [go_sem, Nat.reduceAdd, Nat.reduceLT, Nat.reduceLeDiff, Nat.reduceEqDiff, Nat.reduceBEq, Nat.reduceBNe]
                    exact atJ (wkn Jg10 ⟨congrArg AV.bool (by first | rfl | (rw [hb11]; rfl) | (simp [hb11]; done) | simp_all), trivial⟩)
              · skip
                simp only [go_sem, Nat.reduceAdd, Nat.reduceLT, Nat.reduceLeDiff, Nat.reduceEqDiff, Nat.reduceBEq, Nat.reduceBNe]
                refine ret_s (fun x => .bool x) h ?_
                first | rfl | simp only [go_sem, resAV, resAll, resOne]
      · clear h
        have h := hy2
        refine cnd_s 10000 h (fun hb h => ?_) (fun hb h => ?_)
        · skip
          simp only [go_sem, Nat.reduceAdd, Nat.reduceLT, Nat.reduceLeDiff, Nat.reduceEqDiff, Nat.reduceBEq, Nat.reduceBNe]
          obtain rfl := Option.some.inj h
          exact atJ (wkn (Jy2) ⟨rfl, rfl, rfl, trivial⟩)
        · skip
          simp only [go_sem, Nat.reduceAdd, Nat.reduceLT, Nat.reduceLeDiff, Nat.reduceEqDiff, Nat.reduceBEq, Nat.reduceBNe]
          refine bsome h fun y4 hy4 h => ?_
          refine cndJ 53 10000 (fun w => w [(3, .ptr 0 0), (15, .int .u8 p1_v.K), (16, .bool y4)] [some [.int .u8 p1_v.K, .int .i64 p1_v.N, .int .i64 p1_v.L]]) (runX 10000 ?_) (fun Jy4 => ?_)
          · clear hy4
            simp only [go_sem, Nat.reduceAdd, Nat.reduceLT, Nat.reduceLeDiff, Nat.reduceEqDiff, Nat.reduceBEq, Nat.reduceBNe]
            obtain rfl := Option.some.inj h
            exact atJ (wkn (Jy2) ⟨rfl, rfl, rfl, trivial⟩)
          · clear h
            have h := hy4
            refine cnd_s 10000 h (fun hb h => ?_) (fun hb h => ?_)
            · skip
              simp only [go_sem, Nat.reduceAdd, Nat.reduceLT, Nat.reduceLeDiff, Nat.reduceEqDiff, Nat.reduceBEq, Nat.reduceBNe]
              obtain rfl := Option.some.inj h
              exact atJ (wkn (Jy4) ⟨rfl, rfl, rfl, trivial⟩)
            · skip
              simp only [go_sem, Nat.reduceAdd, Nat.reduceLT, Nat.reduceLeDiff, Nat.reduceEqDiff, Nat.reduceBEq, Nat.reduceBNe]
              obtain rfl := Option.some.inj h
              exact atJ (wkn (Jy4) ⟨rfl, rfl, rfl, trivial⟩)
  · skip
    simp only [go_sem, Nat.reduceAdd, Nat.reduceLT, Nat.reduceLeDiff, Nat.reduceEqDiff, Nat.reduceBEq, Nat.reduceBNe]
    refine grd_ (fun hb12 => ?_) (fun hb12 => ?_)
    · skip
      simp only [go_sem, Nat.reduceAdd, Nat.reduceLT, Nat.reduceLeDiff, Nat.reduceEqDiff, Nat.reduceBEq, Nat.reduceBNe]
      exact atJ (wkn Jg1 ⟨rfl, congrArg AV.bool (by first | rfl | (rw [hb12]; rfl) | (simp [hb12]; done) | simp_all), trivial⟩)
    · skip
      simp only [go_sem, Nat.reduceAdd, Nat.reduceLT, Nat.reduceLeDiff, Nat.reduceEqDiff, Nat.reduceBEq, Nat.reduceBNe]
      exact atJ (wkn Jg1 ⟨rfl, congrArg AV.bool (by first | rfl | (rw [hb12]; rfl) | (simp [hb12]; done) | simp_all), trivial⟩)
theorem w_internal_stringslite_HasPrefix {s : Str} {prefix_ : Str}   {r : Bool} (h : internal_stringslite_HasPrefix s prefix_ = some r) : ACall Tryz.prog 107 [.str s, .str prefix_] [] (.bool r) [] := by
  refine acallX 10000 hf107 ok107 (by first | rfl | simp only [go_sem]) meek_bool ?_
  dsimp only [Tryz.f107, nums, Option.getD, List.append]
  unfold internal_stringslite_HasPrefix at h
  simp only [go_sem, Nat.reduceAdd, Nat.reduceLT, Nat.reduceLeDiff, Nat.reduceEqDiff, Nat.reduceBEq, Nat.reduceBNe]
  refine bsome h fun y1 hy1 h => ?_
  refine rgJ 18 10000 (.inl rfl) (fun w => w [(4, .bool y1)] []) (runX 10000 ?_) (fun Jy1 => ?_)
  · clear hy1
    simp only [go_sem, Nat.reduceAdd, Nat.reduceLT, Nat.reduceLeDiff, Nat.reduceEqDiff, Nat.reduceBEq, Nat.reduceBNe]
    refine ret_s (fun x => .bool x) h ?_
    first | rfl | simp only [go_sem, resAV, resAll, resOne]
  · clear h
    have h := hy1
    simp only [go_sem, Nat.reduceAdd, Nat.reduceLT, Nat.reduceLeDiff, Nat.reduceEqDiff, Nat.reduceBEq, Nat.reduceBNe]
    refine grd_ (fun hb3 => ?_) (fun hb3 => ?_)
    · skip
      have h := ite_t hb3 h
      refine subS_s none (some (.int .i64 (prefix_.length : Int))) rfl rfl h fun v6 _ b4 e5 h => ?_
      simp only [go_sem, Nat.reduceAdd, Nat.reduceLT, Nat.reduceLeDiff, Nat.reduceEqDiff, Nat.reduceBEq, Nat.reduceBNe, b4, e5]
      obtain rfl := Option.some.inj h
      exact atJ (wkn (Jy1) ⟨rfl, trivial⟩)
    · skip
      have h := ite_f hb3 h
      simp only [go_sem, Nat.reduceAdd, Nat.reduceLT, Nat.reduceLeDiff, Nat.reduceEqDiff, Nat.reduceBEq, Nat.reduceBNe]
      obtain rfl := Option.some.inj h
      exact atJ (wkn (Jy1) ⟨rfl, trivial⟩)
theorem w_internal_stringslite_CutPrefix {s : Str} {prefix_ : Str}   {r : (Str × Bool)} (h : internal_stringslite_CutPrefix s prefix_ = some r) : ACall Tryz.prog 103 [.str s, .str prefix_] [] (.tup [.str r.1, .bool r.2]) [] := by
  refine acallX 10000 hf103 ok103 (by first | rfl | simp only [go_sem]) meek_tup ?_
  dsimp only [Tryz.f103, nums, Option.getD, List.append]
  unfold internal_stringslite_CutPrefix at h
  refine bsome h fun v1 hv1 h => ?_
  simp only [go_sem, Nat.reduceAdd, Nat.reduceLT, Nat.reduceLeDiff, Nat.reduceEqDiff, Nat.reduceBEq, Nat.reduceBNe]
  refine callX_ 10000 (w_internal_stringslite_HasPrefix  hv1) (by first | rfl | simp only [go_sem]) (by first | rfl | simp only [go_sem]) ?_
  simp only [go_sem, Nat.reduceAdd, Nat.reduceLT, Nat.reduceLeDiff, Nat.reduceEqDiff, Nat.reduceBEq, Nat.reduceBNe]
  refine cnd_s 10000 h (fun hb h => ?_) (fun hb h => ?_)
  · skip
    simp only [go_sem, Nat.reduceAdd, Nat.reduceLT, Nat.reduceLeDiff, Nat.reduceEqDiff, Nat.reduceBEq, Nat.reduceBNe]
    refine ret_s (fun x => .tup [.str x.1, .bool x.2]) h ?_
    first | rfl | simp only [go_sem, resAV, resAll, resOne]
  · skip
    refine subS_s (some (.int .i64 (prefix_.length : Int))) none rfl rfl h fun v4 _ b2 e3 h => ?_
    simp only [go_sem, Nat.reduceAdd, Nat.reduceLT, Nat.reduceLeDiff, Nat.reduceEqDiff, Nat.reduceBEq, Nat.reduceBNe, b2, e3]
    refine ret_s (fun x => .tup [.str x.1, .bool x.2]) h ?_
    first | rfl | simp only [go_sem, resAV, resAll, resOne]
theorem w_strings_CutPrefix {s : Str} {prefix_ : Str}   {r : (Str × Bool)} (h : strings_CutPrefix s prefix_ = some r) : ACall Tryz.prog 95 [.str s, .str prefix_] [] (.tup [.str r.1, .bool r.2]) [] := by
  refine acallX 10000 hf95 ok95 (by first | rfl | simp only [go_sem]) meek_tup ?_
  dsimp only [Tryz.f95, nums, Option.getD, List.append]
  unfold strings_CutPrefix at h
  refine bsome h fun v1 hv1 h => ?_
  simp only [go_sem, Nat.reduceAdd, Nat.reduceLT, Nat.reduceLeDiff, Nat.reduceEqDiff, Nat.reduceBEq, Nat.reduceBNe]
  refine callX_ 10000 (w_internal_stringslite_CutPrefix  hv1) (by first | rfl | simp only [go_sem]) (by first | rfl | simp only [go_sem]) ?_
  simp only [go_sem, Nat.reduceAdd, Nat.reduceLT, Nat.reduceLeDiff, Nat.reduceEqDiff, Nat.reduceBEq, Nat.reduceBNe]
  refine ret_s (fun x => .tup [.str x.1, .bool x.2]) h ?_
  first | rfl | simp only [go_sem, resAV, resAll, resOne]
theorem w_script_kind {s : Str}   {r : (Int × Int × Bool)} (h : script_kind s = some r) : ACall Tryz.prog 86 [.str s] [] (.tup [.int .u8 r.1, .int .i64 r.2.1, .bool r.2.2]) [] := by
  refine acallX 10000 hf86 ok86 (by first | rfl | simp only [go_sem]) meek_tup ?_
  dsimp only [Tryz.f86, nums, Option.getD, List.append]
  unfold script_kind at h
  simp only [go_sem, Nat.reduceAdd, Nat.reduceLT, Nat.reduceLeDiff, Nat.reduceEqDiff, Nat.reduceBEq, Nat.reduceBNe]
  refine blk_ 10000 ?_
  simp only [go_sem, Nat.reduceAdd, Nat.reduceLT, Nat.reduceLeDiff, Nat.reduceEqDiff, Nat.reduceBEq, Nat.reduceBNe]
  refine cnd_s 10000 h (fun hb h => ?_) (fun hb h => ?_)
  · skip
    simp only [go_sem, Nat.reduceAdd, Nat.reduceLT, Nat.reduceLeDiff, Nat.reduceEqDiff, Nat.reduceBEq, Nat.reduceBNe]
    refine ret_s (fun x => .tup [.int .u8 x.1, .int .i64 x.2.1, .bool x.2.2]) h ?_
    first | rfl | simp only [go_sem, resAV, resAll, resOne]
  · skip
    simp only [go_sem, Nat.reduceAdd, Nat.reduceLT, Nat.reduceLeDiff, Nat.reduceEqDiff, Nat.reduceBEq, Nat.reduceBNe]
    refine cnd_s 10000 h (fun hb h => ?_) (fun hb h => ?_)
    · skip
      simp only [go_sem, Nat.reduceAdd, Nat.reduceLT, Nat.reduceLeDiff, Nat.reduceEqDiff, Nat.reduceBEq, Nat.reduceBNe]
      refine ret_s (fun x => .tup [.int .u8 x.1, .int .i64 x.2.1, .bool x.2.2]) h ?_
      first | rfl | simp only [go_sem, resAV, resAll, resOne]
    · skip
      simp only [go_sem, Nat.reduceAdd, Nat.reduceLT, Nat.reduceLeDiff, Nat.reduceEqDiff, Nat.reduceBEq, Nat.reduceBNe]
      refine cnd_s 10000 h (fun hb h => ?_) (fun hb h => ?_)
      · skip
        simp only [go_sem, Nat.reduceAdd, Nat.reduceLT, Nat.reduceLeDiff, Nat.reduceEqDiff, Nat.reduceBEq, Nat.reduceBNe]
        refine ret_s (fun x => .tup [.int .u8 x.1, .int .i64 x.2.1, .bool x.2.2]) h ?_
        first | rfl | simp only [go_sem, resAV, resAll, resOne]
      · skip
        refine bsome h fun v1 hv1 h => ?_
        simp only [go_sem, Nat.reduceAdd, Nat.reduceLT, Nat.reduceLeDiff, Nat.reduceEqDiff, Nat.reduceBEq, Nat.reduceBNe]
        refine callX_ 10000 (w_strings_CutPrefix  hv1) (by first | rfl | simp only [go_sem]) (by first | rfl | simp only [go_sem]) ?_
        simp only [go_sem, Nat.reduceAdd, Nat.reduceLT, Nat.reduceLeDiff, Nat.reduceEqDiff, Nat.reduceBEq, Nat.reduceBNe]
        refine bsome h fun y2 hy2 h => ?_
        refine cndJ 41 10000 (fun w => w [(0, .str y2.1), (5, .int .u8 y2.2)] []) (runX 10000 ?_) (fun Jy2 => ?_)
        · clear hy2
          refine bsome h fun v7 hv7 h => ?_
          simp only [go_sem, Nat.reduceAdd, Nat.reduceLT, Nat.reduceLeDiff, Nat.reduceEqDiff, Nat.reduceBEq, Nat.reduceBNe]
          refine callX_ 10000 (w_script_number  hv7) (by first | rfl | simp only [go_sem]) (by first | rfl | simp only [go_sem]) ?_
          simp only [go_sem, Nat.reduceAdd, Nat.reduceLT, Nat.reduceLeDiff, Nat.reduceEqDiff, Nat.reduceBEq, Nat.reduceBNe]
          refine ret_s (fun x => .tup [.int .u8 x.1, .int .i64 x.2.1, .bool x.2.2]) h ?_
          first | rfl | simp only [go_sem, resAV, resAll, resOne]
        · clear h
          have h := hy2
          refine cnd_s 10000 h (fun hb h => ?_) (fun hb h => ?_)
          · skip
            simp only [go_sem, Nat.reduceAdd, Nat.reduceLT, Nat.reduceLeDiff, Nat.reduceEqDiff, Nat.reduceBEq, Nat.reduceBNe]
            obtain rfl := Option.some.inj h
            exact atJ (wkn (Jy2) ⟨rfl, rfl, trivial⟩)
          · skip
            refine bsome h fun v4 hv4 h => ?_
            simp only [go_sem, Nat.reduceAdd, Nat.reduceLT, Nat.reduceLeDiff, Nat.reduceEqDiff, Nat.reduceBEq, Nat.reduceBNe]
            refine callX_ 10000 (w_strings_CutPrefix  hv4) (by first | rfl | simp only [go_sem]) (by first | rfl | simp only [go_sem]) ?_
            simp only [go_sem, Nat.reduceAdd, Nat.reduceLT, Nat.reduceLeDiff, Nat.reduceEqDiff, Nat.reduceBEq, Nat.reduceBNe]
            refine bsome h fun y5 hy5 h => ?_
            refine cndJ 41 10000 (fun w => w [(0, .str y5.1), (5, .int .u8 y5.2)] []) (runX 10000 ?_) (fun Jy5 => ?_)
            · clear hy5
              simp only [go_sem, Nat.reduceAdd, Nat.reduceLT, Nat.reduceLeDiff, Nat.reduceEqDiff, Nat.reduceBEq, Nat.reduceBNe]
              obtain rfl := Option.some.inj h
              exact atJ (wkn (Jy2) ⟨rfl, rfl, trivial⟩)
            · clear h
              have h := hy5
              refine cnd_s 10000 h (fun hb h => ?_) (fun hb h => ?_)
              · skip
                simp only [go_sem, Nat.reduceAdd, Nat.reduceLT, Nat.reduceLeDiff, Nat.reduceEqDiff, Nat.reduceBEq, Nat.reduceBNe]
                obtain rfl := Option.some.inj h
                exact atJ (wkn (Jy5) ⟨rfl, rfl, trivial⟩)
              · skip
                simp only [go_sem, Nat.reduceAdd, Nat.reduceLT, Nat.reduceLeDiff, Nat.reduceEqDiff, Nat.reduceBEq, Nat.reduceBNe]
                obtain rfl := Option.some.inj h
                exact atJ (wkn (Jy5) ⟨rfl, rfl, trivial⟩)
theorem w_script_value {s : Str}   {r : (api_Val × Bool)} (h : script_value s = some r) : ACall Tryz.prog 72 [.str s] [] (.tup [enc_api_Val r.1, .bool r.2]) [] := by
  refine acallX 10000 hf72 ok72 (by first | rfl | simp only [go_sem]) meek_tup ?_
  dsimp only [Tryz.f72, nums, Option.getD, List.append]
  unfold script_value at h
  refine bsome h fun v1 hv1 h => ?_
  simp only [go_sem, Nat.reduceAdd, Nat.reduceLT, Nat.reduceLeDiff, Nat.reduceEqDiff, Nat.reduceBEq, Nat.reduceBNe]
  refine callX_ 10000 (w_strings_Cut  hv1) (by first | rfl | simp only [go_sem]) (by first | rfl | simp only [go_sem]) ?_
  refine bsome h fun v2 hv2 h => ?_
  simp only [go_sem, Nat.reduceAdd, Nat.reduceLT, Nat.reduceLeDiff, Nat.reduceEqDiff, Nat.reduceBEq, Nat.reduceBNe]
  refine callX_ 10000 (w_script_kind  hv2) (by first | rfl | simp only [go_sem]) (by first | rfl | simp only [go_sem]) ?_
  refine bsome h fun v3 hv3 h => ?_
  simp only [go_sem, Nat.reduceAdd, Nat.reduceLT, Nat.reduceLeDiff, Nat.reduceEqDiff, Nat.reduceBEq, Nat.reduceBNe]
  refine callX_ 10000 (w_script_number  hv3) (by first | rfl | simp only [go_sem]) (by first | rfl | simp only [go_sem]) ?_
  simp only [go_sem, Nat.reduceAdd, Nat.reduceLT, Nat.reduceLeDiff, Nat.reduceEqDiff, Nat.reduceBEq, Nat.reduceBNe]
  refine bsome h fun y4 hy4 h => ?_
  refine rgJ 46 10000 (.inr ⟨[(2, 0), (12, 1)], by kernel_rfl, by kernel_rfl, by rfl⟩) (fun w => w [(2, .ptr 0 0), (3, .bool y4)] [some [.int .u8 v2.1, .int .i64 v2.2.1, .int .i64 v3.1], some [.int .u8 v2.1, .int .i64 v2.2.1, .int .i64 v3.1]]) (runX 10000 ?_) (fun Jy4 => ?_)
  · clear hy4
    simp only [go_sem, Nat.reduceAdd, Nat.reduceLT, Nat.reduceLeDiff, Nat.reduceEqDiff, Nat.reduceBEq, Nat.reduceBNe]
    refine ret_s (fun x => .tup [enc_api_Val x.1, .bool x.2]) h ?_
    first | rfl | simp only [go_sem, resAV, resAll, resOne]
  · clear h
    have h := hy4
    simp only [go_sem, Nat.reduceAdd, Nat.reduceLT, Nat.reduceLeDiff, Nat.reduceEqDiff, Nat.reduceBEq, Nat.reduceBNe]
    refine grd_ (fun hb6 => ?_) (fun hb6 => ?_)
    · skip
      have h := ite_t hb6 h
      simp only [go_sem, Nat.reduceAdd, Nat.reduceLT, Nat.reduceLeDiff, Nat.reduceEqDiff, Nat.reduceBEq, Nat.reduceBNe]
      refine grd_ (fun hb7 => ?_) (fun hb7 => ?_)
      · skip
        have h := ite_t hb7 h
        simp only [go_sem, Nat.reduceAdd, Nat.reduceLT, Nat.reduceLeDiff, Nat.reduceEqDiff, Nat.reduceBEq, Nat.reduceBNe]
        refine grd_ (fun hb8 => ?_) (fun hb8 => ?_)
        · skip
          have h := ite_t hb8 h
          refine bsome h fun v9 hv9 h => ?_
          simp only [go_sem, Nat.reduceAdd, Nat.reduceLT, Nat.reduceLeDiff, Nat.reduceEqDiff, Nat.reduceBEq, Nat.reduceBNe]
          refine callX_ 10000 (w_object_Value  hv9) (by first | rfl | simp only [go_sem]) (by first | rfl | simp only [go_sem]) ?_
          simp only [go_sem, Nat.reduceAdd, Nat.reduceLT, Nat.reduceLeDiff, Nat.reduceEqDiff, Nat.reduceBEq, Nat.reduceBNe]
          obtain rfl := Option.some.inj h
          exact atJ (wkn (Jy4) ⟨rfl, rfl, trivial⟩)
        · skip
          have h := ite_f hb8 h
          simp only [go_sem, Nat.reduceAdd, Nat.reduceLT, Nat.reduceLeDiff, Nat.reduceEqDiff, Nat.reduceBEq, Nat.reduceBNe]
          obtain rfl := Option.some.inj h
          exact atJ (wkn (Jy4) ⟨rfl, rfl, trivial⟩)
      · skip
        have h := ite_f hb7 h
        simp only [go_sem, Nat.reduceAdd, Nat.reduceLT, Nat.reduceLeDiff, Nat.reduceEqDiff, Nat.reduceBEq, Nat.reduceBNe]
        obtain rfl := Option.some.inj h
        exact atJ (wkn (Jy4) ⟨rfl, rfl, trivial⟩)
    · skip
      have h := ite_f hb6 h
      simp only [go_sem, Nat.reduceAdd, Nat.reduceLT, Nat.reduceLeDiff, Nat.reduceEqDiff, Nat.reduceBEq, Nat.reduceBNe]
      obtain rfl := Option.some.inj h
      exact atJ (wkn (Jy4) ⟨rfl, rfl, trivial⟩)
theorem w_script_reader_value {p0_r : script_reader}   {r : script_reader} (h : script_reader_value p0_r = some r) : ACall Tryz.prog 54 [.ptr 0 0] [some [.str p0_r.c.Name, .sl (some none) (List.map (AV.int .i64) p0_r.c.N), .sl (some none) (List.map enc_api_Val p0_r.c.V), .str p0_r.c.W, .str p0_r.c.S, .sl none (List.map AV.str p0_r.parts), .bool p0_r.wrong]] (.tup []) [some [.str r.c.Name, .sl (some none) (List.map (AV.int .i64) r.c.N), .sl (some none) (List.map enc_api_Val r.c.V), .str r.c.W, .str r.c.S, .sl none (List.map AV.str r.parts), .bool r.wrong]] := by
  refine acallHX 10000 hf54 ok54 (by first | rfl | simp only [go_sem]) meek_tup rfl (by first | rfl | simp only [go_sem, allLt]) ?_
  dsimp only [Tryz.f54, nums, Option.getD, List.append]
  unfold script_reader_value at h
  refine bsome h fun v1 hv1 h => ?_
  simp only [go_sem, Nat.reduceAdd, Nat.reduceLT, Nat.reduceLeDiff, Nat.reduceEqDiff, Nat.reduceBEq, Nat.reduceBNe]
  refine callH_ 10000 [0] (w_script_reader_next  hv1) (by first | rfl | simp only [go_sem]) (by first | rfl | simp only [go_sem]) (by first | rfl | simp only [go_sem]) ?_
  refine bsome h fun v2 hv2 h => ?_
  simp only [go_sem, Nat.reduceAdd, Nat.reduceLT, Nat.reduceLeDiff, Nat.reduceEqDiff, Nat.reduceBEq, Nat.reduceBNe]
  refine callX_ 10000 (w_script_value  hv2) (by first | rfl | simp only [go_sem]) (by first | rfl | simp only [go_sem]) ?_
  simp only [go_sem, Nat.reduceAdd, Nat.reduceLT, Nat.reduceLeDiff, Nat.reduceEqDiff, Nat.reduceBEq, Nat.reduceBNe]
  refine bsome h fun y3 hy3 h => ?_
  refine rgJ 33 10000 (.inl rfl) (fun w => w [(0, .ptr 0 0), (2, .ptr 1 0)] [some [.str v1.2.c.Name, .sl (some none) (List.map (AV.int .i64) v1.2.c.N), .sl (some none) (List.map enc_api_Val v1.2.c.V), .str v1.2.c.W, .str v1.2.c.S, .sl none (List.map AV.str v1.2.parts), .bool y3], some [.int .u8 v2.1.K, .int .i64 v2.1.N, .int .i64 v2.1.L]]) (runX 10000 ?_) (fun Jy3 => ?_)
  · clear hy3
    simp only [go_sem, Nat.reduceAdd, Nat.reduceLT, Nat.reduceLeDiff, Nat.reduceEqDiff, Nat.reduceBEq, Nat.reduceBNe]
    refine rg_ 10000 (.inr ⟨[(0, 0), (2, 1), (21, 0), (22, 0), (23, 0), (24, 0), (25, 0), (30, 0), (31, 0), (32, 0)], by kernel_rfl, by kernel_rfl, by rfl⟩) ?_
    refine app_s enc_api_Val (some none) ⟨52, 3, true, 24⟩ (fun _ => rfl) (by decide) rfl h fun v8 _ (b6 : appc ⟨52, 3, true, 24⟩ (.sl (some none) (List.map enc_api_Val v1.2.c.V)) (.sl (some none) [.agg [.int .u8 v2.1.K, .int .i64 v2.1.N, .int .i64 v2.1.L]])) (e7 : appv (.sl (some none) (List.map enc_api_Val v1.2.c.V)) (.sl (some none) [.agg [.int .u8 v2.1.K, .int .i64 v2.1.N, .int .i64 v2.1.L]]) = .sl (some none) (List.map enc_api_Val v8)) h => ?_
    simp only [go_sem, Nat.reduceAdd, Nat.reduceLT, Nat.reduceLeDiff, Nat.reduceEqDiff, Nat.reduceBEq, Nat.reduceBNe, b6, e7]
    refine atEndF (retH_s (fun x => .tup []) (fun x => [some [.str x.c.Name, .sl (some none) (List.map (AV.int .i64) x.c.N), .sl (some none) (List.map enc_api_Val x.c.V), .str x.c.W, .str x.c.S, .sl none (List.map AV.str x.parts), .bool x.wrong]]) h ?_ ?_)
    · first | rfl | simp only [go_sem, resAV, resAll, resOne]
    · first | rfl | simp only [go_sem, resAV, resAll, resOne]
  · clear h
    have h := hy3
    simp only [go_sem, Nat.reduceAdd, Nat.reduceLT, Nat.reduceLeDiff, Nat.reduceEqDiff, Nat.reduceBEq, Nat.reduceBNe]
    refine grd_ (fun hb5 => ?_) (fun hb5 => ?_)
    · skip
      have h := ite_f hb5 h
      simp only [go_sem, Nat.reduceAdd, Nat.reduceLT, Nat.reduceLeDiff, Nat.reduceEqDiff, Nat.reduceBEq, Nat.reduceBNe]
      obtain rfl := Option.some.inj h
      exact atJ (wkn (Jy3) ⟨rfl, rfl, trivial⟩)
    · skip
      have h := ite_t hb5 h
      simp only [go_sem, Nat.reduceAdd, Nat.reduceLT, Nat.reduceLeDiff, Nat.reduceEqDiff, Nat.reduceBEq, Nat.reduceBNe]
      obtain rfl := Option.some.inj h
      exact atJ (wkn (Jy3) ⟨rfl, rfl, trivial⟩)
theorem w_script_reader_part {p0_r : script_reader} {k : Int}   {r : script_reader} (h : script_reader_part p0_r k = some r) : ACall Tryz.prog 35 [.ptr 0 0, .int .i32 k] [some [.str p0_r.c.Name, .sl (some none) (List.map (AV.int .i64) p0_r.c.N), .sl (some none) (List.map enc_api_Val p0_r.c.V), .str p0_r.c.W, .str p0_r.c.S, .sl none (List.map AV.str p0_r.parts), .bool p0_r.wrong]] (.tup []) [some [.str r.c.Name, .sl (some none) (List.map (AV.int .i64) r.c.N), .sl (some none) (List.map enc_api_Val r.c.V), .str r.c.W, .str r.c.S, .sl none (List.map AV.str r.parts), .bool r.wrong]] := by
  refine acallHX 10000 hf35 ok35 (by first | rfl | simp only [go_sem]) meek_tup rfl (by first | rfl | simp only [go_sem, allLt]) ?_
  dsimp only [Tryz.f35, nums, Option.getD, List.append]
  unfold script_reader_part at h
  simp only [go_sem, Nat.reduceAdd, Nat.reduceLT, Nat.reduceLeDiff, Nat.reduceEqDiff, Nat.reduceBEq, Nat.reduceBNe]
  refine blk_ 10000 ?_
  simp only [go_sem, Nat.reduceAdd, Nat.reduceLT, Nat.reduceLeDiff, Nat.reduceEqDiff, Nat.reduceBEq, Nat.reduceBNe]
  refine bsome h fun y1 hy1 h => ?_
  refine cndJ 86 10000 (fun w => w [] [some [.str y1.c.Name, .sl (some none) (List.map (AV.int .i64) y1.c.N), .sl (some none) (List.map enc_api_Val y1.c.V), .str y1.c.W, .str y1.c.S, .sl none (List.map AV.str y1.parts), .bool y1.wrong]]) (runX 10000 ?_) (fun Jy1 => ?_)
  · clear hy1
    simp only [go_sem, Nat.reduceAdd, Nat.reduceLT, Nat.reduceLeDiff, Nat.reduceEqDiff, Nat.reduceBEq, Nat.reduceBNe]
    refine atEndF (retH_s (fun x => .tup []) (fun x => [some [.str x.c.Name, .sl (some none) (List.map (AV.int .i64) x.c.N), .sl (some none) (List.map enc_api_Val x.c.V), .str x.c.W, .str x.c.S, .sl none (List.map AV.str x.parts), .bool x.wrong]]) h ?_ ?_)
    · first | rfl | simp only [go_sem, resAV, resAll, resOne]
    · first | rfl | simp only [go_sem, resAV, resAll, resOne]
  · clear h
    have h := hy1
    refine cnd_s 10000 h (fun hb h => ?_) (fun hb h => ?_)
    · skip
      refine bsome h fun v3 hv3 h => ?_
      simp only [go_sem, Nat.reduceAdd, Nat.reduceLT, Nat.reduceLeDiff, Nat.reduceEqDiff, Nat.reduceBEq, Nat.reduceBNe]
      refine callH_ 10000 [0] (w_script_reader_number  hv3) (by first | rfl | simp only [go_sem]) (by first | rfl | simp only [go_sem]) (by first | rfl | simp only [go_sem]) ?_
      simp only [go_sem, Nat.reduceAdd, Nat.reduceLT, Nat.reduceLeDiff, Nat.reduceEqDiff, Nat.reduceBEq, Nat.reduceBNe]
      obtain rfl := Option.some.inj h
      exact atJ (wkn (Jy1) trivial)
    · skip
      simp only [go_sem, Nat.reduceAdd, Nat.reduceLT, Nat.reduceLeDiff, Nat.reduceEqDiff, Nat.reduceBEq, Nat.reduceBNe]
      refine bsome h fun y4 hy4 h => ?_
      refine cndJ 86 10000 (fun w => w [] [some [.str y4.c.Name, .sl (some none) (List.map (AV.int .i64) y4.c.N), .sl (some none) (List.map enc_api_Val y4.c.V), .str y4.c.W, .str y4.c.S, .sl none (List.map AV.str y4.parts), .bool y4.wrong]]) (runX 10000 ?_) (fun Jy4 => ?_)
      · clear hy4
        simp only [go_sem, Nat.reduceAdd, Nat.reduceLT, Nat.reduceLeDiff, Nat.reduceEqDiff, Nat.reduceBEq, Nat.reduceBNe]
        obtain rfl := Option.some.inj h
        exact atJ (wkn (Jy1) trivial)
      · clear h
        have h := hy4
        refine cnd_s 10000 h (fun hb h => ?_) (fun hb h => ?_)
        · skip
          simp only [go_sem, Nat.reduceAdd, Nat.reduceLT, Nat.reduceLeDiff, Nat.reduceEqDiff, Nat.reduceBEq, Nat.reduceBNe]
          refine bsome h fun y6 hy6 h => ?_
          refine blkJ 86 10000 (fun w => w [] [some [.str y6.c.Name, .sl (some none) (List.map (AV.int .i64) y6.c.N), .sl (some none) (List.map enc_api_Val y6.c.V), .str y6.c.W, .str y6.c.S, .sl none (List.map AV.str y6.parts), .bool y6.wrong]]) (runX 10000 ?_) (fun Jy6 => ?_)
          · clear hy6
            simp only [go_sem, Nat.reduceAdd, Nat.reduceLT, Nat.reduceLeDiff, Nat.reduceEqDiff, Nat.reduceBEq, Nat.reduceBNe]
            obtain rfl := Option.some.inj h
            exact atJ (wkn (Jy4) trivial)
          · clear h
            have h := hy6
            simp only [go_sem, Nat.reduceAdd, Nat.reduceLT, Nat.reduceLeDiff, Nat.reduceEqDiff, Nat.reduceBEq, Nat.reduceBNe]
            refine lpJ 86 fuel (fun q1 w => ∀ (v9 : script_reader), script_reader_part_l1  q1 v9 = some y6 → w [(0, .ptr 0 0)] [some [.str v9.c.Name, .sl (some none) (List.map (AV.int .i64) v9.c.N), .sl (some none) (List.map enc_api_Val v9.c.V), .str v9.c.W, .str v9.c.S, .sl none (List.map AV.str v9.parts), .bool v9.wrong]]) (fun w _ h => nomatch h) (fun q1 ih1 v9 h => ?_) (fun L1 => ?_)
            · unfold script_reader_part_l1 at h
              refine runL 10000 ?_
              simp only [go_sem, Nat.reduceAdd, Nat.reduceLT, Nat.reduceLeDiff, Nat.reduceEqDiff, Nat.reduceBEq, Nat.reduceBNe]
              refine cnd_s 10000 h (fun hb h => ?_) (fun hb h => ?_)
              · skip
                simp only [go_sem, Nat.reduceAdd, Nat.reduceLT, Nat.reduceLeDiff, Nat.reduceEqDiff, Nat.reduceBEq, Nat.reduceBNe]
                refine blk_ 10000 ?_
                refine bsome h fun v10 hv10 h => ?_
                simp only [go_sem, Nat.reduceAdd, Nat.reduceLT, Nat.reduceLeDiff, Nat.reduceEqDiff, Nat.reduceBEq, Nat.reduceBNe]
                refine callH_ 10000 [0] (w_script_reader_number  hv10) (by first | rfl | simp only [go_sem]) (by first | rfl | simp only [go_sem]) (by first | rfl | simp only [go_sem]) ?_
                simp only [go_sem, Nat.reduceAdd, Nat.reduceLT, Nat.reduceLeDiff, Nat.reduceEqDiff, Nat.reduceBEq, Nat.reduceBNe]
                exact lp_back (ih1 v10 h) ⟨rfl, trivial⟩
              · skip
                simp only [go_sem, Nat.reduceAdd, Nat.reduceLT, Nat.reduceLeDiff, Nat.reduceEqDiff, Nat.reduceBEq, Nat.reduceBNe]
                obtain rfl := Option.some.inj h
                exact atJ (wkn (Jy6) trivial)
            · exact lp_back (L1 p0_r h) ⟨rfl, trivial⟩
        · skip
          simp only [go_sem, Nat.reduceAdd, Nat.reduceLT, Nat.reduceLeDiff, Nat.reduceEqDiff, Nat.reduceBEq, Nat.reduceBNe]
          refine bsome h fun y11 hy11 h => ?_
          refine cndJ 86 10000 (fun w => w [] [some [.str y11.c.Name, .sl (some none) (List.map (AV.int .i64) y11.c.N), .sl (some none) (List.map enc_api_Val y11.c.V), .str y11.c.W, .str y11.c.S, .sl none (List.map AV.str y11.parts), .bool y11.wrong]]) (runX 10000 ?_) (fun Jy11 => ?_)
          · clear hy11
            simp only [go_sem, Nat.reduceAdd, Nat.reduceLT, Nat.reduceLeDiff, Nat.reduceEqDiff, Nat.reduceBEq, Nat.reduceBNe]
            obtain rfl := Option.some.inj h
            exact atJ (wkn (Jy4) trivial)
          · clear h
            have h := hy11
            refine cnd_s 10000 h (fun hb h => ?_) (fun hb h => ?_)
            · skip
              refine bsome h fun v13 hv13 h => ?_
              simp only [go_sem, Nat.reduceAdd, Nat.reduceLT, Nat.reduceLeDiff, Nat.reduceEqDiff, Nat.reduceBEq, Nat.reduceBNe]
              refine callH_ 10000 [0] (w_script_reader_value  hv13) (by first | rfl | simp only [go_sem]) (by first | rfl | simp only [go_sem]) (by first | rfl | simp only [go_sem]) ?_
              simp only [go_sem, Nat.reduceAdd, Nat.reduceLT, Nat.reduceLeDiff, Nat.reduceEqDiff, Nat.reduceBEq, Nat.reduceBNe]
              obtain rfl := Option.some.inj h
              exact atJ (wkn (Jy11) trivial)
            · skip
              simp only [go_sem, Nat.reduceAdd, Nat.reduceLT, Nat.reduceLeDiff, Nat.reduceEqDiff, Nat.reduceBEq, Nat.reduceBNe]
              refine bsome h fun y14 hy14 h => ?_
              refine cndJ 86 10000 (fun w => w [] [some [.str y14.c.Name, .sl (some none) (List.map (AV.int .i64) y14.c.N), .sl (some none) (List.map enc_api_Val y14.c.V), .str y14.c.W, .str y14.c.S, .sl none (List.map AV.str y14.parts), .bool y14.wrong]]) (runX 10000 ?_) (fun Jy14 => ?_)
              · clear hy14
                simp only [go_sem, Nat.reduceAdd, Nat.reduceLT, Nat.reduceLeDiff, Nat.reduceEqDiff, Nat.reduceBEq, Nat.reduceBNe]
                obtain rfl := Option.some.inj h
                exact atJ (wkn (Jy11) trivial)
              · clear h
                have h := hy14
                refine cnd_s 10000 h (fun hb h => ?_) (fun hb h => ?_)
                · skip
                  simp only [go_sem, Nat.reduceAdd, Nat.reduceLT, Nat.reduceLeDiff, Nat.reduceEqDiff, Nat.reduceBEq, Nat.reduceBNe]
                  refine bsome h fun y16 hy16 h => ?_
                  refine blkJ 86 10000 (fun w => w [] [some [.str y16.c.Name, .sl (some none) (List.map (AV.int .i64) y16.c.N), .sl (some none) (List.map enc_api_Val y16.c.V), .str y16.c.W, .str y16.c.S, .sl none (List.map AV.str y16.parts), .bool y16.wrong]]) (runX 10000 ?_) (fun Jy16 => ?_)
                  · clear hy16
                    simp only [go_sem, Nat.reduceAdd, Nat.reduceLT, Nat.reduceLeDiff, Nat.reduceEqDiff, Nat.reduceBEq, Nat.reduceBNe]
                    obtain rfl := Option.some.inj h
                    exact atJ (wkn (Jy14) trivial)
                  · clear h
                    have h := hy16
                    simp only [go_sem, Nat.reduceAdd, Nat.reduceLT, Nat.reduceLeDiff, Nat.reduceEqDiff, Nat.reduceBEq, Nat.reduceBNe]
                    refine lpJ 86 fuel (fun q2 w => ∀ (v19 : script_reader), script_reader_part_l2  q2 v19 = some y16 → w [(0, .ptr 0 0)] [some [.str v19.c.Name, .sl (some none) (List.map (AV.int .i64) v19.c.N), .sl (some none) (List.map enc_api_Val v19.c.V), .str v19.c.W, .str v19.c.S, .sl none (List.map AV.str v19.parts), .bool v19.wrong]]) (fun w _ h => nomatch h) (fun q2 ih2 v19 h => ?_) (fun L2 => ?_)
                    · unfold script_reader_part_l2 at h
                      refine runL 10000 ?_
                      simp only [go_sem, Nat.reduceAdd, Nat.reduceLT, Nat.reduceLeDiff, Nat.reduceEqDiff, Nat.reduceBEq, Nat.reduceBNe]
                      refine cnd_s 10000 h (fun hb h => ?_) (fun hb h => ?_)
                      · skip
                        simp only [go_sem, Nat.reduceAdd, Nat.reduceLT, Nat.reduceLeDiff, Nat.reduceEqDiff, Nat.reduceBEq, Nat.reduceBNe]
                        refine blk_ 10000 ?_
                        refine bsome h fun v20 hv20 h => ?_
                        simp only [go_sem, Nat.reduceAdd, Nat.reduceLT, Nat.reduceLeDiff, Nat.reduceEqDiff, Nat.reduceBEq, Nat.reduceBNe]
                        refine callH_ 10000 [0] (w_script_reader_value  hv20) (by first | rfl | simp only [go_sem]) (by first | rfl | simp only [go_sem]) (by first | rfl | simp only [go_sem]) ?_
                        simp only [go_sem, Nat.reduceAdd, Nat.reduceLT, Nat.reduceLeDiff, Nat.reduceEqDiff, Nat.reduceBEq, Nat.reduceBNe]
                        exact lp_back (ih2 v20 h) ⟨rfl, trivial⟩
                      · skip
                        simp only [go_sem, Nat.reduceAdd, Nat.reduceLT, Nat.reduceLeDiff, Nat.reduceEqDiff, Nat.reduceBEq, Nat.reduceBNe]
                        obtain rfl := Option.some.inj h
                        exact atJ (wkn (Jy16) trivial)
                    · exact lp_back (L2 p0_r h) ⟨rfl, trivial⟩
                · skip
                  simp only [go_sem, Nat.reduceAdd, Nat.reduceLT, Nat.reduceLeDiff, Nat.reduceEqDiff, Nat.reduceBEq, Nat.reduceBNe]
                  refine bsome h fun y21 hy21 h => ?_
                  refine cndJ 86 10000 (fun w => w [] [some [.str y21.c.Name, .sl (some none) (List.map (AV.int .i64) y21.c.N), .sl (some none) (List.map enc_api_Val y21.c.V), .str y21.c.W, .str y21.c.S, .sl none (List.map AV.str y21.parts), .bool y21.wrong]]) (runX 10000 ?_) (fun Jy21 => ?_)
                  · clear hy21
                    simp only [go_sem, Nat.reduceAdd, Nat.reduceLT, Nat.reduceLeDiff, Nat.reduceEqDiff, Nat.reduceBEq, Nat.reduceBNe]
                    obtain rfl := Option.some.inj h
                    exact atJ (wkn (Jy14) trivial)
                  · clear h
                    have h := hy21
                    refine cnd_s 10000 h (fun hb h => ?_) (fun hb h => ?_)
                    · skip
                      refine bsome h fun v23 hv23 h => ?_
                      simp only [go_sem, Nat.reduceAdd, Nat.reduceLT, Nat.reduceLeDiff, Nat.reduceEqDiff, Nat.reduceBEq, Nat.reduceBNe]
                      refine callH_ 10000 [0] (w_script_reader_next  hv23) (by first | rfl | simp only [go_sem]) (by first | rfl | simp only [go_sem]) (by first | rfl | simp only [go_sem]) ?_
                      simp only [go_sem, Nat.reduceAdd, Nat.reduceLT, Nat.reduceLeDiff, Nat.reduceEqDiff, Nat.reduceBEq, Nat.reduceBNe]
                      refine bsome h fun y24 hy24 h => ?_
                      refine rgJ 86 10000 (.inl rfl) (fun w => w [] [some [.str v23.2.c.Name, .sl (some none) (List.map (AV.int .i64) v23.2.c.N), .sl (some none) (List.map enc_api_Val v23.2.c.V), .str v23.1, .str v23.2.c.S, .sl none (List.map AV.str v23.2.parts), .bool y24]]) (runX 10000 ?_) (fun Jy24 => ?_)
                      · clear hy24
                        simp only [go_sem, Nat.reduceAdd, Nat.reduceLT, Nat.reduceLeDiff, Nat.reduceEqDiff, Nat.reduceBEq, Nat.reduceBNe]
                        obtain rfl := Option.some.inj h
                        exact atJ (wkn (Jy21) trivial)
                      · clear h
                        have h := hy24
                        simp only [go_sem, Nat.reduceAdd, Nat.reduceLT, Nat.reduceLeDiff, Nat.reduceEqDiff, Nat.reduceBEq, Nat.reduceBNe]
                        refine grd_ (fun hb26 => ?_) (fun hb26 => ?_)
                        · skip
                          have h := ite_f hb26 h
                          refine bsome h fun v27 hv27 h => ?_
                          simp only [go_sem, Nat.reduceAdd, Nat.reduceLT, Nat.reduceLeDiff, Nat.reduceEqDiff, Nat.reduceBEq, Nat.reduceBNe]
                          refine callX_ 10000 (w_script_worded  hv27) (by first | rfl | simp only [go_sem]) (by first | rfl | simp only [go_sem]) ?_
                          simp only [go_sem, Nat.reduceAdd, Nat.reduceLT, Nat.reduceLeDiff, Nat.reduceEqDiff, Nat.reduceBEq, Nat.reduceBNe]
                          obtain rfl := Option.some.inj h
                          exact atJ (wkn (Jy24) trivial)
                        · skip
                          have h := ite_t hb26 h
                          simp only [go_sem, Nat.reduceAdd, Nat.reduceLT, Nat.reduceLeDiff, Nat.reduceEqDiff, Nat.reduceBEq, Nat.reduceBNe]
                          obtain rfl := Option.some.inj h
                          exact atJ (wkn (Jy24) trivial)
                    · skip
                      simp only [go_sem, Nat.reduceAdd, Nat.reduceLT, Nat.reduceLeDiff, Nat.reduceEqDiff, Nat.reduceBEq, Nat.reduceBNe]
                      refine bsome h fun y28 hy28 h => ?_
                      refine cndJ 86 10000 (fun w => w [] [some [.str y28.c.Name, .sl (some none) (List.map (AV.int .i64) y28.c.N), .sl (some none) (List.map enc_api_Val y28.c.V), .str y28.c.W, .str y28.c.S, .sl none (List.map AV.str y28.parts), .bool y28.wrong]]) (runX 10000 ?_) (fun Jy28 => ?_)
                      · clear hy28
                        simp only [go_sem, Nat.reduceAdd, Nat.reduceLT, Nat.reduceLeDiff, Nat.reduceEqDiff, Nat.reduceBEq, Nat.reduceBNe]
                        obtain rfl := Option.some.inj h
                        exact atJ (wkn (Jy21) trivial)
                      · clear h
                        have h := hy28
                        refine cnd_s 10000 h (fun hb h => ?_) (fun hb h => ?_)
                        · skip
                          simp only [go_sem, Nat.reduceAdd, Nat.reduceLT, Nat.reduceLeDiff, Nat.reduceEqDiff, Nat.reduceBEq, Nat.reduceBNe]
                          refine bsome h fun y30 hy30 h => ?_
                          refine rgJ 86 10000 (.inl rfl) (fun w => w [(0, .ptr 0 0)] [some [.str p0_r.c.Name, .sl (some none) (List.map (AV.int .i64) p0_r.c.N), .sl (some none) (List.map enc_api_Val p0_r.c.V), .str p0_r.c.W, .str p0_r.c.S, .sl none (List.map AV.str p0_r.parts), .bool y30]]) (runX 10000 ?_) (fun Jy30 => ?_)
                          · clear hy30
                            refine bsome h fun v33 hv33 h => ?_
                            simp only [go_sem, Nat.reduceAdd, Nat.reduceLT, Nat.reduceLeDiff, Nat.reduceEqDiff, Nat.reduceBEq, Nat.reduceBNe]
                            refine callX_ 10000 (w_strings_Join  hv33) (by first | rfl | simp only [go_sem]) (by first | rfl | simp only [go_sem]) ?_
                            simp only [go_sem, Nat.reduceAdd, Nat.reduceLT, Nat.reduceLeDiff, Nat.reduceEqDiff, Nat.reduceBEq, Nat.reduceBNe]
                            obtain rfl := Option.some.inj h
                            exact atJ (wkn (Jy28) trivial)
                          · clear h
                            have h := hy30
                            simp only [go_sem, Nat.reduceAdd, Nat.reduceLT, Nat.reduceLeDiff, Nat.reduceEqDiff, Nat.reduceBEq, Nat.reduceBNe]
                            refine grd_ (fun hb32 => ?_) (fun hb32 => ?_)
                            · skip
                              have h := ite_f hb32 h
                              simp only [go_sem, Nat.reduceAdd, Nat.reduceLT, Nat.reduceLeDiff, Nat.reduceEqDiff, Nat.reduceBEq, Nat.reduceBNe]
                              obtain rfl := Option.some.inj h
                              exact atJ (wkn (Jy30) ⟨rfl, trivial⟩)
                            · skip
                              have h := ite_t hb32 h
                              simp only [go_sem, Nat.reduceAdd, Nat.reduceLT, Nat.reduceLeDiff, Nat.reduceEqDiff, Nat.reduceBEq, Nat.reduceBNe]
                              obtain rfl := Option.some.inj h
                              exact atJ (wkn (Jy30) ⟨rfl, trivial⟩)
                        · skip
                          simp only [go_sem, Nat.reduceAdd, Nat.reduceLT, Nat.reduceLeDiff, Nat.reduceEqDiff, Nat.reduceBEq, Nat.reduceBNe]
                          obtain rfl := Option.some.inj h
                          exact atJ (wkn (Jy28) trivial)
theorem w_script_command {s : Str}   {r : (script_Command × Bool)} (h : script_command s = some r) : ACall Tryz.prog 20 [.str s] [] (.tup [enc_script_Command r.1, .bool r.2]) [] := by
  refine acallX 10000 hf20 ok20 (by first | rfl | simp only [go_sem]) meek_tup ?_
  dsimp only [Tryz.f20, nums, Option.getD, List.append]
  unfold script_command at h
  refine bsome h fun v1 hv1 h => ?_
  simp only [go_sem, Nat.reduceAdd, Nat.reduceLT, Nat.reduceLeDiff, Nat.reduceEqDiff, Nat.reduceBEq, Nat.reduceBNe]
  refine callX_ 10000 (w_strings_Split  hv1) (by first | rfl | simp only [go_sem]) (by first | rfl | simp only [go_sem]) ?_
  refine lAt_s AV.str none .i64 ⟨9, 1, false, 16⟩ (fun _ => rfl) h fun v4 _ b2 e3 h => ?_
  refine bsome h fun v5 hv5 h => ?_
  simp only [go_sem, Nat.reduceAdd, Nat.reduceLT, Nat.reduceLeDiff, Nat.reduceEqDiff, Nat.reduceBEq, Nat.reduceBNe, b2, e3]
  refine callX_ 10000 (w_script_Form  hv5) (by first | rfl | simp only [go_sem]) (by first | rfl | simp only [go_sem]) ?_
  simp only [go_sem, Nat.reduceAdd, Nat.reduceLT, Nat.reduceLeDiff, Nat.reduceEqDiff, Nat.reduceBEq, Nat.reduceBNe]
  refine rg_ 10000 (.inr ⟨[], by kernel_rfl, by kernel_rfl, by rfl⟩) ?_
  refine subL_s AV.str none ⟨9, 1, false, 16⟩ (fun _ => rfl) (some (.int .i64 1)) none rfl rfl h fun v10 _ b8 e9 h => ?_
  simp only [go_sem, Nat.reduceAdd, Nat.reduceLT, Nat.reduceLeDiff, Nat.reduceEqDiff, Nat.reduceBEq, Nat.reduceBNe, b2, e3, b8, e9]
  refine rngJ (s := v5.1) (fun kk1 (q : Str) w => ∀ (v12 : script_reader), script_command_l1 v5 q v12 = some r → w [(28, .adr kk1), (2, .ptr 0 0), (6, .bool v5.2), (7, .ptr 1 0)] [some [.str [], .sl (some none) [], .sl (some none) [], .str [], .str []], some [.str v12.c.Name, .sl (some none) (List.map (AV.int .i64) v12.c.N), .sl (some none) (List.map enc_api_Val v12.c.V), .str v12.c.W, .str v12.c.S, .sl none (List.map AV.str v12.parts), .bool v12.wrong]]) (by kernel_rfl) (by rfl) rfl (by decide) (fun kk q w w2 hw hq v12 h => hw _ _ (hq v12 h)) (fun kk c q w hc v12 h => by unfold script_command_l1 at h; rw [if_neg hc] at h; cases h) (fun kk1 L1 hLe1 c1 q1 hc1 ih1 v12 h => ?_) (fun kk1 v12 h => ?_) (fun kk w hq => ⟨_, hq (script_reader.mk (script_Command.mk v4 [] [] [] []) v10 false) h, ⟨rfl, rfl, rfl⟩, ⟨rfl, rfl, rfl, rfl, trivial⟩⟩)
  · unfold script_command_l1 at h
    rw [if_pos hc1] at h
    haveI : @SeatLay L1 := SeatLay.le hLe1
    refine runB 10000 ?_
    simp only [go_sem, Nat.reduceAdd, Nat.reduceLT, Nat.reduceLeDiff, Nat.reduceEqDiff, Nat.reduceBEq, Nat.reduceBNe]
    refine blk_ 10000 ?_
    refine bsome h fun v13 hv13 h => ?_
    simp only [go_sem, Nat.reduceAdd, Nat.reduceLT, Nat.reduceLeDiff, Nat.reduceEqDiff, Nat.reduceBEq, Nat.reduceBNe]
    refine callH_ 10000 [1] (w_script_reader_part  hv13) (by first | rfl | simp only [go_sem]) (by first | rfl | simp only [go_sem]) (by first | rfl | simp only [go_sem]) ?_
    simp only [go_sem, Nat.reduceAdd, Nat.reduceLT, Nat.reduceLeDiff, Nat.reduceEqDiff, Nat.reduceBEq, Nat.reduceBNe]
    exact lp_back (ih1 v13 h ⟨rfl, rfl, rfl⟩) ⟨rfl, rfl, rfl, rfl, trivial⟩
  · unfold script_command_l1 at h
    refine runX 10000 ?_
    simp only [go_sem, Nat.reduceAdd, Nat.reduceLT, Nat.reduceLeDiff, Nat.reduceEqDiff, Nat.reduceBEq, Nat.reduceBNe]
    refine bsome h fun y14 hy14 h => ?_
    refine rgJ 55 10000 (.inr ⟨[(2, 0), (7, 1), (35, 1), (36, 1), (37, 1), (41, 1), (42, 1), (43, 1), (48, 1), (49, 1), (50, 1)], by kernel_rfl, by kernel_rfl, by rfl⟩) (fun w => w [(2, .ptr 0 0), (3, .bool y14)] [some [.str v12.c.Name, .sl none (List.map (AV.int .i64) v12.c.N), .sl none (List.map enc_api_Val v12.c.V), .str v12.c.W, .str v12.c.S], some [.str v12.c.Name, .sl (some none) (List.map (AV.int .i64) v12.c.N), .sl (some none) (List.map enc_api_Val v12.c.V), .str v12.c.W, .str v12.c.S, .sl none (List.map AV.str v12.parts), .bool v12.wrong]]) (runX 10000 ?_) (fun Jy14 => ?_)
    · clear hy14
      simp only [go_sem, Nat.reduceAdd, Nat.reduceLT, Nat.reduceLeDiff, Nat.reduceEqDiff, Nat.reduceBEq, Nat.reduceBNe]
      refine ret_s (fun x => .tup [enc_script_Command x.1, .bool x.2]) h ?_
      first | rfl | simp only [go_sem, resAV, resAll, resOne]
    · clear h
      have h := hy14
      simp only [go_sem, Nat.reduceAdd, Nat.reduceLT, Nat.reduceLeDiff, Nat.reduceEqDiff, Nat.reduceBEq, Nat.reduceBNe]
      refine grd_ (fun hb16 => ?_) (fun hb16 => ?_)
      · skip
        have h := ite_t hb16 h
        simp only [go_sem, Nat.reduceAdd, Nat.reduceLT, Nat.reduceLeDiff, Nat.reduceEqDiff, Nat.reduceBEq, Nat.reduceBNe]
        refine grd_ (fun hb17 => ?_) (fun hb17 => ?_)
        · skip
          have h := ite_t hb17 h
          simp only [go_sem, Nat.reduceAdd, Nat.reduceLT, Nat.reduceLeDiff, Nat.reduceEqDiff, Nat.reduceBEq, Nat.reduceBNe]
          obtain rfl := Option.some.inj h
          exact atJ (wkn (Jy14) ⟨rfl, rfl, trivial⟩)
        · skip
          have h := ite_f hb17 h
          simp only [go_sem, Nat.reduceAdd, Nat.reduceLT, Nat.reduceLeDiff, Nat.reduceEqDiff, Nat.reduceBEq, Nat.reduceBNe]
          obtain rfl := Option.some.inj h
          exact atJ (wkn (Jy14) ⟨rfl, rfl, trivial⟩)
      · skip
        have h := ite_f hb16 h
        simp only [go_sem, Nat.reduceAdd, Nat.reduceLT, Nat.reduceLeDiff, Nat.reduceEqDiff, Nat.reduceBEq, Nat.reduceBNe]
        obtain rfl := Option.some.inj h
        exact atJ (wkn (Jy14) ⟨rfl, rfl, trivial⟩)
theorem w_script_Parse {text : Str}   {r : ((List script_Command) × Int × (Option Int))} (h : script_Parse text = some r) : ACall Tryz.prog 7 [.str text] [] (.tup [.sl none (List.map enc_script_Command r.1), .int .i64 r.2.1, encE 56 r.2.2]) [] := by
  refine acallX 10000 hf7 ok7 (by first | rfl | simp only [go_sem]) meek_tup ?_
  dsimp only [Tryz.f7, nums, Option.getD, List.append]
  unfold script_Parse at h
  simp only [go_sem, Nat.reduceAdd, Nat.reduceLT, Nat.reduceLeDiff, Nat.reduceEqDiff, Nat.reduceBEq, Nat.reduceBNe]
  refine cnd_s 10000 h (fun hb h => ?_) (fun hb h => ?_)
  · skip
    simp only [go_sem, Nat.reduceAdd, Nat.reduceLT, Nat.reduceLeDiff, Nat.reduceEqDiff, Nat.reduceBEq, Nat.reduceBNe]
    refine ret_s (fun x => .tup [.sl none (List.map enc_script_Command x.1), .int .i64 x.2.1, encE 56 x.2.2]) h ?_
    first | rfl | simp only [go_sem, resAV, resAll, resOne]
  · skip
    simp only [go_sem, Nat.reduceAdd, Nat.reduceLT, Nat.reduceLeDiff, Nat.reduceEqDiff, Nat.reduceBEq, Nat.reduceBNe]
    refine letK_s h fun K2 hK2 h => ?_
    refine blkJ 54 10000 (fun w => ∀ (v16 : (List script_Command)), K2 v16 = some r → w [(5, .sl (some none) (List.map enc_script_Command v16))] []) (fun v16 h => runX 10000 ?_) (fun JK2 => ?_)
    · subst hK2
      dsimp only at h
      simp only [go_sem, Nat.reduceAdd, Nat.reduceLT, Nat.reduceLeDiff, Nat.reduceEqDiff, Nat.reduceBEq, Nat.reduceBNe]
      refine ret_s (fun x => .tup [.sl none (List.map enc_script_Command x.1), .int .i64 x.2.1, encE 56 x.2.2]) h ?_
      first | rfl | simp only [go_sem, resAV, resAll, resOne]
    · clear hK2
      simp only [go_sem, Nat.reduceAdd, Nat.reduceLT, Nat.reduceLeDiff, Nat.reduceEqDiff, Nat.reduceBEq, Nat.reduceBNe]
      refine lpJ 54 fuel (fun q1 w => ∀ (v3 : Str) (v4 : (List script_Command)), script_Parse_l1 K2 q1 v3 v4 = some r → w [(0, .str v3), (5, .sl (some none) (List.map enc_script_Command v4))] []) (fun w _ _ h => nomatch h) (fun q1 ih1 v3 v4 h => ?_) (fun L1 => ?_)
      · unfold script_Parse_l1 at h
        refine runL 10000 ?_
        simp only [go_sem, Nat.reduceAdd, Nat.reduceLT, Nat.reduceLeDiff, Nat.reduceEqDiff, Nat.reduceBEq, Nat.reduceBNe]
        refine cnd_s 10000 h (fun hb h => ?_) (fun hb h => ?_)
        · skip
          simp only [go_sem, Nat.reduceAdd, Nat.reduceLT, Nat.reduceLeDiff, Nat.reduceEqDiff, Nat.reduceBEq, Nat.reduceBNe]
          refine blk_ 10000 ?_
          refine bsome h fun v5 hv5 h => ?_
          simp only [go_sem, Nat.reduceAdd, Nat.reduceLT, Nat.reduceLeDiff, Nat.reduceEqDiff, Nat.reduceBEq, Nat.reduceBNe]
          refine callX_ 10000 (w_strings_Cut  hv5) (by first | rfl | simp only [go_sem]) (by first | rfl | simp only [go_sem]) ?_
          refine bsome h fun v6 hv6 h => ?_
          simp only [go_sem, Nat.reduceAdd, Nat.reduceLT, Nat.reduceLeDiff, Nat.reduceEqDiff, Nat.reduceBEq, Nat.reduceBNe]
          refine callX_ 10000 (w_script_command  hv6) (by first | rfl | simp only [go_sem]) (by first | rfl | simp only [go_sem]) ?_
          simp only [go_sem, Nat.reduceAdd, Nat.reduceLT, Nat.reduceLeDiff, Nat.reduceEqDiff, Nat.reduceBEq, Nat.reduceBNe]
          refine rgJ 54 10000 (.inl rfl) (fun w => w [(5, .sl (some none) (List.map enc_script_Command v4)), (7, .str v5.2.1), (9, .ptr 0 0), (43, .bool ((((!v6.2) || (!v5.2.2)) || (decide ((4096 : Int) < (v5.1.length : Int)))) || (decide ((v4.length : Int) = 60))))] [some [.str v6.1.Name, .sl none (List.map (AV.int .i64) v6.1.N), .sl none (List.map enc_api_Val v6.1.V), .str v6.1.W, .str v6.1.S]]) (runX 10000 ?_) (fun Jg7 => ?_)
          · skip
            simp only [go_sem, Nat.reduceAdd, Nat.reduceLT, Nat.reduceLeDiff, Nat.reduceEqDiff, Nat.reduceBEq, Nat.reduceBNe]
            refine cnd_s 10000 h (fun hb h => ?_) (fun hb h => ?_)
            · skip
              refine add_s h fun v9 _ e8 h => ?_
              simp only [go_sem, Nat.reduceAdd, Nat.reduceLT, Nat.reduceLeDiff, Nat.reduceEqDiff, Nat.reduceBEq, Nat.reduceBNe, e8]
              refine ret_s (fun x => .tup [.sl none (List.map enc_script_Command x.1), .int .i64 x.2.1, encE 56 x.2.2]) h ?_
              first | rfl | simp only [go_sem, resAV, resAll, resOne]
            · skip
              refine app_s enc_script_Command (some none) ⟨36, 5, true, 96⟩ (fun _ => rfl) (by decide) rfl h fun v12 _ (b10 : appc ⟨36, 5, true, 96⟩ (.sl (some none) (List.map enc_script_Command v4)) (.sl (some none) [.agg [.str v6.1.Name, .sl none (List.map (AV.int .i64) v6.1.N), .sl none (List.map enc_api_Val v6.1.V), .str v6.1.W, .str v6.1.S]])) (e11 : appv (.sl (some none) (List.map enc_script_Command v4)) (.sl (some none) [.agg [.str v6.1.Name, .sl none (List.map (AV.int .i64) v6.1.N), .sl none (List.map enc_api_Val v6.1.V), .str v6.1.W, .str v6.1.S]]) = .sl (some none) (List.map enc_script_Command v12)) h => ?_
              simp only [go_sem, Nat.reduceAdd, Nat.reduceLT, Nat.reduceLeDiff, Nat.reduceEqDiff, Nat.reduceBEq, Nat.reduceBNe, b10, e11]
              exact lp_backH 0 (ih1 v5.2.1 v12 h) ⟨rfl, rfl, trivial⟩ rfl rfl rfl (by first | rfl | simp only [go_sem, ltF]) (by first | rfl | simp only [go_sem, allLt])
          · skip
            simp only [go_sem, Nat.reduceAdd, Nat.reduceLT, Nat.reduceLeDiff, Nat.reduceEqDiff, Nat.reduceBEq, Nat.reduceBNe]
            refine grd_ (fun hb13 => ?_) (fun hb13 => ?_)
            · skip
              simp only [go_sem, Nat.reduceAdd, Nat.reduceLT, Nat.reduceLeDiff, Nat.reduceEqDiff, Nat.reduceBEq, Nat.reduceBNe]
              refine grd_ (fun hb14 => ?_) (fun hb14 => ?_)
              · skip
                simp only [go_sem, Nat.reduceAdd, Nat.reduceLT, Nat.reduceLeDiff, Nat.reduceEqDiff, Nat.reduceBEq, Nat.reduceBNe]
                refine grd_ (fun hb15 => ?_) (fun hb15 => ?_)
                · skip
                  simp only [go_sem, Nat.reduceAdd, Nat.reduceLT, Nat.reduceLeDiff, Nat.reduceEqDiff, Nat.reduceBEq, Nat.reduceBNe]
                  exact atJ (wkn Jg7 ⟨rfl, rfl, rfl, congrArg AV.bool (by first | rfl | (rw [hb13, hb14, hb15]; rfl) | (simp [hb13, hb14, hb15]; done) | simp_all), trivial⟩)
                · skip
                  simp only [go_sem, Nat.reduceAdd, Nat.reduceLT, Nat.reduceLeDiff, Nat.reduceEqDiff, Nat.reduceBEq, Nat.reduceBNe]
                  exact atJ (wkn Jg7 ⟨rfl, rfl, rfl, congrArg AV.bool (by first | rfl | (rw [hb13, hb14, hb15]; rfl) | (simp [hb13, hb14, hb15]; done) | simp_all), trivial⟩)
              · skip
                simp only [go_sem, Nat.reduceAdd, Nat.reduceLT, Nat.reduceLeDiff, Nat.reduceEqDiff, Nat.reduceBEq, Nat.reduceBNe]
                exact atJ (wkn Jg7 ⟨rfl, rfl, rfl, congrArg AV.bool (by first | rfl | (rw [hb13, hb14]; rfl) | (simp [hb13, hb14]; done) | simp_all), trivial⟩)
            · skip
              simp only [go_sem, Nat.reduceAdd, Nat.reduceLT, Nat.reduceLeDiff, Nat.reduceEqDiff, Nat.reduceBEq, Nat.reduceBNe]
              exact atJ (wkn Jg7 ⟨rfl, rfl, rfl, congrArg AV.bool (by first | rfl | (rw [hb13]; rfl) | (simp [hb13]; done) | simp_all), trivial⟩)
        · skip
          simp only [go_sem, Nat.reduceAdd, Nat.reduceLT, Nat.reduceLeDiff, Nat.reduceEqDiff, Nat.reduceBEq, Nat.reduceBNe]
          exact atJ (wkn (JK2 v4 h) ⟨rfl, trivial⟩)
      · exact lp_back (L1 text [] h) ⟨rfl, rfl, trivial⟩
theorem w_script_writer_number {p0_w : script_writer}   {r : script_writer} (h : script_writer_number p0_w = some r) : ACall Tryz.prog 43 [.ptr 0 0] [some [.str p0_w.c.Name, .sl none (List.map (AV.int .i64) p0_w.c.N), .sl none (List.map enc_api_Val p0_w.c.V), .str p0_w.c.W, .str p0_w.c.S, .sl (some none) (List.map AV.str p0_w.parts), .bool p0_w.wrong]] (.tup []) [some [.str r.c.Name, .sl none (List.map (AV.int .i64) r.c.N), .sl none (List.map enc_api_Val r.c.V), .str r.c.W, .str r.c.S, .sl (some none) (List.map AV.str r.parts), .bool r.wrong]] := by
  refine acallHX 10000 hf43 ok43 (by first | rfl | simp only [go_sem]) meek_tup rfl (by first | rfl | simp only [go_sem, allLt]) ?_
  dsimp only [Tryz.f43, nums, Option.getD, List.append]
  unfold script_writer_number at h
  simp only [go_sem, Nat.reduceAdd, Nat.reduceLT, Nat.reduceLeDiff, Nat.reduceEqDiff, Nat.reduceBEq, Nat.reduceBNe]
  refine cnd_s 10000 h (fun hb h => ?_) (fun hb h => ?_)
  · skip
    simp only [go_sem, Nat.reduceAdd, Nat.reduceLT, Nat.reduceLeDiff, Nat.reduceEqDiff, Nat.reduceBEq, Nat.reduceBNe]
    refine retH_s (fun x => .tup []) (fun x => [some [.str x.c.Name, .sl none (List.map (AV.int .i64) x.c.N), .sl none (List.map enc_api_Val x.c.V), .str x.c.W, .str x.c.S, .sl (some none) (List.map AV.str x.parts), .bool x.wrong]]) h ?_ ?_
    · first | rfl | simp only [go_sem, resAV, resAll, resOne]
    · first | rfl | simp only [go_sem, resAV, resAll, resOne]
  · skip
    simp only [go_sem, Nat.reduceAdd, Nat.reduceLT, Nat.reduceLeDiff, Nat.reduceEqDiff, Nat.reduceBEq, Nat.reduceBNe]
    refine rg_ 10000 (.inr ⟨[(0, 0), (12, 0), (13, 0), (14, 0), (15, 0), (16, 0), (18, 0), (19, 0), (20, 0), (21, 0), (28, 0), (29, 0), (30, 0), (31, 0), (34, 0), (35, 0), (36, 0), (37, 0), (38, 0)], by kernel_rfl, by kernel_rfl, by rfl⟩) ?_
    refine lAt_s (AV.int .i64) none .i64 ⟨3, 1, false, 8⟩ (fun _ => rfl) h fun v3 _ b1 e2 h => ?_
    refine bsome h fun v4 hv4 h => ?_
    simp only [go_sem, Nat.reduceAdd, Nat.reduceLT, Nat.reduceLeDiff, Nat.reduceEqDiff, Nat.reduceBEq, Nat.reduceBNe, b1, e2]
    refine callX_ 10000 (w_strconv_Itoa  hv4) (by first | rfl | simp only [go_sem]) (by first | rfl | simp only [go_sem]) ?_
    refine app_s AV.str (some none) ⟨9, 1, false, 16⟩ (fun _ => rfl) (by decide) rfl h fun v7 _ (b5 : appc ⟨9, 1, false, 16⟩ (.sl (some none) (List.map AV.str p0_w.parts)) (.sl (some none) [.str v4])) (e6 : appv (.sl (some none) (List.map AV.str p0_w.parts)) (.sl (some none) [.str v4]) = .sl (some none) (List.map AV.str v7)) h => ?_
    refine subL_s (AV.int .i64) none ⟨3, 1, false, 8⟩ (fun _ => rfl) (some (.int .i64 1)) none rfl rfl h fun v10 _ b8 e9 h => ?_
    simp only [go_sem, Nat.reduceAdd, Nat.reduceLT, Nat.reduceLeDiff, Nat.reduceEqDiff, Nat.reduceBEq, Nat.reduceBNe, b5, e6, b8, e9]
    refine atEndF (retH_s (fun x => .tup []) (fun x => [some [.str x.c.Name, .sl none (List.map (AV.int .i64) x.c.N), .sl none (List.map enc_api_Val x.c.V), .str x.c.W, .str x.c.S, .sl (some none) (List.map AV.str x.parts), .bool x.wrong]]) h ?_ ?_)
    · first | rfl | simp only [go_sem, resAV, resAll, resOne]
    · first | rfl | simp only [go_sem, resAV, resAll, resOne]
theorem w_script_Value {p0_v : api_Val}   {r : (Str × (Option Int))} (h : script_Value p0_v = some r) : ACall Tryz.prog 17 [enc_api_Val p0_v] [] (.tup [.str r.1, encE 56 r.2]) [] := by
  refine acallX 10000 hf17 ok17 (by first | rfl | simp only [go_sem]) meek_tup ?_
  dsimp only [Tryz.f17, nums, Option.getD, List.append]
  unfold script_Value at h
  refine bsome h fun v1 hv1 h => ?_
  simp only [go_sem, Nat.reduceAdd, Nat.reduceLT, Nat.reduceLeDiff, Nat.reduceEqDiff, Nat.reduceBEq, Nat.reduceBNe]
  refine callX_ 10000 (w_object_Value  hv1) (by first | rfl | simp only [go_sem]) (by first | rfl | simp only [go_sem]) ?_
  simp only [go_sem, Nat.reduceAdd, Nat.reduceLT, Nat.reduceLeDiff, Nat.reduceEqDiff, Nat.reduceBEq, Nat.reduceBNe]
  refine cnd_s 10000 h (fun hb h => ?_) (fun hb h => ?_)
  · skip
    simp only [go_sem, Nat.reduceAdd, Nat.reduceLT, Nat.reduceLeDiff, Nat.reduceEqDiff, Nat.reduceBEq, Nat.reduceBNe]
    refine ret_s (fun x => .tup [.str x.1, encE 56 x.2]) h ?_
    first | rfl | simp only [go_sem, resAV, resAll, resOne]
  · skip
    refine bsome h fun v2 hv2 h => ?_
    simp only [go_sem, Nat.reduceAdd, Nat.reduceLT, Nat.reduceLeDiff, Nat.reduceEqDiff, Nat.reduceBEq, Nat.reduceBNe]
    refine callX_ 10000 (w_strconv_Itoa  hv2) (by first | rfl | simp only [go_sem]) (by first | rfl | simp only [go_sem]) ?_
    refine cat_s h fun v5 _ (b3 : 1 + v2.length ≤ maxB) e4 h => ?_
    refine cat_s h fun v8 _ (b6 : 1 + v2.length ≤ maxB) e7 h => ?_
    refine aIdx_s AV.str (fun _ => rfl) .u8 (n := 6) rfl h fun v11 _ (b9 : aidxC 6 (.agg [.str [110, 105, 108], .str [102, 97, 108, 115, 101], .str [116, 114, 117, 101], .str v2, .str v5, .str v8]) (.int .u8 p0_v.K)) (e10 : aidxV (.agg [.str [110, 105, 108], .str [102, 97, 108, 115, 101], .str [116, 114, 117, 101], .str v2, .str v5, .str v8]) (.int .u8 p0_v.K) = AV.str v11) h => ?_
    refine cat_s h fun v14 _ (b12 : v11.length + 1 ≤ maxB) e13 h => ?_
    refine bsome h fun v15 hv15 h => ?_
    simp only [go_sem, Nat.reduceAdd, Nat.reduceLT, Nat.reduceLeDiff, Nat.reduceEqDiff, Nat.reduceBEq, Nat.reduceBNe, b3, e4, b6, e7, b9, e10, b12, e13]
    refine callX_ 10000 (w_strconv_Itoa  hv15) (by first | rfl | simp only [go_sem]) (by first | rfl | simp only [go_sem]) ?_
    refine cat_s h fun v18 _ (b16 : v14.length + v15.length ≤ maxB) e17 h => ?_
    simp only [go_sem, Nat.reduceAdd, Nat.reduceLT, Nat.reduceLeDiff, Nat.reduceEqDiff, Nat.reduceBEq, Nat.reduceBNe, b16, e17]
    refine ret_s (fun x => .tup [.str x.1, encE 56 x.2]) h ?_
    first | rfl | simp only [go_sem, resAV, resAll, resOne]
theorem w_script_writer_value {p0_w : script_writer}   {r : script_writer} (h : script_writer_value p0_w = some r) : ACall Tryz.prog 44 [.ptr 0 0] [some [.str p0_w.c.Name, .sl none (List.map (AV.int .i64) p0_w.c.N), .sl none (List.map enc_api_Val p0_w.c.V), .str p0_w.c.W, .str p0_w.c.S, .sl (some none) (List.map AV.str p0_w.parts), .bool p0_w.wrong]] (.tup []) [some [.str r.c.Name, .sl none (List.map (AV.int .i64) r.c.N), .sl none (List.map enc_api_Val r.c.V), .str r.c.W, .str r.c.S, .sl (some none) (List.map AV.str r.parts), .bool r.wrong]] := by
  refine acallHX 10000 hf44 ok44 (by first | rfl | simp only [go_sem]) meek_tup rfl (by first | rfl | simp only [go_sem, allLt]) ?_
  dsimp only [Tryz.f44, nums, Option.getD, List.append]
  unfold script_writer_value at h
  simp only [go_sem, Nat.reduceAdd, Nat.reduceLT, Nat.reduceLeDiff, Nat.reduceEqDiff, Nat.reduceBEq, Nat.reduceBNe]
  refine cnd_s 10000 h (fun hb h => ?_) (fun hb h => ?_)
  · skip
    simp only [go_sem, Nat.reduceAdd, Nat.reduceLT, Nat.reduceLeDiff, Nat.reduceEqDiff, Nat.reduceBEq, Nat.reduceBNe]
    refine retH_s (fun x => .tup []) (fun x => [some [.str x.c.Name, .sl none (List.map (AV.int .i64) x.c.N), .sl none (List.map enc_api_Val x.c.V), .str x.c.W, .str x.c.S, .sl (some none) (List.map AV.str x.parts), .bool x.wrong]]) h ?_ ?_
    · first | rfl | simp only [go_sem, resAV, resAll, resOne]
    · first | rfl | simp only [go_sem, resAV, resAll, resOne]
  · skip
    refine lAt_s enc_api_Val none .i64 ⟨52, 3, true, 24⟩ (fun _ => rfl) h fun v3 _ b1 e2 h => ?_
    refine bsome h fun v4 hv4 h => ?_
    simp only [go_sem, Nat.reduceAdd, Nat.reduceLT, Nat.reduceLeDiff, Nat.reduceEqDiff, Nat.reduceBEq, Nat.reduceBNe, b1, e2]
    refine callX_ 10000 (w_script_Value  hv4) (by first | rfl | simp only [go_sem]) (by first | rfl | simp only [go_sem]) ?_
    simp only [go_sem, Nat.reduceAdd, Nat.reduceLT, Nat.reduceLeDiff, Nat.reduceEqDiff, Nat.reduceBEq, Nat.reduceBNe]
    refine bsome h fun y5 hy5 h => ?_
    refine rgJ 56 10000 (.inl rfl) (fun w => w [(0, .ptr 0 0), (2, .str v4.1)] [some [.str p0_w.c.Name, .sl none (List.map (AV.int .i64) p0_w.c.N), .sl none (List.map enc_api_Val p0_w.c.V), .str p0_w.c.W, .str p0_w.c.S, .sl (some none) (List.map AV.str p0_w.parts), .bool y5]]) (runX 10000 ?_) (fun Jy5 => ?_)
    · clear hy5
      simp only [go_sem, Nat.reduceAdd, Nat.reduceLT, Nat.reduceLeDiff, Nat.reduceEqDiff, Nat.reduceBEq, Nat.reduceBNe]
      refine rg_ 10000 (.inr ⟨[(0, 0), (36, 0), (37, 0), (38, 0), (39, 0), (40, 0), (45, 0), (46, 0), (47, 0), (48, 0), (51, 0), (52, 0), (53, 0), (54, 0), (55, 0)], by kernel_rfl, by kernel_rfl, by rfl⟩) ?_
      refine app_s AV.str (some none) ⟨9, 1, false, 16⟩ (fun _ => rfl) (by decide) rfl h fun v10 _ (b8 : appc ⟨9, 1, false, 16⟩ (.sl (some none) (List.map AV.str p0_w.parts)) (.sl (some none) [.str v4.1])) (e9 : appv (.sl (some none) (List.map AV.str p0_w.parts)) (.sl (some none) [.str v4.1]) = .sl (some none) (List.map AV.str v10)) h => ?_
      refine subL_s enc_api_Val none ⟨52, 3, true, 24⟩ (fun _ => rfl) (some (.int .i64 1)) none rfl rfl h fun v13 _ b11 e12 h => ?_
      simp only [go_sem, Nat.reduceAdd, Nat.reduceLT, Nat.reduceLeDiff, Nat.reduceEqDiff, Nat.reduceBEq, Nat.reduceBNe, b8, e9, b11, e12]
      refine atEndF (retH_s (fun x => .tup []) (fun x => [some [.str x.c.Name, .sl none (List.map (AV.int .i64) x.c.N), .sl none (List.map enc_api_Val x.c.V), .str x.c.W, .str x.c.S, .sl (some none) (List.map AV.str x.parts), .bool x.wrong]]) h ?_ ?_)
      · first | rfl | simp only [go_sem, resAV, resAll, resOne]
      · first | rfl | simp only [go_sem, resAV, resAll, resOne]
    · clear h
      have h := hy5
      simp only [go_sem, Nat.reduceAdd, Nat.reduceLT, Nat.reduceLeDiff, Nat.reduceEqDiff, Nat.reduceBEq, Nat.reduceBNe]
      refine grd_ (fun hb7 => ?_) (fun hb7 => ?_)
      · skip
        have h := ite_f hb7 h
        simp only [go_sem, Nat.reduceAdd, Nat.reduceLT, Nat.reduceLeDiff, Nat.reduceEqDiff, Nat.reduceBEq, Nat.reduceBNe]
        obtain rfl := Option.some.inj h
        exact atJ (wkn (Jy5) ⟨rfl, rfl, trivial⟩)
      · skip
        have h := ite_t hb7 h
        simp only [go_sem, Nat.reduceAdd, Nat.reduceLT, Nat.reduceLeDiff, Nat.reduceEqDiff, Nat.reduceBEq, Nat.reduceBNe]
        obtain rfl := Option.some.inj h
        exact atJ (wkn (Jy5) ⟨rfl, rfl, trivial⟩)
theorem w_internal_stringslite_IndexByte {s : Str} {c : Int}   {r : Int} (h : internal_stringslite_IndexByte s c = some r) : ACall Tryz.prog 61 [.str s, .int .u8 c] [] (.int .i64 r) [] := by
  refine acallX 10000 hf61 ok61 (by first | rfl | simp only [go_sem]) meek_int ?_
  dsimp only [Tryz.f61, nums, Option.getD, List.append]
  unfold internal_stringslite_IndexByte at h
  refine bsome h fun v1 hv1 h => ?_
  simp only [go_sem, Nat.reduceAdd, Nat.reduceLT, Nat.reduceLeDiff, Nat.reduceEqDiff, Nat.reduceBEq, Nat.reduceBNe]
  refine callX_ 10000 (w_bytealg_idx  hv1) (by first | rfl | simp only [go_sem]) (by first | rfl | simp only [go_sem]) ?_
  simp only [go_sem, Nat.reduceAdd, Nat.reduceLT, Nat.reduceLeDiff, Nat.reduceEqDiff, Nat.reduceBEq, Nat.reduceBNe]
  refine ret_s (fun x => .int .i64 x) h ?_
  first | rfl | simp only [go_sem, resAV, resAll, resOne]
theorem w_strings_IndexByte {s : Str} {c : Int}   {r : Int} (h : strings_IndexByte s c = some r) : ACall Tryz.prog 46 [.str s, .int .u8 c] [] (.int .i64 r) [] := by
  refine acallX 10000 hf46 ok46 (by first | rfl | simp only [go_sem]) meek_int ?_
  dsimp only [Tryz.f46, nums, Option.getD, List.append]
  unfold strings_IndexByte at h
  refine bsome h fun v1 hv1 h => ?_
  simp only [go_sem, Nat.reduceAdd, Nat.reduceLT, Nat.reduceLeDiff, Nat.reduceEqDiff, Nat.reduceBEq, Nat.reduceBNe]
  refine callX_ 10000 (w_internal_stringslite_IndexByte  hv1) (by first | rfl | simp only [go_sem]) (by first | rfl | simp only [go_sem]) ?_
  simp only [go_sem, Nat.reduceAdd, Nat.reduceLT, Nat.reduceLeDiff, Nat.reduceEqDiff, Nat.reduceBEq, Nat.reduceBNe]
  refine ret_s (fun x => .int .i64 x) h ?_
  first | rfl | simp only [go_sem, resAV, resAll, resOne]
theorem w_script_writer_part {p0_w : script_writer} {k : Int}   {r : script_writer} (h : script_writer_part p0_w k = some r) : ACall Tryz.prog 23 [.ptr 0 0, .int .i32 k] [some [.str p0_w.c.Name, .sl none (List.map (AV.int .i64) p0_w.c.N), .sl none (List.map enc_api_Val p0_w.c.V), .str p0_w.c.W, .str p0_w.c.S, .sl (some none) (List.map AV.str p0_w.parts), .bool p0_w.wrong]] (.tup []) [some [.str r.c.Name, .sl none (List.map (AV.int .i64) r.c.N), .sl none (List.map enc_api_Val r.c.V), .str r.c.W, .str r.c.S, .sl (some none) (List.map AV.str r.parts), .bool r.wrong]] := by
  refine acallHX 10000 hf23 ok23 (by first | rfl | simp only [go_sem]) meek_tup rfl (by first | rfl | simp only [go_sem, allLt]) ?_
  dsimp only [Tryz.f23, nums, Option.getD, List.append]
  unfold script_writer_part at h
  simp only [go_sem, Nat.reduceAdd, Nat.reduceLT, Nat.reduceLeDiff, Nat.reduceEqDiff, Nat.reduceBEq, Nat.reduceBNe]
  refine blk_ 10000 ?_
  simp only [go_sem, Nat.reduceAdd, Nat.reduceLT, Nat.reduceLeDiff, Nat.reduceEqDiff, Nat.reduceBEq, Nat.reduceBNe]
  refine bsome h fun y1 hy1 h => ?_
  refine cndJ 107 10000 (fun w => w [] [some [.str y1.c.Name, .sl none (List.map (AV.int .i64) y1.c.N), .sl none (List.map enc_api_Val y1.c.V), .str y1.c.W, .str y1.c.S, .sl (some none) (List.map AV.str y1.parts), .bool y1.wrong]]) (runX 10000 ?_) (fun Jy1 => ?_)
  · clear hy1
    simp only [go_sem, Nat.reduceAdd, Nat.reduceLT, Nat.reduceLeDiff, Nat.reduceEqDiff, Nat.reduceBEq, Nat.reduceBNe]
    refine atEndF (retH_s (fun x => .tup []) (fun x => [some [.str x.c.Name, .sl none (List.map (AV.int .i64) x.c.N), .sl none (List.map enc_api_Val x.c.V), .str x.c.W, .str x.c.S, .sl (some none) (List.map AV.str x.parts), .bool x.wrong]]) h ?_ ?_)
    · first | rfl | simp only [go_sem, resAV, resAll, resOne]
    · first | rfl | simp only [go_sem, resAV, resAll, resOne]
  · clear h
    have h := hy1
    refine cnd_s 10000 h (fun hb h => ?_) (fun hb h => ?_)
    · skip
      refine bsome h fun v3 hv3 h => ?_
      simp only [go_sem, Nat.reduceAdd, Nat.reduceLT, Nat.reduceLeDiff, Nat.reduceEqDiff, Nat.reduceBEq, Nat.reduceBNe]
      refine callH_ 10000 [0] (w_script_writer_number  hv3) (by first | rfl | simp only [go_sem]) (by first | rfl | simp only [go_sem]) (by first | rfl | simp only [go_sem]) ?_
      simp only [go_sem, Nat.reduceAdd, Nat.reduceLT, Nat.reduceLeDiff, Nat.reduceEqDiff, Nat.reduceBEq, Nat.reduceBNe]
      obtain rfl := Option.some.inj h
      exact atJ (wkn (Jy1) trivial)
    · skip
      simp only [go_sem, Nat.reduceAdd, Nat.reduceLT, Nat.reduceLeDiff, Nat.reduceEqDiff, Nat.reduceBEq, Nat.reduceBNe]
      refine bsome h fun y4 hy4 h => ?_
      refine cndJ 107 10000 (fun w => w [] [some [.str y4.c.Name, .sl none (List.map (AV.int .i64) y4.c.N), .sl none (List.map enc_api_Val y4.c.V), .str y4.c.W, .str y4.c.S, .sl (some none) (List.map AV.str y4.parts), .bool y4.wrong]]) (runX 10000 ?_) (fun Jy4 => ?_)
      · clear hy4
        simp only [go_sem, Nat.reduceAdd, Nat.reduceLT, Nat.reduceLeDiff, Nat.reduceEqDiff, Nat.reduceBEq, Nat.reduceBNe]
        obtain rfl := Option.some.inj h
        exact atJ (wkn (Jy1) trivial)
      · clear h
        have h := hy4
        refine cnd_s 10000 h (fun hb h => ?_) (fun hb h => ?_)
        · skip
          simp only [go_sem, Nat.reduceAdd, Nat.reduceLT, Nat.reduceLeDiff, Nat.reduceEqDiff, Nat.reduceBEq, Nat.reduceBNe]
          refine bsome h fun y6 hy6 h => ?_
          refine blkJ 107 10000 (fun w => w [] [some [.str y6.c.Name, .sl none (List.map (AV.int .i64) y6.c.N), .sl none (List.map enc_api_Val y6.c.V), .str y6.c.W, .str y6.c.S, .sl (some none) (List.map AV.str y6.parts), .bool y6.wrong]]) (runX 10000 ?_) (fun Jy6 => ?_)
          · clear hy6
            simp only [go_sem, Nat.reduceAdd, Nat.reduceLT, Nat.reduceLeDiff, Nat.reduceEqDiff, Nat.reduceBEq, Nat.reduceBNe]
            obtain rfl := Option.some.inj h
            exact atJ (wkn (Jy4) trivial)
          · clear h
            have h := hy6
            simp only [go_sem, Nat.reduceAdd, Nat.reduceLT, Nat.reduceLeDiff, Nat.reduceEqDiff, Nat.reduceBEq, Nat.reduceBNe]
            refine lpJ 107 fuel (fun q1 w => ∀ (v9 : script_writer), script_writer_part_l1  q1 v9 = some y6 → w [(0, .ptr 0 0)] [some [.str v9.c.Name, .sl none (List.map (AV.int .i64) v9.c.N), .sl none (List.map enc_api_Val v9.c.V), .str v9.c.W, .str v9.c.S, .sl (some none) (List.map AV.str v9.parts), .bool v9.wrong]]) (fun w _ h => nomatch h) (fun q1 ih1 v9 h => ?_) (fun L1 => ?_)
            · unfold script_writer_part_l1 at h
              refine runL 10000 ?_
              simp only [go_sem, Nat.reduceAdd, Nat.reduceLT, Nat.reduceLeDiff, Nat.reduceEqDiff, Nat.reduceBEq, Nat.reduceBNe]
              refine cnd_s 10000 h (fun hb h => ?_) (fun hb h => ?_)
              · skip
                simp only [go_sem, Nat.reduceAdd, Nat.reduceLT, Nat.reduceLeDiff, Nat.reduceEqDiff, Nat.reduceBEq, Nat.reduceBNe]
                refine blk_ 10000 ?_
                refine bsome h fun v10 hv10 h => ?_
                simp only [go_sem, Nat.reduceAdd, Nat.reduceLT, Nat.reduceLeDiff, Nat.reduceEqDiff, Nat.reduceBEq, Nat.reduceBNe]
                refine callH_ 10000 [0] (w_script_writer_number  hv10) (by first | rfl | simp only [go_sem]) (by first | rfl | simp only [go_sem]) (by first | rfl | simp only [go_sem]) ?_
                simp only [go_sem, Nat.reduceAdd, Nat.reduceLT, Nat.reduceLeDiff, Nat.reduceEqDiff, Nat.reduceBEq, Nat.reduceBNe]
                exact lp_back (ih1 v10 h) ⟨rfl, trivial⟩
              · skip
                simp only [go_sem, Nat.reduceAdd, Nat.reduceLT, Nat.reduceLeDiff, Nat.reduceEqDiff, Nat.reduceBEq, Nat.reduceBNe]
                obtain rfl := Option.some.inj h
                exact atJ (wkn (Jy6) trivial)
            · exact lp_back (L1 p0_w h) ⟨rfl, trivial⟩
        · skip
          simp only [go_sem, Nat.reduceAdd, Nat.reduceLT, Nat.reduceLeDiff, Nat.reduceEqDiff, Nat.reduceBEq, Nat.reduceBNe]
          refine bsome h fun y11 hy11 h => ?_
          refine cndJ 107 10000 (fun w => w [] [some [.str y11.c.Name, .sl none (List.map (AV.int .i64) y11.c.N), .sl none (List.map enc_api_Val y11.c.V), .str y11.c.W, .str y11.c.S, .sl (some none) (List.map AV.str y11.parts), .bool y11.wrong]]) (runX 10000 ?_) (fun Jy11 => ?_)
          · clear hy11
            simp only [go_sem, Nat.reduceAdd, Nat.reduceLT, Nat.reduceLeDiff, Nat.reduceEqDiff, Nat.reduceBEq, Nat.reduceBNe]
            obtain rfl := Option.some.inj h
            exact atJ (wkn (Jy4) trivial)
          · clear h
            have h := hy11
            refine cnd_s 10000 h (fun hb h => ?_) (fun hb h => ?_)
            · skip
              refine bsome h fun v13 hv13 h => ?_
              simp only [go_sem, Nat.reduceAdd, Nat.reduceLT, Nat.reduceLeDiff, Nat.reduceEqDiff, Nat.reduceBEq, Nat.reduceBNe]
              refine callH_ 10000 [0] (w_script_writer_value  hv13) (by first | rfl | simp only [go_sem]) (by first | rfl | simp only [go_sem]) (by first | rfl | simp only [go_sem]) ?_
              simp only [go_sem, Nat.reduceAdd, Nat.reduceLT, Nat.reduceLeDiff, Nat.reduceEqDiff, Nat.reduceBEq, Nat.reduceBNe]
              obtain rfl := Option.some.inj h
              exact atJ (wkn (Jy11) trivial)
            · skip
              simp only [go_sem, Nat.reduceAdd, Nat.reduceLT, Nat.reduceLeDiff, Nat.reduceEqDiff, Nat.reduceBEq, Nat.reduceBNe]
              refine bsome h fun y14 hy14 h => ?_
              refine cndJ 107 10000 (fun w => w [] [some [.str y14.c.Name, .sl none (List.map (AV.int .i64) y14.c.N), .sl none (List.map enc_api_Val y14.c.V), .str y14.c.W, .str y14.c.S, .sl (some none) (List.map AV.str y14.parts), .bool y14.wrong]]) (runX 10000 ?_) (fun Jy14 => ?_)
              · clear hy14
                simp only [go_sem, Nat.reduceAdd, Nat.reduceLT, Nat.reduceLeDiff, Nat.reduceEqDiff, Nat.reduceBEq, Nat.reduceBNe]
                obtain rfl := Option.some.inj h
                exact atJ (wkn (Jy11) trivial)
              · clear h
                have h := hy14
                refine cnd_s 10000 h (fun hb h => ?_) (fun hb h => ?_)
                · skip
                  simp only [go_sem, Nat.reduceAdd, Nat.reduceLT, Nat.reduceLeDiff, Nat.reduceEqDiff, Nat.reduceBEq, Nat.reduceBNe]
                  refine bsome h fun y16 hy16 h => ?_
                  refine blkJ 107 10000 (fun w => w [] [some [.str y16.c.Name, .sl none (List.map (AV.int .i64) y16.c.N), .sl none (List.map enc_api_Val y16.c.V), .str y16.c.W, .str y16.c.S, .sl (some none) (List.map AV.str y16.parts), .bool y16.wrong]]) (runX 10000 ?_) (fun Jy16 => ?_)
                  · clear hy16
                    simp only [go_sem, Nat.reduceAdd, Nat.reduceLT, Nat.reduceLeDiff, Nat.reduceEqDiff, Nat.reduceBEq, Nat.reduceBNe]
                    obtain rfl := Option.some.inj h
                    exact atJ (wkn (Jy14) trivial)
                  · clear h
                    have h := hy16
                    simp only [go_sem, Nat.reduceAdd, Nat.reduceLT, Nat.reduceLeDiff, Nat.reduceEqDiff, Nat.reduceBEq, Nat.reduceBNe]
                    refine lpJ 107 fuel (fun q2 w => ∀ (v19 : script_writer), script_writer_part_l2  q2 v19 = some y16 → w [(0, .ptr 0 0)] [some [.str v19.c.Name, .sl none (List.map (AV.int .i64) v19.c.N), .sl none (List.map enc_api_Val v19.c.V), .str v19.c.W, .str v19.c.S, .sl (some none) (List.map AV.str v19.parts), .bool v19.wrong]]) (fun w _ h => nomatch h) (fun q2 ih2 v19 h => ?_) (fun L2 => ?_)
                    · unfold script_writer_part_l2 at h
                      refine runL 10000 ?_
                      simp only [go_sem, Nat.reduceAdd, Nat.reduceLT, Nat.reduceLeDiff, Nat.reduceEqDiff, Nat.reduceBEq, Nat.reduceBNe]
                      refine cnd_s 10000 h (fun hb h => ?_) (fun hb h => ?_)
                      · skip
                        simp only [go_sem, Nat.reduceAdd, Nat.reduceLT, Nat.reduceLeDiff, Nat.reduceEqDiff, Nat.reduceBEq, Nat.reduceBNe]
                        refine blk_ 10000 ?_
                        refine bsome h fun v20 hv20 h => ?_
                        simp only [go_sem, Nat.reduceAdd, Nat.reduceLT, Nat.reduceLeDiff, Nat.reduceEqDiff, Nat.reduceBEq, Nat.reduceBNe]
                        refine callH_ 10000 [0] (w_script_writer_value  hv20) (by first | rfl | simp only [go_sem]) (by first | rfl | simp only [go_sem]) (by first | rfl | simp only [go_sem]) ?_
                        simp only [go_sem, Nat.reduceAdd, Nat.reduceLT, Nat.reduceLeDiff, Nat.reduceEqDiff, Nat.reduceBEq, Nat.reduceBNe]
                        exact lp_back (ih2 v20 h) ⟨rfl, trivial⟩
                      · skip
                        simp only [go_sem, Nat.reduceAdd, Nat.reduceLT, Nat.reduceLeDiff, Nat.reduceEqDiff, Nat.reduceBEq, Nat.reduceBNe]
                        obtain rfl := Option.some.inj h
                        exact atJ (wkn (Jy16) trivial)
                    · exact lp_back (L2 p0_w h) ⟨rfl, trivial⟩
                · skip
                  simp only [go_sem, Nat.reduceAdd, Nat.reduceLT, Nat.reduceLeDiff, Nat.reduceEqDiff, Nat.reduceBEq, Nat.reduceBNe]
                  refine bsome h fun y21 hy21 h => ?_
                  refine cndJ 107 10000 (fun w => w [] [some [.str y21.c.Name, .sl none (List.map (AV.int .i64) y21.c.N), .sl none (List.map enc_api_Val y21.c.V), .str y21.c.W, .str y21.c.S, .sl (some none) (List.map AV.str y21.parts), .bool y21.wrong]]) (runX 10000 ?_) (fun Jy21 => ?_)
                  · clear hy21
                    simp only [go_sem, Nat.reduceAdd, Nat.reduceLT, Nat.reduceLeDiff, Nat.reduceEqDiff, Nat.reduceBEq, Nat.reduceBNe]
                    obtain rfl := Option.some.inj h
                    exact atJ (wkn (Jy14) trivial)
                  · clear h
                    have h := hy21
                    refine cnd_s 10000 h (fun hb h => ?_) (fun hb h => ?_)
                    · skip
                      simp only [go_sem, Nat.reduceAdd, Nat.reduceLT, Nat.reduceLeDiff, Nat.reduceEqDiff, Nat.reduceBEq, Nat.reduceBNe]
                      refine bsome h fun y23 hy23 h => ?_
                      refine rgJ 107 10000 (.inl rfl) (fun w => w [(0, .ptr 0 0)] [some [.str p0_w.c.Name, .sl none (List.map (AV.int .i64) p0_w.c.N), .sl none (List.map enc_api_Val p0_w.c.V), .str p0_w.c.W, .str p0_w.c.S, .sl (some none) (List.map AV.str p0_w.parts), .bool y23]]) (runX 10000 ?_) (fun Jy23 => ?_)
                      · clear hy23
                        simp only [go_sem, Nat.reduceAdd, Nat.reduceLT, Nat.reduceLeDiff, Nat.reduceEqDiff, Nat.reduceBEq, Nat.reduceBNe]
                        refine rg_ 10000 (.inr ⟨[(0, 0), (53, 0), (54, 0), (55, 0), (56, 0), (57, 0), (59, 0), (60, 0), (61, 0), (62, 0), (66, 0), (67, 0), (68, 0), (69, 0), (70, 0)], by kernel_rfl, by kernel_rfl, by rfl⟩) ?_
                        refine app_s AV.str (some none) ⟨9, 1, false, 16⟩ (fun _ => rfl) (by decide) rfl h fun v29 _ (b27 : appc ⟨9, 1, false, 16⟩ (.sl (some none) (List.map AV.str p0_w.parts)) (.sl (some none) [.str p0_w.c.W])) (e28 : appv (.sl (some none) (List.map AV.str p0_w.parts)) (.sl (some none) [.str p0_w.c.W]) = .sl (some none) (List.map AV.str v29)) h => ?_
                        simp only [go_sem, Nat.reduceAdd, Nat.reduceLT, Nat.reduceLeDiff, Nat.reduceEqDiff, Nat.reduceBEq, Nat.reduceBNe, b27, e28]
                        obtain rfl := Option.some.inj h
                        exact atJ (wkn (Jy21) trivial)
                      · clear h
                        have h := hy23
                        simp only [go_sem, Nat.reduceAdd, Nat.reduceLT, Nat.reduceLeDiff, Nat.reduceEqDiff, Nat.reduceBEq, Nat.reduceBNe]
                        refine grd_ (fun hb25 => ?_) (fun hb25 => ?_)
                        · skip
                          have h := ite_f hb25 h
                          refine bsome h fun v26 hv26 h => ?_
                          simp only [go_sem, Nat.reduceAdd, Nat.reduceLT, Nat.reduceLeDiff, Nat.reduceEqDiff, Nat.reduceBEq, Nat.reduceBNe]
                          refine callX_ 10000 (w_script_worded  hv26) (by first | rfl | simp only [go_sem]) (by first | rfl | simp only [go_sem]) ?_
                          simp only [go_sem, Nat.reduceAdd, Nat.reduceLT, Nat.reduceLeDiff, Nat.reduceEqDiff, Nat.reduceBEq, Nat.reduceBNe]
                          obtain rfl := Option.some.inj h
                          exact atJ (wkn (Jy23) ⟨rfl, trivial⟩)
                        · skip
                          have h := ite_t hb25 h
                          simp only [go_sem, Nat.reduceAdd, Nat.reduceLT, Nat.reduceLeDiff, Nat.reduceEqDiff, Nat.reduceBEq, Nat.reduceBNe]
                          obtain rfl := Option.some.inj h
                          exact atJ (wkn (Jy23) ⟨rfl, trivial⟩)
                    · skip
                      simp only [go_sem, Nat.reduceAdd, Nat.reduceLT, Nat.reduceLeDiff, Nat.reduceEqDiff, Nat.reduceBEq, Nat.reduceBNe]
                      refine bsome h fun y30 hy30 h => ?_
                      refine cndJ 107 10000 (fun w => w [] [some [.str y30.c.Name, .sl none (List.map (AV.int .i64) y30.c.N), .sl none (List.map enc_api_Val y30.c.V), .str y30.c.W, .str y30.c.S, .sl (some none) (List.map AV.str y30.parts), .bool y30.wrong]]) (runX 10000 ?_) (fun Jy30 => ?_)
                      · clear hy30
                        simp only [go_sem, Nat.reduceAdd, Nat.reduceLT, Nat.reduceLeDiff, Nat.reduceEqDiff, Nat.reduceBEq, Nat.reduceBNe]
                        obtain rfl := Option.some.inj h
                        exact atJ (wkn (Jy21) trivial)
                      · clear h
                        have h := hy30
                        refine cnd_s 10000 h (fun hb h => ?_) (fun hb h => ?_)
                        · skip
                          simp only [go_sem, Nat.reduceAdd, Nat.reduceLT, Nat.reduceLeDiff, Nat.reduceEqDiff, Nat.reduceBEq, Nat.reduceBNe]
                          refine bsome h fun y32 hy32 h => ?_
                          refine rgJ 107 10000 (.inl rfl) (fun w => w [(0, .ptr 0 0)] [some [.str p0_w.c.Name, .sl none (List.map (AV.int .i64) p0_w.c.N), .sl none (List.map enc_api_Val p0_w.c.V), .str p0_w.c.W, .str p0_w.c.S, .sl (some none) (List.map AV.str p0_w.parts), .bool y32]]) (runX 10000 ?_) (fun Jy32 => ?_)
                          · clear hy32
                            simp only [go_sem, Nat.reduceAdd, Nat.reduceLT, Nat.reduceLeDiff, Nat.reduceEqDiff, Nat.reduceBEq, Nat.reduceBNe]
                            refine rg_ 10000 (.inr ⟨[(0, 0), (89, 0), (90, 0), (91, 0), (92, 0), (93, 0), (95, 0), (96, 0), (97, 0), (98, 0), (102, 0), (103, 0), (104, 0), (105, 0), (106, 0)], by kernel_rfl, by kernel_rfl, by rfl⟩) ?_
                            refine app_s AV.str (some none) ⟨9, 1, false, 16⟩ (fun _ => rfl) (by decide) rfl h fun v38 _ (b36 : appc ⟨9, 1, false, 16⟩ (.sl (some none) (List.map AV.str p0_w.parts)) (.sl (some none) [.str p0_w.c.S])) (e37 : appv (.sl (some none) (List.map AV.str p0_w.parts)) (.sl (some none) [.str p0_w.c.S]) = .sl (some none) (List.map AV.str v38)) h => ?_
                            simp only [go_sem, Nat.reduceAdd, Nat.reduceLT, Nat.reduceLeDiff, Nat.reduceEqDiff, Nat.reduceBEq, Nat.reduceBNe, b36, e37]
                            obtain rfl := Option.some.inj h
                            exact atJ (wkn (Jy30) trivial)
                          · clear h
                            have h := hy32
                            simp only [go_sem, Nat.reduceAdd, Nat.reduceLT, Nat.reduceLeDiff, Nat.reduceEqDiff, Nat.reduceBEq, Nat.reduceBNe]
                            refine grd_ (fun hb34 => ?_) (fun hb34 => ?_)
                            · skip
                              have h := ite_f hb34 h
                              refine bsome h fun v35 hv35 h => ?_
                              simp only [go_sem, Nat.reduceAdd, Nat.reduceLT, Nat.reduceLeDiff, Nat.reduceEqDiff, Nat.reduceBEq, Nat.reduceBNe]
                              refine callX_ 10000 (w_strings_IndexByte  hv35) (by first | rfl | simp only [go_sem]) (by first | rfl | simp only [go_sem]) ?_
                              simp only [go_sem, Nat.reduceAdd, Nat.reduceLT, Nat.reduceLeDiff, Nat.reduceEqDiff, Nat.reduceBEq, Nat.reduceBNe]
                              obtain rfl := Option.some.inj h
                              exact atJ (wkn (Jy32) ⟨rfl, trivial⟩)
                            · skip
                              have h := ite_t hb34 h
                              simp only [go_sem, Nat.reduceAdd, Nat.reduceLT, Nat.reduceLeDiff, Nat.reduceEqDiff, Nat.reduceBEq, Nat.reduceBNe]
                              obtain rfl := Option.some.inj h
                              exact atJ (wkn (Jy32) ⟨rfl, trivial⟩)
                        · skip
                          simp only [go_sem, Nat.reduceAdd, Nat.reduceLT, Nat.reduceLeDiff, Nat.reduceEqDiff, Nat.reduceBEq, Nat.reduceBNe]
                          obtain rfl := Option.some.inj h
                          exact atJ (wkn (Jy30) trivial)
theorem w_script_Line {c : script_Command}   {r : (Str × (Option Int))} (h : script_Line c = some r) : ACall Tryz.prog 13 [enc_script_Command c] [] (.tup [.str r.1, encE 56 r.2]) [] := by
  refine acallX 10000 hf13 ok13 (by first | rfl | simp only [go_sem]) meek_tup ?_
  dsimp only [Tryz.f13, nums, Option.getD, List.append]
  unfold script_Line at h
  refine bsome h fun v1 hv1 h => ?_
  simp only [go_sem, Nat.reduceAdd, Nat.reduceLT, Nat.reduceLeDiff, Nat.reduceEqDiff, Nat.reduceBEq, Nat.reduceBNe]
  refine callX_ 10000 (w_script_Form  hv1) (by first | rfl | simp only [go_sem]) (by first | rfl | simp only [go_sem]) ?_
  simp only [go_sem, Nat.reduceAdd, Nat.reduceLT, Nat.reduceLeDiff, Nat.reduceEqDiff, Nat.reduceBEq, Nat.reduceBNe]
  refine rngJ (s := v1.1) (fun kk1 (q : Str) w => ∀ (v3 : script_writer), script_Line_l1 c v1 q v3 = some r → w [(23, .adr kk1), (5, .bool v1.2), (6, .ptr 1 0)] [some [.str c.Name, .sl none (List.map (AV.int .i64) c.N), .sl none (List.map enc_api_Val c.V), .str c.W, .str c.S], some [.str v3.c.Name, .sl none (List.map (AV.int .i64) v3.c.N), .sl none (List.map enc_api_Val v3.c.V), .str v3.c.W, .str v3.c.S, .sl (some none) (List.map AV.str v3.parts), .bool v3.wrong]]) (by kernel_rfl) (by rfl) rfl (by decide) (fun kk q w w2 hw hq v3 h => hw _ _ (hq v3 h)) (fun kk c q w hc v3 h => by unfold script_Line_l1 at h; rw [if_neg hc] at h; cases h) (fun kk1 L1 hLe1 c1 q1 hc1 ih1 v3 h => ?_) (fun kk1 v3 h => ?_) (fun kk w hq => ⟨_, hq (script_writer.mk c ([c.Name] : List Str) false) h, ⟨rfl, rfl, rfl⟩, ⟨rfl, rfl, rfl, trivial⟩⟩)
  · unfold script_Line_l1 at h
    rw [if_pos hc1] at h
    haveI : @SeatLay L1 := SeatLay.le hLe1
    refine runB 10000 ?_
    simp only [go_sem, Nat.reduceAdd, Nat.reduceLT, Nat.reduceLeDiff, Nat.reduceEqDiff, Nat.reduceBEq, Nat.reduceBNe]
    refine blk_ 10000 ?_
    refine bsome h fun v4 hv4 h => ?_
    simp only [go_sem, Nat.reduceAdd, Nat.reduceLT, Nat.reduceLeDiff, Nat.reduceEqDiff, Nat.reduceBEq, Nat.reduceBNe]
    refine callH_ 10000 [1] (w_script_writer_part  hv4) (by first | rfl | simp only [go_sem]) (by first | rfl | simp only [go_sem]) (by first | rfl | simp only [go_sem]) ?_
    simp only [go_sem, Nat.reduceAdd, Nat.reduceLT, Nat.reduceLeDiff, Nat.reduceEqDiff, Nat.reduceBEq, Nat.reduceBNe]
    exact lp_back (ih1 v4 h ⟨rfl, rfl, rfl⟩) ⟨rfl, rfl, rfl, trivial⟩
  · unfold script_Line_l1 at h
    refine runX 10000 ?_
    simp only [go_sem, Nat.reduceAdd, Nat.reduceLT, Nat.reduceLeDiff, Nat.reduceEqDiff, Nat.reduceBEq, Nat.reduceBNe]
    refine rgJ 83 10000 (.inl rfl) (fun w => w [(6, .ptr 1 0), (71, .bool ((((((!v1.2) || v3.wrong) || (decide ((0 : Int) < (v3.c.N.length : Int)))) || (decide ((0 : Int) < (v3.c.V.length : Int)))) || (!(v3.c.W == []))) || (!(v3.c.S == []))))] [some [.str c.Name, .sl none (List.map (AV.int .i64) c.N), .sl none (List.map enc_api_Val c.V), .str c.W, .str c.S], some [.str v3.c.Name, .sl none (List.map (AV.int .i64) v3.c.N), .sl none (List.map enc_api_Val v3.c.V), .str v3.c.W, .str v3.c.S, .sl (some none) (List.map AV.str v3.parts), .bool v3.wrong]]) (runX 10000 ?_) (fun Jg5 => ?_)
    · skip
      simp only [go_sem, Nat.reduceAdd, Nat.reduceLT, Nat.reduceLeDiff, Nat.reduceEqDiff, Nat.reduceBEq, Nat.reduceBNe]
      refine cnd_s 10000 h (fun hb h => ?_) (fun hb h => ?_)
      · skip
        simp only [go_sem, Nat.reduceAdd, Nat.reduceLT, Nat.reduceLeDiff, Nat.reduceEqDiff, Nat.reduceBEq, Nat.reduceBNe]
        refine ret_s (fun x => .tup [.str x.1, encE 56 x.2]) h ?_
        first | rfl | simp only [go_sem, resAV, resAll, resOne]
      · skip
        refine bsome h fun v6 hv6 h => ?_
        simp only [go_sem, Nat.reduceAdd, Nat.reduceLT, Nat.reduceLeDiff, Nat.reduceEqDiff, Nat.reduceBEq, Nat.reduceBNe]
        refine callX_ 10000 (w_strings_Join  hv6) (by first | rfl | simp only [go_sem]) (by first | rfl | simp only [go_sem]) ?_
        simp only [go_sem, Nat.reduceAdd, Nat.reduceLT, Nat.reduceLeDiff, Nat.reduceEqDiff, Nat.reduceBEq, Nat.reduceBNe]
        refine cnd_s 10000 h (fun hb h => ?_) (fun hb h => ?_)
        · skip
          simp only [go_sem, Nat.reduceAdd, Nat.reduceLT, Nat.reduceLeDiff, Nat.reduceEqDiff, Nat.reduceBEq, Nat.reduceBNe]
          refine ret_s (fun x => .tup [.str x.1, encE 56 x.2]) h ?_
          first | rfl | simp only [go_sem, resAV, resAll, resOne]
        · skip
          simp only [go_sem, Nat.reduceAdd, Nat.reduceLT, Nat.reduceLeDiff, Nat.reduceEqDiff, Nat.reduceBEq, Nat.reduceBNe]
          refine ret_s (fun x => .tup [.str x.1, encE 56 x.2]) h ?_
          first | rfl | simp only [go_sem, resAV, resAll, resOne]
    · skip
      simp only [go_sem, Nat.reduceAdd, Nat.reduceLT, Nat.reduceLeDiff, Nat.reduceEqDiff, Nat.reduceBEq, Nat.reduceBNe]
      refine grd_ (fun hb7 => ?_) (fun hb7 => ?_)
      · skip
        simp only [go_sem, Nat.reduceAdd, Nat.reduceLT, Nat.reduceLeDiff, Nat.reduceEqDiff, Nat.reduceBEq, Nat.reduceBNe]
        refine grd_ (fun hb8 => ?_) (fun hb8 => ?_)
        · skip
          simp only [go_sem, Nat.reduceAdd, Nat.reduceLT, Nat.reduceLeDiff, Nat.reduceEqDiff, Nat.reduceBEq, Nat.reduceBNe]
          refine grd_ (fun hb9 => ?_) (fun hb9 => ?_)
          · skip
            simp only [go_sem, Nat.reduceAdd, Nat.reduceLT, Nat.reduceLeDiff, Nat.reduceEqDiff, Nat.reduceBEq, Nat.reduceBNe]
            refine grd_ (fun hb10 => ?_) (fun hb10 => ?_)
            · skip
              simp only [go_sem, Nat.reduceAdd, Nat.reduceLT, Nat.reduceLeDiff, Nat.reduceEqDiff, Nat.reduceBEq, Nat.reduceBNe]
              refine grd_ (fun hb11 => ?_) (fun hb11 => ?_)
              · skip
                simp only [go_sem, Nat.reduceAdd, Nat.reduceLT, Nat.reduceLeDiff, Nat.reduceEqDiff, Nat.reduceBEq, Nat.reduceBNe]
                exact atJ (wkn Jg5 ⟨rfl, congrArg AV.bool (by first | rfl | (rw [hb7, hb8, hb9, hb10, hb11]; rfl) | (simp [hb7, hb8, hb9, hb10, hb11]; done) | simp_all), trivial⟩)
              · skip
                simp only [go_sem, Nat.reduceAdd, Nat.reduceLT, Nat.reduceLeDiff, Nat.reduceEqDiff, Nat.reduceBEq, Nat.reduceBNe]
                exact atJ (wkn Jg5 ⟨rfl, congrArg AV.bool (by first | rfl | (rw [hb7, hb8, hb9, hb10, hb11]; rfl) | (simp [hb7, hb8, hb9, hb10, hb11]; done) | simp_all), trivial⟩)
            · skip
              simp only [go_sem, Nat.reduceAdd, Nat.reduceLT, Nat.reduceLeDiff, Nat.reduceEqDiff, Nat.reduceBEq, Nat.reduceBNe]
              exact atJ (wkn Jg5 ⟨rfl, congrArg AV.bool (by first | rfl | (rw [hb7, hb8, hb9, hb10]; rfl) | (simp [hb7, hb8, hb9, hb10]; done) | simp_all), trivial⟩)
          · skip
            simp only [go_sem, Nat.reduceAdd, Nat.reduceLT, Nat.reduceLeDiff, Nat.reduceEqDiff, Nat.reduceBEq, Nat.reduceBNe]
            exact atJ (wkn Jg5 ⟨rfl, congrArg AV.bool (by first | rfl | (rw [hb7, hb8, hb9]; rfl) | (simp [hb7, hb8, hb9]; done) | simp_all), trivial⟩)
        · skip
          simp only [go_sem, Nat.reduceAdd, Nat.reduceLT, Nat.reduceLeDiff, Nat.reduceEqDiff, Nat.reduceBEq, Nat.reduceBNe]
          exact atJ (wkn Jg5 ⟨rfl, congrArg AV.bool (by first | rfl | (rw [hb7, hb8]; rfl) | (simp [hb7, hb8]; done) | simp_all), trivial⟩)
      · skip
        simp only [go_sem, Nat.reduceAdd, Nat.reduceLT, Nat.reduceLeDiff, Nat.reduceEqDiff, Nat.reduceBEq, Nat.reduceBNe]
        exact atJ (wkn Jg5 ⟨rfl, congrArg AV.bool (by first | rfl | (rw [hb7]; rfl) | (simp [hb7]; done) | simp_all), trivial⟩)
theorem w_law30_sure    {r : Bool} (h : law30_sure  = some r) : ACall Tryz.prog 6 [] [] (.bool r) [] := by
  refine acallX 10000 hf6 ok6 (by first | rfl | simp only [go_sem]) meek_bool ?_
  dsimp only [Tryz.f6, nums, Option.getD, List.append]
  unfold law30_sure at h
  refine bsome h fun v1 hv1 h => ?_
  simp only [go_sem, Nat.reduceAdd, Nat.reduceLT, Nat.reduceLeDiff, Nat.reduceEqDiff, Nat.reduceBEq, Nat.reduceBNe]
  refine callX_ 10000 (w_script_Parse  hv1) (by first | rfl | simp only [go_sem]) (by first | rfl | simp only [go_sem]) ?_
  refine bsome h fun v2 hv2 h => ?_
  simp only [go_sem, Nat.reduceAdd, Nat.reduceLT, Nat.reduceLeDiff, Nat.reduceEqDiff, Nat.reduceBEq, Nat.reduceBNe]
  refine callX_ 10000 (w_script_Parse  hv2) (by first | rfl | simp only [go_sem]) (by first | rfl | simp only [go_sem]) ?_
  refine bsome h fun v3 hv3 h => ?_
  simp only [go_sem, Nat.reduceAdd, Nat.reduceLT, Nat.reduceLeDiff, Nat.reduceEqDiff, Nat.reduceBEq, Nat.reduceBNe]
  refine callX_ 10000 (w_script_Line  hv3) (by first | rfl | simp only [go_sem]) (by first | rfl | simp only [go_sem]) ?_
  refine bsome h fun v4 hv4 h => ?_
  simp only [go_sem, Nat.reduceAdd, Nat.reduceLT, Nat.reduceLeDiff, Nat.reduceEqDiff, Nat.reduceBEq, Nat.reduceBNe]
  refine callX_ 10000 (w_script_Line  hv4) (by first | rfl | simp only [go_sem]) (by first | rfl | simp only [go_sem]) ?_
  refine bsome h fun v5 hv5 h => ?_
  simp only [go_sem, Nat.reduceAdd, Nat.reduceLT, Nat.reduceLeDiff, Nat.reduceEqDiff, Nat.reduceBEq, Nat.reduceBNe]
  refine callX_ 10000 (w_script_Value  hv5) (by first | rfl | simp only [go_sem]) (by first | rfl | simp only [go_sem]) ?_
  refine bsome h fun v6 hv6 h => ?_
  simp only [go_sem, Nat.reduceAdd, Nat.reduceLT, Nat.reduceLeDiff, Nat.reduceEqDiff, Nat.reduceBEq, Nat.reduceBNe]
  refine callX_ 10000 (w_script_Form  hv6) (by first | rfl | simp only [go_sem]) (by first | rfl | simp only [go_sem]) ?_
  simp only [go_sem, Nat.reduceAdd, Nat.reduceLT, Nat.reduceLeDiff, Nat.reduceEqDiff, Nat.reduceBEq, Nat.reduceBNe]
  refine bsome h fun y7 hy7 h => ?_
  refine rgJ 128 10000 (.inl rfl) (fun w => w [(1, .sl none (List.map enc_script_Command v1.1)), (2, .int .i64 v1.2.1), (3, encE 56 v1.2.2), (5, .int .i64 v2.2.1), (6, encE 56 v2.2.2), (7, .str v3.1), (8, encE 56 v3.2), (10, encE 56 v4.2), (11, .str v5.1), (12, encE 56 v5.2), (13, .str v6.1), (14, .bool v6.2), (57, .bool y7)] []) (runX 10000 ?_) (fun Jy7 => ?_)
  · clear hy7
    simp only [go_sem, Nat.reduceAdd, Nat.reduceLT, Nat.reduceLeDiff, Nat.reduceEqDiff, Nat.reduceBEq, Nat.reduceBNe]
    refine cnd_s 10000 h (fun hb h => ?_) (fun hb h => ?_)
    · skip
      simp only [go_sem, Nat.reduceAdd, Nat.reduceLT, Nat.reduceLeDiff, Nat.reduceEqDiff, Nat.reduceBEq, Nat.reduceBNe]
      refine ret_s (fun x => .bool x) h ?_
      first | rfl | simp only [go_sem, resAV, resAll, resOne]
    · skip
      simp only [go_sem, Nat.reduceAdd, Nat.reduceLT, Nat.reduceLeDiff, Nat.reduceEqDiff, Nat.reduceBEq, Nat.reduceBNe]
      refine bsome h fun y13 hy13 h => ?_
      refine rgJ 128 10000 (.inl rfl) (fun w => w [(0, .bool y13)] []) (runX 10000 ?_) (fun Jy13 => ?_)
      · clear hy13
        simp only [go_sem, Nat.reduceAdd, Nat.reduceLT, Nat.reduceLeDiff, Nat.reduceEqDiff, Nat.reduceBEq, Nat.reduceBNe]
        refine ret_s (fun x => .bool x) h ?_
        first | rfl | simp only [go_sem, resAV, resAll, resOne]
      · clear h
        have h := hy13
        simp only [go_sem, Nat.reduceAdd, Nat.reduceLT, Nat.reduceLeDiff, Nat.reduceEqDiff, Nat.reduceBEq, Nat.reduceBNe]
        refine grd_ (fun hb15 => ?_) (fun hb15 => ?_)
        · skip
          have h := ite_t hb15 h
          simp only [go_sem, Nat.reduceAdd, Nat.reduceLT, Nat.reduceLeDiff, Nat.reduceEqDiff, Nat.reduceBEq, Nat.reduceBNe]
          refine grd_ (fun hb16 => ?_) (fun hb16 => ?_)
          · skip
            have h := ite_t hb16 h
            refine lAt_s enc_script_Command none .i64 ⟨36, 5, true, 96⟩ (fun _ => rfl) h fun v19 _ b17 e18 h => ?_
            refine lAt_s enc_api_Val none .i64 ⟨52, 3, true, 24⟩ (fun _ => rfl) h fun v22 _ b20 e21 h => ?_
            simp only [go_sem, Nat.reduceAdd, Nat.reduceLT, Nat.reduceLeDiff, Nat.reduceEqDiff, Nat.reduceBEq, Nat.reduceBNe, b17, e18, b20, e21]
            refine grd_ (fun hb23 => ?_) (fun hb23 => ?_)
            · skip
              have h := ite_t hb23 h
              refine lAt_s enc_api_Val none .i64 ⟨52, 3, true, 24⟩ (fun _ => rfl) h fun v28 _ b26 e27 h => ?_
              simp only [go_sem, Nat.reduceAdd, Nat.reduceLT, Nat.reduceLeDiff, Nat.reduceEqDiff, Nat.reduceBEq, Nat.reduceBNe, b17, e18, b26, e27]
              refine grd_ (fun hb29 => ?_) (fun hb29 => ?_)
              · skip
                have h := ite_t hb29 h
                refine lAt_s enc_script_Command none .i64 ⟨36, 5, true, 96⟩ (fun _ => rfl) h fun v32 _ b30 e31 h => ?_
                simp only [go_sem, Nat.reduceAdd, Nat.reduceLT, Nat.reduceLeDiff, Nat.reduceEqDiff, Nat.reduceBEq, Nat.reduceBNe, b30, e31]
                refine grd_ (fun hb33 => ?_) (fun hb33 => ?_)
                · skip
                  have h := ite_t hb33 h
                  refine bsome h fun v34 hv34 h => ?_
                  simp only [go_sem, Nat.reduceAdd, Nat.reduceLT, Nat.reduceLeDiff, Nat.reduceEqDiff, Nat.reduceBEq, Nat.reduceBNe]
                  refine callX_ 10000 (w_law_num  hv34) (by first | rfl | simp only [go_sem]) (by first | rfl | simp only [go_sem]) ?_
                  simp only [go_sem, Nat.reduceAdd, Nat.reduceLT, Nat.reduceLeDiff, Nat.reduceEqDiff, Nat.reduceBEq, Nat.reduceBNe]
                  refine grd_ (fun hb35 => ?_) (fun hb35 => ?_)
                  · skip
                    have h := ite_t hb35 h
                    simp only [go_sem, Nat.reduceAdd, Nat.reduceLT, Nat.reduceLeDiff, Nat.reduceEqDiff, Nat.reduceBEq, Nat.reduceBNe]
                    refine grd_ (fun hb36 => ?_) (fun hb36 => ?_)
                    · skip
                      have h := ite_t hb36 h
                      simp only [go_sem, Nat.reduceAdd, Nat.reduceLT, Nat.reduceLeDiff, Nat.reduceEqDiff, Nat.reduceBEq, Nat.reduceBNe]
                      refine grd_ (fun hb37 => ?_) (fun hb37 => ?_)
                      · skip
                        have h := ite_t hb37 h
                        simp only [go_sem, Nat.reduceAdd, Nat.reduceLT, Nat.reduceLeDiff, Nat.reduceEqDiff, Nat.reduceBEq, Nat.reduceBNe]
                        refine grd_ (fun hb38 => ?_) (fun hb38 => ?_)
                        · skip
                          have h := ite_t hb38 h
                          refine bsome h fun v39 hv39 h => ?_
                          simp only [go_sem, Nat.reduceAdd, Nat.reduceLT, Nat.reduceLeDiff, Nat.reduceEqDiff, Nat.reduceBEq, Nat.reduceBNe]
                          refine callX_ 10000 (w_law_num  hv39) (by first | rfl | simp only [go_sem]) (by first | rfl | simp only [go_sem]) ?_
                          simp only [go_sem, Nat.reduceAdd, Nat.reduceLT, Nat.reduceLeDiff, Nat.reduceEqDiff, Nat.reduceBEq, Nat.reduceBNe]
                          refine grd_ (fun hb40 => ?_) (fun hb40 => ?_)
                          · skip
                            have h := ite_t hb40 h
                            simp only [go_sem, Nat.reduceAdd, Nat.reduceLT, Nat.reduceLeDiff, Nat.reduceEqDiff, Nat.reduceBEq, Nat.reduceBNe]
                            refine grd_ (fun hb41 => ?_) (fun hb41 => ?_)
                            · skip
                              have h := ite_t hb41 h
                              simp only [go_sem, Nat.reduceAdd, Nat.reduceLT, Nat.reduceLeDiff, Nat.reduceEqDiff, Nat.reduceBEq, Nat.reduceBNe]
                              refine grd_ (fun hb42 => ?_) (fun hb42 => ?_)
                              · skip
                                have h := ite_t hb42 h
                                simp only [go_sem, Nat.reduceAdd, Nat.reduceLT, Nat.reduceLeDiff, Nat.reduceEqDiff, Nat.reduceBEq, Nat.reduceBNe]
                                refine grd_ (fun hb43 => ?_) (fun hb43 => ?_)
                                · skip
                                  have h := ite_t hb43 h
                                  simp only [go_sem, Nat.reduceAdd, Nat.reduceLT, Nat.reduceLeDiff, Nat.reduceEqDiff, Nat.reduceBEq, Nat.reduceBNe]
                                  obtain rfl := Option.some.inj h
                                  exact atJ (wkn (Jy13) ⟨rfl, trivial⟩)
                                · skip
                                  have h := ite_f hb43 h
                                  simp only [go_sem, Nat.reduceAdd, Nat.reduceLT, Nat.reduceLeDiff, Nat.reduceEqDiff, Nat.reduceBEq, Nat.reduceBNe]
                                  obtain rfl := Option.some.inj h
                                  exact atJ (wkn (Jy13) ⟨rfl, trivial⟩)
                              · skip
                                have h := ite_f hb42 h
                                simp only [go_sem, Nat.reduceAdd, Nat.reduceLT, Nat.reduceLeDiff, Nat.reduceEqDiff, Nat.reduceBEq, Nat.reduceBNe]
                                obtain rfl := Option.some.inj h
                                exact atJ (wkn (Jy13) ⟨rfl, trivial⟩)
                            · skip
                              have h := ite_f hb41 h
                              simp only [go_sem, Nat.reduceAdd, Nat.reduceLT, Nat.reduceLeDiff, Nat.reduceEqDiff, Nat.reduceBEq, Nat.reduceBNe]
                              obtain rfl := Option.some.inj h
                              exact atJ (wkn (Jy13) ⟨rfl, trivial⟩)
                          · skip
                            have h := ite_f hb40 h
                            simp only [go_sem, Nat.reduceAdd, Nat.reduceLT, Nat.reduceLeDiff, Nat.reduceEqDiff, Nat.reduceBEq, Nat.reduceBNe]
                            obtain rfl := Option.some.inj h
                            exact atJ (wkn (Jy13) ⟨rfl, trivial⟩)
                        · skip
                          have h := ite_f hb38 h
                          simp only [go_sem, Nat.reduceAdd, Nat.reduceLT, Nat.reduceLeDiff, Nat.reduceEqDiff, Nat.reduceBEq, Nat.reduceBNe]
                          obtain rfl := Option.some.inj h
                          exact atJ (wkn (Jy13) ⟨rfl, trivial⟩)
                      · skip
                        have h := ite_f hb37 h
                        simp only [go_sem, Nat.reduceAdd, Nat.reduceLT, Nat.reduceLeDiff, Nat.reduceEqDiff, Nat.reduceBEq, Nat.reduceBNe]
                        obtain rfl := Option.some.inj h
                        exact atJ (wkn (Jy13) ⟨rfl, trivial⟩)
                    · skip
                      have h := ite_f hb36 h
                      simp only [go_sem, Nat.reduceAdd, Nat.reduceLT, Nat.reduceLeDiff, Nat.reduceEqDiff, Nat.reduceBEq, Nat.reduceBNe]
                      obtain rfl := Option.some.inj h
                      exact atJ (wkn (Jy13) ⟨rfl, trivial⟩)
                  · skip
                    have h := ite_f hb35 h
                    simp only [go_sem, Nat.reduceAdd, Nat.reduceLT, Nat.reduceLeDiff, Nat.reduceEqDiff, Nat.reduceBEq, Nat.reduceBNe]
                    obtain rfl := Option.some.inj h
                    exact atJ (wkn (Jy13) ⟨rfl, trivial⟩)
                · skip
                  have h := ite_f hb33 h
                  simp only [go_sem, Nat.reduceAdd, Nat.reduceLT, Nat.reduceLeDiff, Nat.reduceEqDiff, Nat.reduceBEq, Nat.reduceBNe]
                  obtain rfl := Option.some.inj h
                  exact atJ (wkn (Jy13) ⟨rfl, trivial⟩)
              · skip
                have h := ite_f hb29 h
                simp only [go_sem, Nat.reduceAdd, Nat.reduceLT, Nat.reduceLeDiff, Nat.reduceEqDiff, Nat.reduceBEq, Nat.reduceBNe]
                obtain rfl := Option.some.inj h
                exact atJ (wkn (Jy13) ⟨rfl, trivial⟩)
            · skip
              have h := ite_f hb23 h
              simp only [go_sem, Nat.reduceAdd, Nat.reduceLT, Nat.reduceLeDiff, Nat.reduceEqDiff, Nat.reduceBEq, Nat.reduceBNe]
              obtain rfl := Option.some.inj h
              exact atJ (wkn (Jy13) ⟨rfl, trivial⟩)
          · skip
            have h := ite_f hb16 h
            simp only [go_sem, Nat.reduceAdd, Nat.reduceLT, Nat.reduceLeDiff, Nat.reduceEqDiff, Nat.reduceBEq, Nat.reduceBNe]
            obtain rfl := Option.some.inj h
            exact atJ (wkn (Jy13) ⟨rfl, trivial⟩)
        · skip
          have h := ite_f hb15 h
          simp only [go_sem, Nat.reduceAdd, Nat.reduceLT, Nat.reduceLeDiff, Nat.reduceEqDiff, Nat.reduceBEq, Nat.reduceBNe]
          obtain rfl := Option.some.inj h
          exact atJ (wkn (Jy13) ⟨rfl, trivial⟩)
  · clear h
    have h := hy7
    simp only [go_sem, Nat.reduceAdd, Nat.reduceLT, Nat.reduceLeDiff, Nat.reduceEqDiff, Nat.reduceBEq, Nat.reduceBNe]
    refine grd_ (fun hb9 => ?_) (fun hb9 => ?_)
    · skip
      have h := ite_f hb9 h
      refine lAt_s enc_script_Command none .i64 ⟨36, 5, true, 96⟩ (fun _ => rfl) h fun v12 _ b10 e11 h => ?_
      simp only [go_sem, Nat.reduceAdd, Nat.reduceLT, Nat.reduceLeDiff, Nat.reduceEqDiff, Nat.reduceBEq, Nat.reduceBNe, b10, e11]
      obtain rfl := Option.some.inj h
      exact atJ (wkn (Jy7) ⟨rfl, rfl, rfl, rfl, rfl, rfl, rfl, rfl, rfl, rfl, rfl, rfl, rfl, trivial⟩)
    · skip
      have h := ite_t hb9 h
      simp only [go_sem, Nat.reduceAdd, Nat.reduceLT, Nat.reduceLeDiff, Nat.reduceEqDiff, Nat.reduceBEq, Nat.reduceBNe]
      obtain rfl := Option.some.inj h
      exact atJ (wkn (Jy7) ⟨rfl, rfl, rfl, rfl, rfl, rfl, rfl, rfl, rfl, rfl, rfl, rfl, rfl, trivial⟩)
theorem w_ref30_Names    {r : ((List Str) × (List Str))} (h : ref30_Names  = some r) : ACall Tryz.prog 29 [] [] (.tup [.sl none (List.map AV.str r.1), .sl none (List.map AV.str r.2)]) [] := by
  refine acallX 10000 hf29 ok29 (by first | rfl | simp only [go_sem]) meek_tup ?_
  dsimp only [Tryz.f29, nums, Option.getD, List.append]
  unfold ref30_Names at h
  simp only [go_sem, Nat.reduceAdd, Nat.reduceLT, Nat.reduceLeDiff, Nat.reduceEqDiff, Nat.reduceBEq, Nat.reduceBNe]
  refine ret_s (fun x => .tup [.sl none (List.map AV.str x.1), .sl none (List.map AV.str x.2)]) h ?_
  first | rfl | simp only [go_sem, resAV, resAll, resOne]
theorem w_ref30_Form {name : Str}   {r : (Str × Bool)} (h : ref30_Form name = some r) : ACall Tryz.prog 16 [.str name] [] (.tup [.str r.1, .bool r.2]) [] := by
  refine acallX 10000 hf16 ok16 (by first | rfl | simp only [go_sem]) meek_tup ?_
  dsimp only [Tryz.f16, nums, Option.getD, List.append]
  unfold ref30_Form at h
  refine bsome h fun v1 hv1 h => ?_
  simp only [go_sem, Nat.reduceAdd, Nat.reduceLT, Nat.reduceLeDiff, Nat.reduceEqDiff, Nat.reduceBEq, Nat.reduceBNe]
  refine callX_ 10000 (w_ref30_Names  hv1) (by first | rfl | simp only [go_sem]) (by first | rfl | simp only [go_sem]) ?_
  simp only [go_sem, Nat.reduceAdd, Nat.reduceLT, Nat.reduceLeDiff, Nat.reduceEqDiff, Nat.reduceBEq, Nat.reduceBNe]
  refine letK_s h fun K3 hK3 h => ?_
  refine blkJ 27 10000 (fun w => K3 () = some r → w [] []) (fun  h => runX 10000 ?_) (fun JK3 => ?_)
  · subst hK3
    dsimp only at h
    simp only [go_sem, Nat.reduceAdd, Nat.reduceLT, Nat.reduceLeDiff, Nat.reduceEqDiff, Nat.reduceBEq, Nat.reduceBNe]
    refine ret_s (fun x => .tup [.str x.1, .bool x.2]) h ?_
    first | rfl | simp only [go_sem, resAV, resAll, resOne]
  · clear hK3
    simp only [go_sem, Nat.reduceAdd, Nat.reduceLT, Nat.reduceLeDiff, Nat.reduceEqDiff, Nat.reduceBEq, Nat.reduceBNe]
    refine lpJ 27 fuel (fun q1 w => ∀ (v4 : Int), ref30_Form_l1 name v1 K3 q1 v4 = some r → w [(0, .str name), (4, .sl none (List.map AV.str v1.1)), (5, .sl none (List.map AV.str v1.2)), (6, .int .i64 v4)] []) (fun w _ h => nomatch h) (fun q1 ih1 v4 h => ?_) (fun L1 => ?_)
    · unfold ref30_Form_l1 at h
      refine runL 10000 ?_
      simp only [go_sem, Nat.reduceAdd, Nat.reduceLT, Nat.reduceLeDiff, Nat.reduceEqDiff, Nat.reduceBEq, Nat.reduceBNe]
      refine cnd_s 10000 h (fun hb h => ?_) (fun hb h => ?_)
      · skip
        simp only [go_sem, Nat.reduceAdd, Nat.reduceLT, Nat.reduceLeDiff, Nat.reduceEqDiff, Nat.reduceBEq, Nat.reduceBNe]
        refine blk_ 10000 ?_
        refine lAt_s AV.str none .i64 ⟨9, 1, false, 16⟩ (fun _ => rfl) h fun v7 _ b5 e6 h => ?_
        simp only [go_sem, Nat.reduceAdd, Nat.reduceLT, Nat.reduceLeDiff, Nat.reduceEqDiff, Nat.reduceBEq, Nat.reduceBNe, b5, e6]
        refine cnd_s 10000 h (fun hb h => ?_) (fun hb h => ?_)
        · skip
          refine lAt_s AV.str none .i64 ⟨9, 1, false, 16⟩ (fun _ => rfl) h fun v10 _ b8 e9 h => ?_
          simp only [go_sem, Nat.reduceAdd, Nat.reduceLT, Nat.reduceLeDiff, Nat.reduceEqDiff, Nat.reduceBEq, Nat.reduceBNe, b8, e9]
          refine ret_s (fun x => .tup [.str x.1, .bool x.2]) h ?_
          first | rfl | simp only [go_sem, resAV, resAll, resOne]
        · skip
          refine add_s h fun v12 _ e11 h => ?_
          simp only [go_sem, Nat.reduceAdd, Nat.reduceLT, Nat.reduceLeDiff, Nat.reduceEqDiff, Nat.reduceBEq, Nat.reduceBNe, e11]
          exact lp_back (ih1 v12 h) ⟨rfl, rfl, rfl, rfl, trivial⟩
      · skip
        simp only [go_sem, Nat.reduceAdd, Nat.reduceLT, Nat.reduceLeDiff, Nat.reduceEqDiff, Nat.reduceBEq, Nat.reduceBNe]
        exact atJ (wkn (JK3  h) trivial)
    · exact lp_back (L1 0 h) ⟨rfl, rfl, rfl, rfl, trivial⟩
theorem w_ref30_Word {s : Str}   {r : Bool} (h : ref30_Word s = some r) : ACall Tryz.prog 27 [.str s] [] (.bool r) [] := by
  refine acallX 10000 hf27 ok27 (by first | rfl | simp only [go_sem]) meek_bool ?_
  dsimp only [Tryz.f27, nums, Option.getD, List.append]
  unfold ref30_Word at h
  simp only [go_sem, Nat.reduceAdd, Nat.reduceLT, Nat.reduceLeDiff, Nat.reduceEqDiff, Nat.reduceBEq, Nat.reduceBNe]
  refine rgJ 28 10000 (.inl rfl) (fun w => w [(0, .str s), (11, .bool ((decide ((s.length : Int) < 1)) || (decide ((64 : Int) < (s.length : Int)))))] []) (runX 10000 ?_) (fun Jg1 => ?_)
  · skip
    simp only [go_sem, Nat.reduceAdd, Nat.reduceLT, Nat.reduceLeDiff, Nat.reduceEqDiff, Nat.reduceBEq, Nat.reduceBNe]
    refine cnd_s 10000 h (fun hb h => ?_) (fun hb h => ?_)
    · skip
      simp only [go_sem, Nat.reduceAdd, Nat.reduceLT, Nat.reduceLeDiff, Nat.reduceEqDiff, Nat.reduceBEq, Nat.reduceBNe]
      refine ret_s (fun x => .bool x) h ?_
      first | rfl | simp only [go_sem, resAV, resAll, resOne]
    · skip
      simp only [go_sem, Nat.reduceAdd, Nat.reduceLT, Nat.reduceLeDiff, Nat.reduceEqDiff, Nat.reduceBEq, Nat.reduceBNe]
      refine letK_s h fun K3 hK3 h => ?_
      refine blkJ 28 10000 (fun w => K3 () = some r → w [] []) (fun  h => runX 10000 ?_) (fun JK3 => ?_)
      · subst hK3
        dsimp only at h
        simp only [go_sem, Nat.reduceAdd, Nat.reduceLT, Nat.reduceLeDiff, Nat.reduceEqDiff, Nat.reduceBEq, Nat.reduceBNe]
        refine ret_s (fun x => .bool x) h ?_
        first | rfl | simp only [go_sem, resAV, resAll, resOne]
      · clear hK3
        simp only [go_sem, Nat.reduceAdd, Nat.reduceLT, Nat.reduceLeDiff, Nat.reduceEqDiff, Nat.reduceBEq, Nat.reduceBNe]
        refine lpJ 28 fuel (fun q1 w => ∀ (v4 : Int), ref30_Word_l1 s K3 q1 v4 = some r → w [(0, .str s), (3, .int .i64 v4)] []) (fun w _ h => nomatch h) (fun q1 ih1 v4 h => ?_) (fun L1 => ?_)
        · unfold ref30_Word_l1 at h
          refine runL 10000 ?_
          simp only [go_sem, Nat.reduceAdd, Nat.reduceLT, Nat.reduceLeDiff, Nat.reduceEqDiff, Nat.reduceBEq, Nat.reduceBNe]
          refine cnd_s 10000 h (fun hb h => ?_) (fun hb h => ?_)
          · skip
            simp only [go_sem, Nat.reduceAdd, Nat.reduceLT, Nat.reduceLeDiff, Nat.reduceEqDiff, Nat.reduceBEq, Nat.reduceBNe]
            refine blk_ 10000 ?_
            simp only [go_sem, Nat.reduceAdd, Nat.reduceLT, Nat.reduceLeDiff, Nat.reduceEqDiff, Nat.reduceBEq, Nat.reduceBNe]
            refine bsome h fun y5 hy5 h => ?_
            refine rgJ 28 10000 (.inl rfl) (fun w => w [(0, .str s), (3, .int .i64 v4), (27, .bool y5)] []) (runX 10000 ?_) (fun Jy5 => ?_)
            · clear hy5
              simp only [go_sem, Nat.reduceAdd, Nat.reduceLT, Nat.reduceLeDiff, Nat.reduceEqDiff, Nat.reduceBEq, Nat.reduceBNe]
              refine cnd_s 10000 h (fun hb h => ?_) (fun hb h => ?_)
              · skip
                simp only [go_sem, Nat.reduceAdd, Nat.reduceLT, Nat.reduceLeDiff, Nat.reduceEqDiff, Nat.reduceBEq, Nat.reduceBNe]
                refine ret_s (fun x => .bool x) h ?_
                first | rfl | simp only [go_sem, resAV, resAll, resOne]
              · skip
                refine add_s h fun v14 _ e13 h => ?_
                simp only [go_sem, Nat.reduceAdd, Nat.reduceLT, Nat.reduceLeDiff, Nat.reduceEqDiff, Nat.reduceBEq, Nat.reduceBNe, e13]
                exact lp_back (ih1 v14 h) ⟨rfl, rfl, trivial⟩
            · clear h
              have h := hy5
              refine sIdx_s .i64 h fun v9 _ b7 e8 h => ?_
              simp only [go_sem, Nat.reduceAdd, Nat.reduceLT, Nat.reduceLeDiff, Nat.reduceEqDiff, Nat.reduceBEq, Nat.reduceBNe, b7, e8]
              refine grd_ (fun hb10 => ?_) (fun hb10 => ?_)
              · skip
                have h := ite_f hb10 h
                simp only [go_sem, Nat.reduceAdd, Nat.reduceLT, Nat.reduceLeDiff, Nat.reduceEqDiff, Nat.reduceBEq, Nat.reduceBNe, b7, e8]
                obtain rfl := Option.some.inj h
                exact atJ (wkn (Jy5) ⟨rfl, rfl, rfl, trivial⟩)
              · skip
                have h := ite_t hb10 h
                simp only [go_sem, Nat.reduceAdd, Nat.reduceLT, Nat.reduceLeDiff, Nat.reduceEqDiff, Nat.reduceBEq, Nat.reduceBNe]
                obtain rfl := Option.some.inj h
                exact atJ (wkn (Jy5) ⟨rfl, rfl, rfl, trivial⟩)
          · skip
            simp only [go_sem, Nat.reduceAdd, Nat.reduceLT, Nat.reduceLeDiff, Nat.reduceEqDiff, Nat.reduceBEq, Nat.reduceBNe]
            exact atJ (wkn (JK3  h) trivial)
        · exact lp_back (L1 0 h) ⟨rfl, rfl, trivial⟩
  · skip
    simp only [go_sem, Nat.reduceAdd, Nat.reduceLT, Nat.reduceLeDiff, Nat.reduceEqDiff, Nat.reduceBEq, Nat.reduceBNe]
    refine grd_ (fun hb15 => ?_) (fun hb15 => ?_)
    · skip
      simp only [go_sem, Nat.reduceAdd, Nat.reduceLT, Nat.reduceLeDiff, Nat.reduceEqDiff, Nat.reduceBEq, Nat.reduceBNe]
      exact atJ (wkn Jg1 ⟨rfl, congrArg AV.bool (by first | rfl | (rw [hb15]; rfl) | (simp [hb15]; done) | simp_all), trivial⟩)
    · skip
      simp only [go_sem, Nat.reduceAdd, Nat.reduceLT, Nat.reduceLeDiff, Nat.reduceEqDiff, Nat.reduceBEq, Nat.reduceBNe]
      exact atJ (wkn Jg1 ⟨rfl, congrArg AV.bool (by first | rfl | (rw [hb15]; rfl) | (simp [hb15]; done) | simp_all), trivial⟩)
theorem w_ref30_pieces {s : Str}   {r : (List Str)} (h : ref30_pieces s = some r) : ACall Tryz.prog 36 [.str s] [] (.sl none (List.map AV.str r)) [] := by
  refine acallX 10000 hf36 ok36 (by first | rfl | simp only [go_sem]) meek_sl ?_
  dsimp only [Tryz.f36, nums, Option.getD, List.append]
  unfold ref30_pieces at h
  simp only [go_sem, Nat.reduceAdd, Nat.reduceLT, Nat.reduceLeDiff, Nat.reduceEqDiff, Nat.reduceBEq, Nat.reduceBNe]
  refine bsome h fun y1 hy1 h => ?_
  refine blkJ 32 10000 (fun w => w [(3, .sl (some none) (List.map AV.str y1))] []) (runX 10000 ?_) (fun Jy1 => ?_)
  · clear hy1
    simp only [go_sem, Nat.reduceAdd, Nat.reduceLT, Nat.reduceLeDiff, Nat.reduceEqDiff, Nat.reduceBEq, Nat.reduceBNe]
    refine ret_s (fun x => .sl none (List.map AV.str x)) h ?_
    first | rfl | simp only [go_sem, resAV, resAll, resOne]
  · clear h
    have h := hy1
    simp only [go_sem, Nat.reduceAdd, Nat.reduceLT, Nat.reduceLeDiff, Nat.reduceEqDiff, Nat.reduceBEq, Nat.reduceBNe]
    refine lpJ 32 fuel (fun q1 w => ∀ (v3 : (List Str)) (v4 : Int) (v5 : Int), ref30_pieces_l1 s q1 v3 v4 v5 = some y1 → w [(0, .str s), (3, .sl (some none) (List.map AV.str v3)), (4, .int .i64 v4), (5, .int .i64 v5)] []) (fun w _ _ _ h => nomatch h) (fun q1 ih1 v3 v4 v5 h => ?_) (fun L1 => ?_)
    · unfold ref30_pieces_l1 at h
      refine runL 10000 ?_
      simp only [go_sem, Nat.reduceAdd, Nat.reduceLT, Nat.reduceLeDiff, Nat.reduceEqDiff, Nat.reduceBEq, Nat.reduceBNe]
      refine cnd_s 10000 h (fun hb h => ?_) (fun hb h => ?_)
      · skip
        simp only [go_sem, Nat.reduceAdd, Nat.reduceLT, Nat.reduceLeDiff, Nat.reduceEqDiff, Nat.reduceBEq, Nat.reduceBNe]
        refine blk_ 10000 ?_
        simp only [go_sem, Nat.reduceAdd, Nat.reduceLT, Nat.reduceLeDiff, Nat.reduceEqDiff, Nat.reduceBEq, Nat.reduceBNe]
        refine bsome h fun y6 hy6 h => ?_
        refine rgJ 32 10000 (.inl rfl) (fun w => w [(0, .str s), (3, .sl (some none) (List.map AV.str v3)), (4, .int .i64 v4), (5, .int .i64 v5), (21, .bool y6)] []) (runX 10000 ?_) (fun Jy6 => ?_)
        · clear hy6
          simp only [go_sem, Nat.reduceAdd, Nat.reduceLT, Nat.reduceLeDiff, Nat.reduceEqDiff, Nat.reduceBEq, Nat.reduceBNe]
          refine bsome h fun y12 hy12 h => ?_
          refine cndJ 32 10000 (fun w => w [(0, .str s), (3, .sl (some none) (List.map AV.str y12.1)), (4, .int .i64 y12.2), (5, .int .i64 v5)] []) (runX 10000 ?_) (fun Jy12 => ?_)
          · clear hy12
            refine add_s h fun v23 _ e22 h => ?_
            simp only [go_sem, Nat.reduceAdd, Nat.reduceLT, Nat.reduceLeDiff, Nat.reduceEqDiff, Nat.reduceBEq, Nat.reduceBNe, e22]
            exact lp_back (ih1 y12.1 y12.2 v23 h) ⟨rfl, rfl, rfl, rfl, trivial⟩
          · clear h
            have h := hy12
            refine cnd_s 10000 h (fun hb h => ?_) (fun hb h => ?_)
            · skip
              refine subS_s (some (.int .i64 v4)) (some (.int .i64 v5)) rfl rfl h fun v16 _ b14 e15 h => ?_
              refine app_s AV.str (some none) ⟨9, 1, false, 16⟩ (fun _ => rfl) (by decide) rfl h fun v19 _ (b17 : appc ⟨9, 1, false, 16⟩ (.sl (some none) (List.map AV.str v3)) (.sl (some none) [.str v16])) (e18 : appv (.sl (some none) (List.map AV.str v3)) (.sl (some none) [.str v16]) = .sl (some none) (List.map AV.str v19)) h => ?_
              refine add_s h fun v21 _ e20 h => ?_
              simp only [go_sem, Nat.reduceAdd, Nat.reduceLT, Nat.reduceLeDiff, Nat.reduceEqDiff, Nat.reduceBEq, Nat.reduceBNe, b14, e15, b17, e18, e20]
              obtain rfl := Option.some.inj h
              exact atJ (wkn (Jy12) ⟨rfl, rfl, rfl, rfl, trivial⟩)
            · skip
              simp only [go_sem, Nat.reduceAdd, Nat.reduceLT, Nat.reduceLeDiff, Nat.reduceEqDiff, Nat.reduceBEq, Nat.reduceBNe]
              obtain rfl := Option.some.inj h
              exact atJ (wkn (Jy12) ⟨rfl, rfl, rfl, rfl, trivial⟩)
        · clear h
          have h := hy6
          simp only [go_sem, Nat.reduceAdd, Nat.reduceLT, Nat.reduceLeDiff, Nat.reduceEqDiff, Nat.reduceBEq, Nat.reduceBNe]
          refine grd_ (fun hb8 => ?_) (fun hb8 => ?_)
          · skip
            have h := ite_f hb8 h
            refine sIdx_s .i64 h fun v11 _ b9 e10 h => ?_
            simp only [go_sem, Nat.reduceAdd, Nat.reduceLT, Nat.reduceLeDiff, Nat.reduceEqDiff, Nat.reduceBEq, Nat.reduceBNe, b9, e10]
            obtain rfl := Option.some.inj h
            exact atJ (wkn (Jy6) ⟨rfl, rfl, rfl, rfl, rfl, trivial⟩)
          · skip
            have h := ite_t hb8 h
            simp only [go_sem, Nat.reduceAdd, Nat.reduceLT, Nat.reduceLeDiff, Nat.reduceEqDiff, Nat.reduceBEq, Nat.reduceBNe]
            obtain rfl := Option.some.inj h
            exact atJ (wkn (Jy6) ⟨rfl, rfl, rfl, rfl, rfl, trivial⟩)
      · skip
        simp only [go_sem, Nat.reduceAdd, Nat.reduceLT, Nat.reduceLeDiff, Nat.reduceEqDiff, Nat.reduceBEq, Nat.reduceBNe]
        obtain rfl := Option.some.inj h
        exact atJ (wkn (Jy1) ⟨rfl, trivial⟩)
    · exact lp_back (L1 [] 0 0 h) ⟨rfl, rfl, rfl, rfl, trivial⟩
theorem w_ref30_num {s : Str}   {r : (Int × Bool)} (h : ref30_num s = some r) : ACall Tryz.prog 37 [.str s] [] (.tup [.int .i64 r.1, .bool r.2]) [] := by
  refine acallX 10000 hf37 ok37 (by first | rfl | simp only [go_sem]) meek_tup ?_
  dsimp only [Tryz.f37, nums, Option.getD, List.append]
  unfold ref30_num at h
  simp only [go_sem, Nat.reduceAdd, Nat.reduceLT, Nat.reduceLeDiff, Nat.reduceEqDiff, Nat.reduceBEq, Nat.reduceBNe]
  refine bsome h fun y1 hy1 h => ?_
  refine rgJ 75 10000 (.inl rfl) (fun w => w [(0, .str s), (4, .str s), (5, .bool y1)] []) (runX 10000 ?_) (fun Jy1 => ?_)
  · clear hy1
    simp only [go_sem, Nat.reduceAdd, Nat.reduceLT, Nat.reduceLeDiff, Nat.reduceEqDiff, Nat.reduceBEq, Nat.reduceBNe]
    refine bsome h fun y7 hy7 h => ?_
    refine cndJ 75 10000 (fun w => w [(4, .str y7), (5, .bool y1)] []) (runX 10000 ?_) (fun Jy7 => ?_)
    · clear hy7
      simp only [go_sem, Nat.reduceAdd, Nat.reduceLT, Nat.reduceLeDiff, Nat.reduceEqDiff, Nat.reduceBEq, Nat.reduceBNe]
      refine bsome h fun y12 hy12 h => ?_
      refine rgJ 75 10000 (.inl rfl) (fun w => w [(4, .str y7), (5, .bool y1), (40, .bool y12)] []) (runX 10000 ?_) (fun Jy12 => ?_)
      · clear hy12
        simp only [go_sem, Nat.reduceAdd, Nat.reduceLT, Nat.reduceLeDiff, Nat.reduceEqDiff, Nat.reduceBEq, Nat.reduceBNe]
        refine cnd_s 10000 h (fun hb h => ?_) (fun hb h => ?_)
        · skip
          simp only [go_sem, Nat.reduceAdd, Nat.reduceLT, Nat.reduceLeDiff, Nat.reduceEqDiff, Nat.reduceBEq, Nat.reduceBNe]
          refine ret_s (fun x => .tup [.int .i64 x.1, .bool x.2]) h ?_
          first | rfl | simp only [go_sem, resAV, resAll, resOne]
        · skip
          simp only [go_sem, Nat.reduceAdd, Nat.reduceLT, Nat.reduceLeDiff, Nat.reduceEqDiff, Nat.reduceBEq, Nat.reduceBNe]
          refine letK_s h fun K22 hK22 h => ?_
          refine blkJ 75 10000 (fun w => ∀ (v38 : Int), K22 v38 = some r → w [(5, .bool y1), (6, .int .u64 v38)] []) (fun v38 h => runX 10000 ?_) (fun JK22 => ?_)
          · subst hK22
            dsimp only at h
            simp only [go_sem, Nat.reduceAdd, Nat.reduceLT, Nat.reduceLeDiff, Nat.reduceEqDiff, Nat.reduceBEq, Nat.reduceBNe]
            refine cnd_s 10000 h (fun hb h => ?_) (fun hb h => ?_)
            · skip
              simp only [go_sem, Nat.reduceAdd, Nat.reduceLT, Nat.reduceLeDiff, Nat.reduceEqDiff, Nat.reduceBEq, Nat.reduceBNe, (cvw_e (s := 109) (k := .u64) io3 v38), (show unv .neg (.int .i64 (IntKind.wrap .i64 v38)) = .int .i64 (IntKind.wrap .i64 (0 - (IntKind.wrap .i64 v38))) from rfl)]
              refine ret_s (fun x => .tup [.int .i64 x.1, .bool x.2]) h ?_
              first | rfl | simp only [go_sem, resAV, resAll, resOne]
            · skip
              simp only [go_sem, Nat.reduceAdd, Nat.reduceLT, Nat.reduceLeDiff, Nat.reduceEqDiff, Nat.reduceBEq, Nat.reduceBNe, (cvw_e (s := 109) (k := .u64) io3 v38)]
              refine ret_s (fun x => .tup [.int .i64 x.1, .bool x.2]) h ?_
              first | rfl | simp only [go_sem, resAV, resAll, resOne]
          · clear hK22
            simp only [go_sem, Nat.reduceAdd, Nat.reduceLT, Nat.reduceLeDiff, Nat.reduceEqDiff, Nat.reduceBEq, Nat.reduceBNe]
            refine lpJ 75 fuel (fun q1 w => ∀ (v23 : Int) (v24 : Int), ref30_num_l1 y7 K22 q1 v23 v24 = some r → w [(4, .str y7), (5, .bool y1), (6, .int .u64 v23), (7, .int .i64 v24)] []) (fun w _ _ h => nomatch h) (fun q1 ih1 v23 v24 h => ?_) (fun L1 => ?_)
            · unfold ref30_num_l1 at h
              refine runL 10000 ?_
              simp only [go_sem, Nat.reduceAdd, Nat.reduceLT, Nat.reduceLeDiff, Nat.reduceEqDiff, Nat.reduceBEq, Nat.reduceBNe]
              refine cnd_s 10000 h (fun hb h => ?_) (fun hb h => ?_)
              · skip
                simp only [go_sem, Nat.reduceAdd, Nat.reduceLT, Nat.reduceLeDiff, Nat.reduceEqDiff, Nat.reduceBEq, Nat.reduceBNe]
                refine blk_ 10000 ?_
                simp only [go_sem, Nat.reduceAdd, Nat.reduceLT, Nat.reduceLeDiff, Nat.reduceEqDiff, Nat.reduceBEq, Nat.reduceBNe]
                refine bsome h fun y25 hy25 h => ?_
                refine rgJ 75 10000 (.inl rfl) (fun w => w [(4, .str y7), (5, .bool y1), (6, .int .u64 v23), (7, .int .i64 v24), (56, .bool y25)] []) (runX 10000 ?_) (fun Jy25 => ?_)
                · clear hy25
                  simp only [go_sem, Nat.reduceAdd, Nat.reduceLT, Nat.reduceLeDiff, Nat.reduceEqDiff, Nat.reduceBEq, Nat.reduceBNe]
                  refine cnd_s 10000 h (fun hb h => ?_) (fun hb h => ?_)
                  · skip
                    simp only [go_sem, Nat.reduceAdd, Nat.reduceLT, Nat.reduceLeDiff, Nat.reduceEqDiff, Nat.reduceBEq, Nat.reduceBNe]
                    refine ret_s (fun x => .tup [.int .i64 x.1, .bool x.2]) h ?_
                    first | rfl | simp only [go_sem, resAV, resAll, resOne]
                  · skip
                    refine sIdx_s .i64 h fun v35 _ b33 e34 h => ?_
                    refine add_s h fun v37 _ e36 h => ?_
                    simp only [go_sem, Nat.reduceAdd, Nat.reduceLT, Nat.reduceLeDiff, Nat.reduceEqDiff, Nat.reduceBEq, Nat.reduceBNe, (show intv .mul .u64 v23 10 = .int .u64 (IntKind.wrap .u64 (v23 * 10)) from rfl), b33, e34, (show intv .sub .u8 v35 48 = .int .u8 (IntKind.wrap .u8 (v35 - 48)) from rfl), (cvw_e (s := 5) (k := .u8) io109 (IntKind.wrap .u8 (v35 - 48))), (show intv .add .u64 (IntKind.wrap .u64 (v23 * 10)) (IntKind.wrap .u64 (IntKind.wrap .u8 (v35 - 48))) = .int .u64 (IntKind.wrap .u64 ((IntKind.wrap .u64 (v23 * 10)) + (IntKind.wrap .u64 (IntKind.wrap .u8 (v35 - 48))))) from rfl), e36]
                    exact lp_back (ih1 (IntKind.wrap .u64 ((IntKind.wrap .u64 (v23 * 10)) + (IntKind.wrap .u64 (IntKind.wrap .u8 (v35 - 48))))) v37 h) ⟨rfl, rfl, rfl, rfl, trivial⟩
                · clear h
                  have h := hy25
                  refine sIdx_s .i64 h fun v29 _ b27 e28 h => ?_
                  simp only [go_sem, Nat.reduceAdd, Nat.reduceLT, Nat.reduceLeDiff, Nat.reduceEqDiff, Nat.reduceBEq, Nat.reduceBNe, b27, e28]
                  refine grd_ (fun hb30 => ?_) (fun hb30 => ?_)
                  · skip
                    have h := ite_f hb30 h
                    simp only [go_sem, Nat.reduceAdd, Nat.reduceLT, Nat.reduceLeDiff, Nat.reduceEqDiff, Nat.reduceBEq, Nat.reduceBNe, b27, e28]
                    obtain rfl := Option.some.inj h
                    exact atJ (wkn (Jy25) ⟨rfl, rfl, rfl, rfl, rfl, trivial⟩)
                  · skip
                    have h := ite_t hb30 h
                    simp only [go_sem, Nat.reduceAdd, Nat.reduceLT, Nat.reduceLeDiff, Nat.reduceEqDiff, Nat.reduceBEq, Nat.reduceBNe]
                    obtain rfl := Option.some.inj h
                    exact atJ (wkn (Jy25) ⟨rfl, rfl, rfl, rfl, rfl, trivial⟩)
              · skip
                simp only [go_sem, Nat.reduceAdd, Nat.reduceLT, Nat.reduceLeDiff, Nat.reduceEqDiff, Nat.reduceBEq, Nat.reduceBNe]
                exact atJ (wkn (JK22 v23 h) ⟨rfl, rfl, trivial⟩)
            · exact lp_back (L1 0 0 h) ⟨rfl, rfl, rfl, rfl, trivial⟩
      · clear h
        have h := hy12
        simp only [go_sem, Nat.reduceAdd, Nat.reduceLT, Nat.reduceLeDiff, Nat.reduceEqDiff, Nat.reduceBEq, Nat.reduceBNe]
        refine grd_ (fun hb14 => ?_) (fun hb14 => ?_)
        · skip
          have h := ite_f hb14 h
          simp only [go_sem, Nat.reduceAdd, Nat.reduceLT, Nat.reduceLeDiff, Nat.reduceEqDiff, Nat.reduceBEq, Nat.reduceBNe]
          refine grd_ (fun hb15 => ?_) (fun hb15 => ?_)
          · skip
            have h := ite_f hb15 h
            refine sIdx_s .i64 h fun v18 _ b16 e17 h => ?_
            simp only [go_sem, Nat.reduceAdd, Nat.reduceLT, Nat.reduceLeDiff, Nat.reduceEqDiff, Nat.reduceBEq, Nat.reduceBNe, b16, e17]
            refine grd_ (fun hb19 => ?_) (fun hb19 => ?_)
            · skip
              have h := ite_t hb19 h
              simp only [go_sem, Nat.reduceAdd, Nat.reduceLT, Nat.reduceLeDiff, Nat.reduceEqDiff, Nat.reduceBEq, Nat.reduceBNe]
              refine grd_ (fun hb20 => ?_) (fun hb20 => ?_)
              · skip
                have h := ite_f hb20 h
                simp only [go_sem, Nat.reduceAdd, Nat.reduceLT, Nat.reduceLeDiff, Nat.reduceEqDiff, Nat.reduceBEq, Nat.reduceBNe]
                obtain rfl := Option.some.inj h
                exact atJ (wkn (Jy12) ⟨rfl, rfl, rfl, trivial⟩)
              · skip
                have h := ite_t hb20 h
                simp only [go_sem, Nat.reduceAdd, Nat.reduceLT, Nat.reduceLeDiff, Nat.reduceEqDiff, Nat.reduceBEq, Nat.reduceBNe]
                obtain rfl := Option.some.inj h
                exact atJ (wkn (Jy12) ⟨rfl, rfl, rfl, trivial⟩)
            · skip
              have h := ite_f hb19 h
              simp only [go_sem, Nat.reduceAdd, Nat.reduceLT, Nat.reduceLeDiff, Nat.reduceEqDiff, Nat.reduceBEq, Nat.reduceBNe]
              obtain rfl := Option.some.inj h
              exact atJ (wkn (Jy12) ⟨rfl, rfl, rfl, trivial⟩)
          · skip
            have h := ite_t hb15 h
            simp only [go_sem, Nat.reduceAdd, Nat.reduceLT, Nat.reduceLeDiff, Nat.reduceEqDiff, Nat.reduceBEq, Nat.reduceBNe]
            obtain rfl := Option.some.inj h
            exact atJ (wkn (Jy12) ⟨rfl, rfl, rfl, trivial⟩)
        · skip
          have h := ite_t hb14 h
          simp only [go_sem, Nat.reduceAdd, Nat.reduceLT, Nat.reduceLeDiff, Nat.reduceEqDiff, Nat.reduceBEq, Nat.reduceBNe]
          obtain rfl := Option.some.inj h
          exact atJ (wkn (Jy12) ⟨rfl, rfl, rfl, trivial⟩)
    · clear h
      have h := hy7
      refine cnd_s 10000 h (fun hb h => ?_) (fun hb h => ?_)
      · skip
        refine subS_s (some (.int .i64 1)) none rfl rfl h fun v11 _ b9 e10 h => ?_
        simp only [go_sem, Nat.reduceAdd, Nat.reduceLT, Nat.reduceLeDiff, Nat.reduceEqDiff, Nat.reduceBEq, Nat.reduceBNe, b9, e10]
        obtain rfl := Option.some.inj h
        exact atJ (wkn (Jy7) ⟨rfl, rfl, trivial⟩)
      · skip
        simp only [go_sem, Nat.reduceAdd, Nat.reduceLT, Nat.reduceLeDiff, Nat.reduceEqDiff, Nat.reduceBEq, Nat.reduceBNe]
        obtain rfl := Option.some.inj h
        exact atJ (wkn (Jy7) ⟨rfl, rfl, trivial⟩)
  · clear h
    have h := hy1
    simp only [go_sem, Nat.reduceAdd, Nat.reduceLT, Nat.reduceLeDiff, Nat.reduceEqDiff, Nat.reduceBEq, Nat.reduceBNe]
    refine grd_ (fun hb3 => ?_) (fun hb3 => ?_)
    · skip
      have h := ite_t hb3 h
      refine sIdx_s .i64 h fun v6 _ b4 e5 h => ?_
      simp only [go_sem, Nat.reduceAdd, Nat.reduceLT, Nat.reduceLeDiff, Nat.reduceEqDiff, Nat.reduceBEq, Nat.reduceBNe, b4, e5]
      obtain rfl := Option.some.inj h
      exact atJ (wkn (Jy1) ⟨rfl, rfl, rfl, trivial⟩)
    · skip
      have h := ite_f hb3 h
      simp only [go_sem, Nat.reduceAdd, Nat.reduceLT, Nat.reduceLeDiff, Nat.reduceEqDiff, Nat.reduceBEq, Nat.reduceBNe]
      obtain rfl := Option.some.inj h
      exact atJ (wkn (Jy1) ⟨rfl, rfl, rfl, trivial⟩)
theorem w_ref11_Value {n : Int} {p1_v : ref11_Val}   {r : Bool} (h : ref11_Value n p1_v = some r) : ACall Tryz.prog 32 [.int .i64 n, enc_ref11_Val p1_v] [] (.bool r) [] := by
  refine acallX 10000 hf32 ok32 (by first | rfl | simp only [go_sem]) meek_bool ?_
  dsimp only [Tryz.f32, nums, Option.getD, List.append]
  unfold ref11_Value at h
  simp only [go_sem, Nat.reduceAdd, Nat.reduceLT, Nat.reduceLeDiff, Nat.reduceEqDiff, Nat.reduceBEq, Nat.reduceBNe]
  refine rgJ 53 10000 (.inl rfl) (fun w => w [(3, .ptr 0 0), (13, .bool ((decide (p1_v.L < 0)) || (decide (n ≤ p1_v.L))))] [some [.int .u8 p1_v.K, .int .i64 p1_v.N, .int .i64 p1_v.L]]) (runX 10000 ?_) (fun Jg1 => ?_)
  · skip
    simp only [go_sem, Nat.reduceAdd, Nat.reduceLT, Nat.reduceLeDiff, Nat.reduceEqDiff, Nat.reduceBEq, Nat.reduceBNe]
    refine cnd_s 10000 h (fun hb h => ?_) (fun hb h => ?_)
    · skip
      simp only [go_sem, Nat.reduceAdd, Nat.reduceLT, Nat.reduceLeDiff, Nat.reduceEqDiff, Nat.reduceBEq, Nat.reduceBNe]
      refine ret_s (fun x => .bool x) h ?_
      first | rfl | simp only [go_sem, resAV, resAll, resOne]
    · skip
      simp only [go_sem, Nat.reduceAdd, Nat.reduceLT, Nat.reduceLeDiff, Nat.reduceEqDiff, Nat.reduceBEq, Nat.reduceBNe]
      refine blk_ 10000 ?_
      simp only [go_sem, Nat.reduceAdd, Nat.reduceLT, Nat.reduceLeDiff, Nat.reduceEqDiff, Nat.reduceBEq, Nat.reduceBNe]
      refine bsome h fun y2 hy2 h => ?_
      refine cndJ 53 10000 (fun w => w [(3, .ptr 0 0), (15, .int .u8 p1_v.K), (16, .bool y2)] [some [.int .u8 p1_v.K, .int .i64 p1_v.N, .int .i64 p1_v.L]]) (runX 10000 ?_) (fun Jy2 => ?_)
      · clear hy2
        simp only [go_sem, Nat.reduceAdd, Nat.reduceLT, Nat.reduceLeDiff, Nat.reduceEqDiff, Nat.reduceBEq, Nat.reduceBNe]
        refine cnd_s 10000 h (fun hb h => ?_) (fun hb h => ?_)
        · skip
          simp only [go_sem, Nat.reduceAdd, Nat.reduceLT, Nat.reduceLeDiff, Nat.reduceEqDiff, Nat.reduceBEq, Nat.reduceBNe]
          refine ret_s (fun x => .bool x) h ?_
          first | rfl | simp only [go_sem, resAV, resAll, resOne]
        · skip
          simp only [go_sem, Nat.reduceAdd, Nat.reduceLT, Nat.reduceLeDiff, Nat.reduceEqDiff, Nat.reduceBEq, Nat.reduceBNe]
          refine cnd_s 10000 h (fun hb h => ?_) (fun hb h => ?_)
          · skip
            simp only [go_sem, Nat.reduceAdd, Nat.reduceLT, Nat.reduceLeDiff, Nat.reduceEqDiff, Nat.reduceBEq, Nat.reduceBNe]
            refine rgJ 53 10000 (.inl rfl) (fun w => w [(4, .bool ((decide (((-2305843009213693952) : Int) ≤ p1_v.N)) && (decide (p1_v.N ≤ 2305843009213693951))))] [some [.int .u8 p1_v.K, .int .i64 p1_v.N, .int .i64 p1_v.L]]) (runX 10000 ?_) (fun Jg6 => ?_)
            · skip
              simp only [go_sem, Nat.reduceAdd, Nat.reduceLT, Nat.reduceLeDiff, Nat.reduceEqDiff, Nat.reduceBEq, Nat.reduceBNe]
              refine ret_s (fun x => .bool x) h ?_
              first | rfl | simp only [go_sem, resAV, resAll, resOne]
            · skip
              simp only [go_sem, Nat.reduceAdd, Nat.reduceLT, Nat.reduceLeDiff, Nat.reduceEqDiff, Nat.reduceBEq, Nat.reduceBNe]
              refine grd_ (fun hb7 => ?_) (fun hb7 => ?_)
              · skip
                simp only [go_sem, Nat.reduceAdd, Nat.reduceLT, Nat.reduceLeDiff, Nat.reduceEqDiff, Nat.reduceBEq, Nat.reduceBNe]
                exact atJ (wkn Jg6 ⟨congrArg AV.bool (by first | rfl | (rw [hb7]; rfl) | (simp [hb7]; done) | simp_all), trivial⟩)
              · skip
                simp only [go_sem, Nat.reduceAdd, Nat.reduceLT, Nat.reduceLeDiff, Nat.reduceEqDiff, Nat.reduceBEq, Nat.reduceBNe]
                exact atJ (wkn Jg6 ⟨congrArg AV.bool (by first | rfl | (rw [hb7]; rfl) | (simp [hb7]; done) | simp_all), trivial⟩)
          · skip
            simp only [go_sem, Nat.reduceAdd, Nat.reduceLT, Nat.reduceLeDiff, Nat.reduceEqDiff, Nat.reduceBEq, Nat.reduceBNe]
            refine cnd_s 10000 h (fun hb h => ?_) (fun hb h => ?_)
            · skip
              simp only [go_sem, Nat.reduceAdd, Nat.reduceLT, Nat.reduceLeDiff, Nat.reduceEqDiff, Nat.reduceBEq, Nat.reduceBNe]
              refine rgJ 53 10000 (.inl rfl) (fun w => w [(4, .bool ((decide ((0 : Int) ≤ p1_v.N)) && (decide (p1_v.N ≤ 65535))))] [some [.int .u8 p1_v.K, .int .i64 p1_v.N, .int .i64 p1_v.L]]) (runX 10000 ?_) (fun Jg8 => ?_)
              · skip
                simp only [go_sem, Nat.reduceAdd, Nat.reduceLT, Nat.reduceLeDiff, Nat.reduceEqDiff, Nat.reduceBEq, Nat.reduceBNe]
                refine ret_s (fun x => .bool x) h ?_
                first | rfl | simp only [go_sem, resAV, resAll, resOne]
              · skip
                simp only [go_sem, Nat.reduceAdd, Nat.reduceLT, Nat.reduceLeDiff, Nat.reduceEqDiff, Nat.reduceBEq, Nat.reduceBNe]
                refine grd_ (fun hb9 => ?_) (fun hb9 => ?_)
                · skip
                  simp only [go_sem, Nat.reduceAdd, Nat.reduceLT, Nat.reduceLeDiff, Nat.reduceEqDiff, Nat.reduceBEq, Nat.reduceBNe]
                  exact atJ (wkn Jg8 ⟨congrArg AV.bool (by first | rfl | (rw [hb9]; rfl) | (simp [hb9]; done) | simp_all), trivial⟩)
                · skip
                  simp only [go_sem, Nat.reduceAdd, Nat.reduceLT, Nat.reduceLeDiff, Nat.reduceEqDiff, Nat.reduceBEq, Nat.reduceBNe]
                  exact atJ (wkn Jg8 ⟨congrArg AV.bool (by first | rfl | (rw [hb9]; rfl) | (simp [hb9]; done) | simp_all), trivial⟩)
            · skip
              simp only [go_sem, Nat.reduceAdd, Nat.reduceLT, Nat.reduceLeDiff, Nat.reduceEqDiff, Nat.reduceBEq, Nat.reduceBNe]
              refine cnd_s 10000 h (fun hb h => ?_) (fun hb h => ?_)
              · skip
                simp only [go_sem, Nat.reduceAdd, Nat.reduceLT, Nat.reduceLeDiff, Nat.reduceEqDiff, Nat.reduceBEq, Nat.reduceBNe]
                refine rgJ 53 10000 (.inl rfl) (fun w => w [(4, .bool ((decide ((0 : Int) ≤ p1_v.N)) && (decide (p1_v.N ≤ 63))))] [some [.int .u8 p1_v.K, .int .i64 p1_v.N, .int .i64 p1_v.L]]) (runX 10000 ?_) (fun Jg10 => ?_)
                · skip
                  simp only [go_sem, Nat.reduceAdd, Nat.reduceLT, Nat.reduceLeDiff, Nat.reduceEqDiff, Nat.reduceBEq, Nat.reduceBNe]
                  refine ret_s (fun x => .bool x) h ?_
                  first | rfl | simp only [go_sem, resAV, resAll, resOne]
                · skip
                  simp only [go_sem, Nat.reduceAdd, Nat.reduceLT, Nat.reduceLeDiff, Nat.reduceEqDiff, Nat.reduceBEq, Nat.reduceBNe]
                  refine grd_ (fun hb11 => ?_) (fun hb11 => ?_)
                  · skip
                    simp only [go_sem, Nat.reduceAdd, Nat.reduceLT, Nat.reduceLeDiff, Nat.reduceEqDiff, Nat.reduceBEq, Nat.reduceBNe]
                    exact atJ (wkn Jg10 ⟨congrArg AV.bool (by first | rfl | (rw [hb11]; rfl) | (simp [hb11]; done) | simp_all), trivial⟩)
                  · skip
                    simp only [go_sem, Nat.reduceAdd, Nat.reduceLT, Nat.reduceLeDiff, Nat.reduceEqDiff, Nat.reduceBEq, Nat.reduceBNe]
                    exact atJ (wkn Jg10 ⟨congrArg AV.bool (by first | rfl | (rw [hb11]; rfl) | (simp [hb11]; done) | simp_all), trivial⟩)
              · skip
                simp only [go_sem, Nat.reduceAdd, Nat.reduceLT, Nat.reduceLeDiff, Nat.reduceEqDiff, Nat.reduceBEq, Nat.reduceBNe]
                refine ret_s (fun x => .bool x) h ?_
                first | rfl | simp only [go_sem, resAV, resAll, resOne]
      · clear h
        have h := hy2
        refine cnd_s 10000 h (fun hb h => ?_) (fun hb h => ?_)
        · skip
          simp only [go_sem, Nat.reduceAdd, Nat.reduceLT, Nat.reduceLeDiff, Nat.reduceEqDiff, Nat.reduceBEq, Nat.reduceBNe]
          obtain rfl := Option.some.inj h
          exact atJ (wkn (Jy2) ⟨rfl, rfl, rfl, trivial⟩)
        · skip
          simp only [go_sem, Nat.reduceAdd, Nat.reduceLT, Nat.reduceLeDiff, Nat.reduceEqDiff, Nat.reduceBEq, Nat.reduceBNe]
          refine bsome h fun y4 hy4 h => ?_
          refine cndJ 53 10000 (fun w => w [(3, .ptr 0 0), (15, .int .u8 p1_v.K), (16, .bool y4)] [some [.int .u8 p1_v.K, .int .i64 p1_v.N, .int .i64 p1_v.L]]) (runX 10000 ?_) (fun Jy4 => ?_)
          · clear hy4
            simp only [go_sem, Nat.reduceAdd, Nat.reduceLT, Nat.reduceLeDiff, Nat.reduceEqDiff, Nat.reduceBEq, Nat.reduceBNe]
            obtain rfl := Option.some.inj h
            exact atJ (wkn (Jy2) ⟨rfl, rfl, rfl, trivial⟩)
          · clear h
            have h := hy4
            refine cnd_s 10000 h (fun hb h => ?_) (fun hb h => ?_)
            · skip
              simp only [go_sem, Nat.reduceAdd, Nat.reduceLT, Nat.reduceLeDiff, Nat.reduceEqDiff, Nat.reduceBEq, Nat.reduceBNe]
              obtain rfl := Option.some.inj h
              exact atJ (wkn (Jy4) ⟨rfl, rfl, rfl, trivial⟩)
            · skip
              simp only [go_sem, Nat.reduceAdd, Nat.reduceLT, Nat.reduceLeDiff, Nat.reduceEqDiff, Nat.reduceBEq, Nat.reduceBNe]
              obtain rfl := Option.some.inj h
              exact atJ (wkn (Jy4) ⟨rfl, rfl, rfl, trivial⟩)
  · skip
    simp only [go_sem, Nat.reduceAdd, Nat.reduceLT, Nat.reduceLeDiff, Nat.reduceEqDiff, Nat.reduceBEq, Nat.reduceBNe]
    refine grd_ (fun hb12 => ?_) (fun hb12 => ?_)
    · skip
      simp only [go_sem, Nat.reduceAdd, Nat.reduceLT, Nat.reduceLeDiff, Nat.reduceEqDiff, Nat.reduceBEq, Nat.reduceBNe]
      exact atJ (wkn Jg1 ⟨rfl, congrArg AV.bool (by first | rfl | (rw [hb12]; rfl) | (simp [hb12]; done) | simp_all), trivial⟩)
    · skip
      simp only [go_sem, Nat.reduceAdd, Nat.reduceLT, Nat.reduceLeDiff, Nat.reduceEqDiff, Nat.reduceBEq, Nat.reduceBNe]
      exact atJ (wkn Jg1 ⟨rfl, congrArg AV.bool (by first | rfl | (rw [hb12]; rfl) | (simp [hb12]; done) | simp_all), trivial⟩)
theorem w_ref30_value {s : Str}   {r : (ref11_Val × Bool)} (h : ref30_value s = some r) : ACall Tryz.prog 38 [.str s] [] (.tup [enc_ref11_Val r.1, .bool r.2]) [] := by
  refine acallX 10000 hf38 ok38 (by first | rfl | simp only [go_sem]) meek_tup ?_
  dsimp only [Tryz.f38, nums, Option.getD, List.append]
  unfold ref30_value at h
  simp only [go_sem, Nat.reduceAdd, Nat.reduceLT, Nat.reduceLeDiff, Nat.reduceEqDiff, Nat.reduceBEq, Nat.reduceBNe]
  refine bsome h fun y1 hy1 h => ?_
  refine blkJ 94 10000 (fun w => w [(0, .str s), (2, .ptr 0 0), (4, .int .i64 y1)] [some [.int .u8 0, .int .i64 0, .int .i64 0]]) (runX 10000 ?_) (fun Jy1 => ?_)
  · clear hy1
    simp only [go_sem, Nat.reduceAdd, Nat.reduceLT, Nat.reduceLeDiff, Nat.reduceEqDiff, Nat.reduceBEq, Nat.reduceBNe]
    refine cnd_s 10000 h (fun hb h => ?_) (fun hb h => ?_)
    · skip
      simp only [go_sem, Nat.reduceAdd, Nat.reduceLT, Nat.reduceLeDiff, Nat.reduceEqDiff, Nat.reduceBEq, Nat.reduceBNe]
      refine ret_s (fun x => .tup [enc_ref11_Val x.1, .bool x.2]) h ?_
      first | rfl | simp only [go_sem, resAV, resAll, resOne]
    · skip
      refine add_s h fun v13 _ e12 h => ?_
      refine subS_s (some (.int .i64 v13)) none rfl rfl h fun v16 _ b14 e15 h => ?_
      refine bsome h fun v17 hv17 h => ?_
      simp only [go_sem, Nat.reduceAdd, Nat.reduceLT, Nat.reduceLeDiff, Nat.reduceEqDiff, Nat.reduceBEq, Nat.reduceBNe, e12, b14, e15]
      refine callX_ 10000 (w_ref30_num  hv17) (by first | rfl | simp only [go_sem]) (by first | rfl | simp only [go_sem]) ?_
      refine subS_s none (some (.int .i64 y1)) rfl rfl h fun v20 _ b18 e19 h => ?_
      simp only [go_sem, Nat.reduceAdd, Nat.reduceLT, Nat.reduceLeDiff, Nat.reduceEqDiff, Nat.reduceBEq, Nat.reduceBNe, b18, e19]
      refine rgJ 94 10000 (.inl rfl) (fun w => w [(2, .ptr 0 0), (6, .bool v17.2), (7, .str v20), (8, .ptr 1 0), (9, .bool true), (49, .bool (((v20 == [110, 105, 108]) || (v20 == [102, 97, 108, 115, 101])) || (v20 == [116, 114, 117, 101])))] [some [.int .u8 0, .int .i64 0, .int .i64 0], some [.int .u8 3, .int .i64 0, .int .i64 v17.1]]) (runX 10000 ?_) (fun Jg21 => ?_)
      · skip
        simp only [go_sem, Nat.reduceAdd, Nat.reduceLT, Nat.reduceLeDiff, Nat.reduceEqDiff, Nat.reduceBEq, Nat.reduceBNe]
        refine bsome h fun y22 hy22 h => ?_
        refine cndJ 94 10000 (fun w => w [(2, .ptr 0 0), (6, .bool v17.2), (8, .ptr 1 0), (9, .bool y22.1)] [some [.int .u8 0, .int .i64 0, .int .i64 0], some [.int .u8 y22.2.K, .int .i64 y22.2.N, .int .i64 y22.2.L]]) (runX 10000 ?_) (fun Jy22 => ?_)
        · clear hy22
          simp only [go_sem, Nat.reduceAdd, Nat.reduceLT, Nat.reduceLeDiff, Nat.reduceEqDiff, Nat.reduceBEq, Nat.reduceBNe]
          refine bsome h fun y51 hy51 h => ?_
          refine rgJ 94 10000 (.inr ⟨[(2, 0), (8, 1)], by kernel_rfl, by kernel_rfl, by rfl⟩) (fun w => w [(2, .ptr 0 0), (3, .bool y51)] [some [.int .u8 y22.2.K, .int .i64 y22.2.N, .int .i64 y22.2.L], some [.int .u8 y22.2.K, .int .i64 y22.2.N, .int .i64 y22.2.L]]) (runX 10000 ?_) (fun Jy51 => ?_)
          · clear hy51
            simp only [go_sem, Nat.reduceAdd, Nat.reduceLT, Nat.reduceLeDiff, Nat.reduceEqDiff, Nat.reduceBEq, Nat.reduceBNe]
            refine ret_s (fun x => .tup [enc_ref11_Val x.1, .bool x.2]) h ?_
            first | rfl | simp only [go_sem, resAV, resAll, resOne]
          · clear h
            have h := hy51
            simp only [go_sem, Nat.reduceAdd, Nat.reduceLT, Nat.reduceLeDiff, Nat.reduceEqDiff, Nat.reduceBEq, Nat.reduceBNe]
            refine grd_ (fun hb53 => ?_) (fun hb53 => ?_)
            · skip
              have h := ite_t hb53 h
              simp only [go_sem, Nat.reduceAdd, Nat.reduceLT, Nat.reduceLeDiff, Nat.reduceEqDiff, Nat.reduceBEq, Nat.reduceBNe]
              refine grd_ (fun hb54 => ?_) (fun hb54 => ?_)
              · skip
                have h := ite_t hb54 h
                refine bsome h fun v55 hv55 h => ?_
                simp only [go_sem, Nat.reduceAdd, Nat.reduceLT, Nat.reduceLeDiff, Nat.reduceEqDiff, Nat.reduceBEq, Nat.reduceBNe]
                refine callX_ 10000 (w_ref11_Value  hv55) (by first | rfl | simp only [go_sem]) (by first | rfl | simp only [go_sem]) ?_
                simp only [go_sem, Nat.reduceAdd, Nat.reduceLT, Nat.reduceLeDiff, Nat.reduceEqDiff, Nat.reduceBEq, Nat.reduceBNe]
                obtain rfl := Option.some.inj h
                exact atJ (wkn (Jy51) ⟨rfl, rfl, trivial⟩)
              · skip
                have h := ite_f hb54 h
                simp only [go_sem, Nat.reduceAdd, Nat.reduceLT, Nat.reduceLeDiff, Nat.reduceEqDiff, Nat.reduceBEq, Nat.reduceBNe]
                obtain rfl := Option.some.inj h
                exact atJ (wkn (Jy51) ⟨rfl, rfl, trivial⟩)
            · skip
              have h := ite_f hb53 h
              simp only [go_sem, Nat.reduceAdd, Nat.reduceLT, Nat.reduceLeDiff, Nat.reduceEqDiff, Nat.reduceBEq, Nat.reduceBNe]
              obtain rfl := Option.some.inj h
              exact atJ (wkn (Jy51) ⟨rfl, rfl, trivial⟩)
        · clear h
          have h := hy22
          refine cnd_s 10000 h (fun hb h => ?_) (fun hb h => ?_)
          · skip
            simp only [go_sem, Nat.reduceAdd, Nat.reduceLT, Nat.reduceLeDiff, Nat.reduceEqDiff, Nat.reduceBEq, Nat.reduceBNe]
            refine bsome h fun y24 hy24 h => ?_
            refine cndJ 94 10000 (fun w => w [(2, .ptr 0 0), (6, .bool v17.2), (7, .str v20), (8, .ptr 1 0), (9, .bool true)] [some [.int .u8 0, .int .i64 0, .int .i64 0], some [.int .u8 y24, .int .i64 0, .int .i64 v17.1]]) (runX 10000 ?_) (fun Jy24 => ?_)
            · clear hy24
              simp only [go_sem, Nat.reduceAdd, Nat.reduceLT, Nat.reduceLeDiff, Nat.reduceEqDiff, Nat.reduceBEq, Nat.reduceBNe]
              refine bsome h fun y26 hy26 h => ?_
              refine cndJ 94 10000 (fun w => w [(2, .ptr 0 0), (6, .bool v17.2), (8, .ptr 1 0), (9, .bool true)] [some [.int .u8 0, .int .i64 0, .int .i64 0], some [.int .u8 y26, .int .i64 0, .int .i64 v17.1]]) (runX 10000 ?_) (fun Jy26 => ?_)
              · clear hy26
                simp only [go_sem, Nat.reduceAdd, Nat.reduceLT, Nat.reduceLeDiff, Nat.reduceEqDiff, Nat.reduceBEq, Nat.reduceBNe]
                obtain rfl := Option.some.inj h
                exact atJ (wkn (Jy22) ⟨rfl, rfl, rfl, rfl, trivial⟩)
              · clear h
                have h := hy26
                refine cnd_s 10000 h (fun hb h => ?_) (fun hb h => ?_)
                · skip
                  simp only [go_sem, Nat.reduceAdd, Nat.reduceLT, Nat.reduceLeDiff, Nat.reduceEqDiff, Nat.reduceBEq, Nat.reduceBNe]
                  obtain rfl := Option.some.inj h
                  exact atJ (wkn (Jy26) ⟨rfl, rfl, rfl, rfl, trivial⟩)
                · skip
                  simp only [go_sem, Nat.reduceAdd, Nat.reduceLT, Nat.reduceLeDiff, Nat.reduceEqDiff, Nat.reduceBEq, Nat.reduceBNe]
                  obtain rfl := Option.some.inj h
                  exact atJ (wkn (Jy26) ⟨rfl, rfl, rfl, rfl, trivial⟩)
            · clear h
              have h := hy24
              refine cnd_s 10000 h (fun hb h => ?_) (fun hb h => ?_)
              · skip
                simp only [go_sem, Nat.reduceAdd, Nat.reduceLT, Nat.reduceLeDiff, Nat.reduceEqDiff, Nat.reduceBEq, Nat.reduceBNe]
                obtain rfl := Option.some.inj h
                exact atJ (wkn (Jy24) ⟨rfl, rfl, rfl, rfl, rfl, trivial⟩)
              · skip
                simp only [go_sem, Nat.reduceAdd, Nat.reduceLT, Nat.reduceLeDiff, Nat.reduceEqDiff, Nat.reduceBEq, Nat.reduceBNe]
                obtain rfl := Option.some.inj h
                exact atJ (wkn (Jy24) ⟨rfl, rfl, rfl, rfl, rfl, trivial⟩)
          · skip
            simp only [go_sem, Nat.reduceAdd, Nat.reduceLT, Nat.reduceLeDiff, Nat.reduceEqDiff, Nat.reduceBEq, Nat.reduceBNe]
            refine bsome h fun y28 hy28 h => ?_
            refine rgJ 94 10000 (.inl rfl) (fun w => w [(2, .ptr 0 0), (6, .bool v17.2), (7, .str v20), (8, .ptr 1 0), (64, .bool y28)] [some [.int .u8 0, .int .i64 0, .int .i64 0], some [.int .u8 3, .int .i64 0, .int .i64 v17.1]]) (runX 10000 ?_) (fun Jy28 => ?_)
            · clear hy28
              simp only [go_sem, Nat.reduceAdd, Nat.reduceLT, Nat.reduceLeDiff, Nat.reduceEqDiff, Nat.reduceBEq, Nat.reduceBNe]
              refine bsome h fun y34 hy34 h => ?_
              refine cndJ 94 10000 (fun w => w [(2, .ptr 0 0), (6, .bool v17.2), (7, .str y34.1), (8, .ptr 1 0)] [some [.int .u8 0, .int .i64 0, .int .i64 0], some [.int .u8 y34.2, .int .i64 0, .int .i64 v17.1]]) (runX 10000 ?_) (fun Jy34 => ?_)
              · clear hy34
                refine bsome h fun v50 hv50 h => ?_
                simp only [go_sem, Nat.reduceAdd, Nat.reduceLT, Nat.reduceLeDiff, Nat.reduceEqDiff, Nat.reduceBEq, Nat.reduceBNe]
                refine callX_ 10000 (w_ref30_num  hv50) (by first | rfl | simp only [go_sem]) (by first | rfl | simp only [go_sem]) ?_
                simp only [go_sem, Nat.reduceAdd, Nat.reduceLT, Nat.reduceLeDiff, Nat.reduceEqDiff, Nat.reduceBEq, Nat.reduceBNe]
                obtain rfl := Option.some.inj h
                exact atJ (wkn (Jy22) ⟨rfl, rfl, rfl, rfl, trivial⟩)
              · clear h
                have h := hy34
                refine cnd_s 10000 h (fun hb h => ?_) (fun hb h => ?_)
                · skip
                  simp only [go_sem, Nat.reduceAdd, Nat.reduceLT, Nat.reduceLeDiff, Nat.reduceEqDiff, Nat.reduceBEq, Nat.reduceBNe]
                  refine rg_ 10000 (.inr ⟨[(8, 1), (67, 1)], by kernel_rfl, by kernel_rfl, by rfl⟩) ?_
                  refine subS_s (some (.int .i64 1)) none rfl rfl h fun v38 _ b36 e37 h => ?_
                  simp only [go_sem, Nat.reduceAdd, Nat.reduceLT, Nat.reduceLeDiff, Nat.reduceEqDiff, Nat.reduceBEq, Nat.reduceBNe, b36, e37]
                  obtain rfl := Option.some.inj h
                  exact atJ (wkn (Jy34) ⟨rfl, rfl, rfl, rfl, trivial⟩)
                · skip
                  simp only [go_sem, Nat.reduceAdd, Nat.reduceLT, Nat.reduceLeDiff, Nat.reduceEqDiff, Nat.reduceBEq, Nat.reduceBNe]
                  refine bsome h fun y39 hy39 h => ?_
                  refine rgJ 94 10000 (.inl rfl) (fun w => w [(2, .ptr 0 0), (6, .bool v17.2), (7, .str v20), (8, .ptr 1 0), (75, .bool y39)] [some [.int .u8 0, .int .i64 0, .int .i64 0], some [.int .u8 3, .int .i64 0, .int .i64 v17.1]]) (runX 10000 ?_) (fun Jy39 => ?_)
                  · clear hy39
                    simp only [go_sem, Nat.reduceAdd, Nat.reduceLT, Nat.reduceLeDiff, Nat.reduceEqDiff, Nat.reduceBEq, Nat.reduceBNe]
                    refine bsome h fun y45 hy45 h => ?_
                    refine cndJ 94 10000 (fun w => w [(2, .ptr 0 0), (6, .bool v17.2), (7, .str y45.1), (8, .ptr 1 0)] [some [.int .u8 0, .int .i64 0, .int .i64 0], some [.int .u8 y45.2, .int .i64 0, .int .i64 v17.1]]) (runX 10000 ?_) (fun Jy45 => ?_)
                    · clear hy45
                      simp only [go_sem, Nat.reduceAdd, Nat.reduceLT, Nat.reduceLeDiff, Nat.reduceEqDiff, Nat.reduceBEq, Nat.reduceBNe]
                      obtain rfl := Option.some.inj h
                      exact atJ (wkn (Jy34) ⟨rfl, rfl, rfl, rfl, trivial⟩)
                    · clear h
                      have h := hy45
                      refine cnd_s 10000 h (fun hb h => ?_) (fun hb h => ?_)
                      · skip
                        simp only [go_sem, Nat.reduceAdd, Nat.reduceLT, Nat.reduceLeDiff, Nat.reduceEqDiff, Nat.reduceBEq, Nat.reduceBNe]
                        refine rg_ 10000 (.inr ⟨[(8, 1), (78, 1)], by kernel_rfl, by kernel_rfl, by rfl⟩) ?_
                        refine subS_s (some (.int .i64 1)) none rfl rfl h fun v49 _ b47 e48 h => ?_
                        simp only [go_sem, Nat.reduceAdd, Nat.reduceLT, Nat.reduceLeDiff, Nat.reduceEqDiff, Nat.reduceBEq, Nat.reduceBNe, b47, e48]
                        obtain rfl := Option.some.inj h
                        exact atJ (wkn (Jy45) ⟨rfl, rfl, rfl, rfl, trivial⟩)
                      · skip
                        simp only [go_sem, Nat.reduceAdd, Nat.reduceLT, Nat.reduceLeDiff, Nat.reduceEqDiff, Nat.reduceBEq, Nat.reduceBNe]
                        obtain rfl := Option.some.inj h
                        exact atJ (wkn (Jy45) ⟨rfl, rfl, rfl, rfl, trivial⟩)
                  · clear h
                    have h := hy39
                    simp only [go_sem, Nat.reduceAdd, Nat.reduceLT, Nat.reduceLeDiff, Nat.reduceEqDiff, Nat.reduceBEq, Nat.reduceBNe]
                    refine grd_ (fun hb41 => ?_) (fun hb41 => ?_)
                    · skip
                      have h := ite_t hb41 h
                      refine sIdx_s .i64 h fun v44 _ b42 e43 h => ?_
                      simp only [go_sem, Nat.reduceAdd, Nat.reduceLT, Nat.reduceLeDiff, Nat.reduceEqDiff, Nat.reduceBEq, Nat.reduceBNe, b42, e43]
                      obtain rfl := Option.some.inj h
                      exact atJ (wkn (Jy39) ⟨rfl, rfl, rfl, rfl, rfl, trivial⟩)
                    · skip
                      have h := ite_f hb41 h
                      simp only [go_sem, Nat.reduceAdd, Nat.reduceLT, Nat.reduceLeDiff, Nat.reduceEqDiff, Nat.reduceBEq, Nat.reduceBNe]
                      obtain rfl := Option.some.inj h
                      exact atJ (wkn (Jy39) ⟨rfl, rfl, rfl, rfl, rfl, trivial⟩)
            · clear h
              have h := hy28
              simp only [go_sem, Nat.reduceAdd, Nat.reduceLT, Nat.reduceLeDiff, Nat.reduceEqDiff, Nat.reduceBEq, Nat.reduceBNe]
              refine grd_ (fun hb30 => ?_) (fun hb30 => ?_)
              · skip
                have h := ite_t hb30 h
                refine sIdx_s .i64 h fun v33 _ b31 e32 h => ?_
                simp only [go_sem, Nat.reduceAdd, Nat.reduceLT, Nat.reduceLeDiff, Nat.reduceEqDiff, Nat.reduceBEq, Nat.reduceBNe, b31, e32]
                obtain rfl := Option.some.inj h
                exact atJ (wkn (Jy28) ⟨rfl, rfl, rfl, rfl, rfl, trivial⟩)
              · skip
                have h := ite_f hb30 h
                simp only [go_sem, Nat.reduceAdd, Nat.reduceLT, Nat.reduceLeDiff, Nat.reduceEqDiff, Nat.reduceBEq, Nat.reduceBNe]
                obtain rfl := Option.some.inj h
                exact atJ (wkn (Jy28) ⟨rfl, rfl, rfl, rfl, rfl, trivial⟩)
      · skip
        simp only [go_sem, Nat.reduceAdd, Nat.reduceLT, Nat.reduceLeDiff, Nat.reduceEqDiff, Nat.reduceBEq, Nat.reduceBNe]
        refine grd_ (fun hb56 => ?_) (fun hb56 => ?_)
        · skip
          simp only [go_sem, Nat.reduceAdd, Nat.reduceLT, Nat.reduceLeDiff, Nat.reduceEqDiff, Nat.reduceBEq, Nat.reduceBNe]
          refine grd_ (fun hb57 => ?_) (fun hb57 => ?_)
          · skip
            simp only [go_sem, Nat.reduceAdd, Nat.reduceLT, Nat.reduceLeDiff, Nat.reduceEqDiff, Nat.reduceBEq, Nat.reduceBNe]
            exact atJ (wkn Jg21 ⟨rfl, rfl, rfl, rfl, rfl, congrArg AV.bool (by first | rfl | (rw [hb56, hb57]; rfl) | (simp [hb56, hb57]; done) | simp_all), trivial⟩)
          · skip
            simp only [go_sem, Nat.reduceAdd, Nat.reduceLT, Nat.reduceLeDiff, Nat.reduceEqDiff, Nat.reduceBEq, Nat.reduceBNe]
            exact atJ (wkn Jg21 ⟨rfl, rfl, rfl, rfl, rfl, congrArg AV.bool (by first | rfl | (rw [hb56, hb57]; rfl) | (simp [hb56, hb57]; done) | simp_all), trivial⟩)
        · skip
          simp only [go_sem, Nat.reduceAdd, Nat.reduceLT, Nat.reduceLeDiff, Nat.reduceEqDiff, Nat.reduceBEq, Nat.reduceBNe]
          exact atJ (wkn Jg21 ⟨rfl, rfl, rfl, rfl, rfl, congrArg AV.bool (by first | rfl | (rw [hb56]; rfl) | (simp [hb56]; done) | simp_all), trivial⟩)
  · clear h
    have h := hy1
    simp only [go_sem, Nat.reduceAdd, Nat.reduceLT, Nat.reduceLeDiff, Nat.reduceEqDiff, Nat.reduceBEq, Nat.reduceBNe]
    refine lpJ 94 fuel (fun q1 w => ∀ (v3 : Int), ref30_value_l1 s q1 v3 = some y1 → w [(0, .str s), (2, .ptr 0 0), (4, .int .i64 v3)] [some [.int .u8 0, .int .i64 0, .int .i64 0]]) (fun w _ h => nomatch h) (fun q1 ih1 v3 h => ?_) (fun L1 => ?_)
    · unfold ref30_value_l1 at h
      refine runL 10000 ?_
      simp only [go_sem, Nat.reduceAdd, Nat.reduceLT, Nat.reduceLeDiff, Nat.reduceEqDiff, Nat.reduceBEq, Nat.reduceBNe]
      refine bsome h fun y4 hy4 h => ?_
      refine rgJ 94 10000 (.inl rfl) (fun w => w [(0, .str s), (2, .ptr 0 0), (4, .int .i64 v3), (19, .bool y4)] [some [.int .u8 0, .int .i64 0, .int .i64 0]]) (runX 10000 ?_) (fun Jy4 => ?_)
      · clear hy4
        simp only [go_sem, Nat.reduceAdd, Nat.reduceLT, Nat.reduceLeDiff, Nat.reduceEqDiff, Nat.reduceBEq, Nat.reduceBNe]
        refine cnd_s 10000 h (fun hb h => ?_) (fun hb h => ?_)
        · skip
          simp only [go_sem, Nat.reduceAdd, Nat.reduceLT, Nat.reduceLeDiff, Nat.reduceEqDiff, Nat.reduceBEq, Nat.reduceBNe]
          refine blk_ 10000 ?_
          refine add_s h fun v11 _ e10 h => ?_
          simp only [go_sem, Nat.reduceAdd, Nat.reduceLT, Nat.reduceLeDiff, Nat.reduceEqDiff, Nat.reduceBEq, Nat.reduceBNe, e10]
          exact lp_back (ih1 v11 h) ⟨rfl, rfl, rfl, trivial⟩
        · skip
          simp only [go_sem, Nat.reduceAdd, Nat.reduceLT, Nat.reduceLeDiff, Nat.reduceEqDiff, Nat.reduceBEq, Nat.reduceBNe]
          obtain rfl := Option.some.inj h
          exact atJ (wkn (Jy1) ⟨rfl, rfl, rfl, trivial⟩)
      · clear h
        have h := hy4
        simp only [go_sem, Nat.reduceAdd, Nat.reduceLT, Nat.reduceLeDiff, Nat.reduceEqDiff, Nat.reduceBEq, Nat.reduceBNe]
        refine grd_ (fun hb6 => ?_) (fun hb6 => ?_)
        · skip
          have h := ite_t hb6 h
          refine sIdx_s .i64 h fun v9 _ b7 e8 h => ?_
          simp only [go_sem, Nat.reduceAdd, Nat.reduceLT, Nat.reduceLeDiff, Nat.reduceEqDiff, Nat.reduceBEq, Nat.reduceBNe, b7, e8]
          obtain rfl := Option.some.inj h
          exact atJ (wkn (Jy4) ⟨rfl, rfl, rfl, rfl, trivial⟩)
        · skip
          have h := ite_f hb6 h
          simp only [go_sem, Nat.reduceAdd, Nat.reduceLT, Nat.reduceLeDiff, Nat.reduceEqDiff, Nat.reduceBEq, Nat.reduceBNe]
          obtain rfl := Option.some.inj h
          exact atJ (wkn (Jy4) ⟨rfl, rfl, rfl, rfl, trivial⟩)
    · exact lp_back (L1 0 h) ⟨rfl, rfl, rfl, trivial⟩
theorem w_ref30_command {s : Str}   {r : (ref30_Command × Bool)} (h : ref30_command s = some r) : ACall Tryz.prog 21 [.str s] [] (.tup [enc_ref30_Command r.1, .bool r.2]) [] := by
  refine acallX 10000 hf21 ok21 (by first | rfl | simp only [go_sem]) meek_tup ?_
  dsimp only [Tryz.f21, nums, Option.getD, List.append]
  unfold ref30_command at h
  refine bsome h fun v1 hv1 h => ?_
  simp only [go_sem, Nat.reduceAdd, Nat.reduceLT, Nat.reduceLeDiff, Nat.reduceEqDiff, Nat.reduceBEq, Nat.reduceBNe]
  refine callX_ 10000 (w_ref30_pieces  hv1) (by first | rfl | simp only [go_sem]) (by first | rfl | simp only [go_sem]) ?_
  refine lAt_s AV.str none .i64 ⟨9, 1, false, 16⟩ (fun _ => rfl) h fun v4 _ b2 e3 h => ?_
  refine bsome h fun v7 hv7 h => ?_
  simp only [go_sem, Nat.reduceAdd, Nat.reduceLT, Nat.reduceLeDiff, Nat.reduceEqDiff, Nat.reduceBEq, Nat.reduceBNe, b2, e3]
  refine callX_ 10000 (w_ref30_Form  hv7) (by first | rfl | simp only [go_sem]) (by first | rfl | simp only [go_sem]) ?_
  simp only [go_sem, Nat.reduceAdd, Nat.reduceLT, Nat.reduceLeDiff, Nat.reduceEqDiff, Nat.reduceBEq, Nat.reduceBNe]
  refine cnd_s 10000 h (fun hb h => ?_) (fun hb h => ?_)
  · skip
    simp only [go_sem, Nat.reduceAdd, Nat.reduceLT, Nat.reduceLeDiff, Nat.reduceEqDiff, Nat.reduceBEq, Nat.reduceBNe]
    refine ret_s (fun x => .tup [enc_ref30_Command x.1, .bool x.2]) h ?_
    first | rfl | simp only [go_sem, resAV, resAll, resOne]
  · skip
    simp only [go_sem, Nat.reduceAdd, Nat.reduceLT, Nat.reduceLeDiff, Nat.reduceEqDiff, Nat.reduceBEq, Nat.reduceBNe]
    refine letK_s h fun K9 hK9 h => ?_
    refine blkJ 153 10000 (fun w => ∀ (v203 : Int) (v204 : ref30_Command), K9 v203 v204 = some r → w [(2, .ptr 0 0), (4, .sl none (List.map AV.str v1)), (5, .ptr 1 0), (8, .int .i64 v203)] [some [.str [], .sl (some none) [], .sl (some none) [], .str [], .str []], some [.str v204.Name, .sl (some none) (List.map (AV.int .i64) v204.N), .sl (some none) (List.map enc_ref11_Val v204.V), .str v204.W, .str v204.S]]) (fun v203 v204 h => runX 10000 ?_) (fun JK9 => ?_)
    · subst hK9
      dsimp only at h
      simp only [go_sem, Nat.reduceAdd, Nat.reduceLT, Nat.reduceLeDiff, Nat.reduceEqDiff, Nat.reduceBEq, Nat.reduceBNe]
      refine ret_s (fun x => .tup [enc_ref30_Command x.1, .bool x.2]) h ?_
      first | rfl | simp only [go_sem, resAV, resAll, resOne]
    · clear hK9
      simp only [go_sem, Nat.reduceAdd, Nat.reduceLT, Nat.reduceLeDiff, Nat.reduceEqDiff, Nat.reduceBEq, Nat.reduceBNe]
      refine lpJ 153 fuel (fun q1 w => ∀ (v106 : Int) (v107 : Int) (v108 : ref30_Command), ref30_command_l1 s v1 v7 K9 q1 v106 v107 v108 = some r → w [(0, .str s), (2, .ptr 0 0), (4, .sl none (List.map AV.str v1)), (5, .ptr 1 0), (6, .str v7.1), (8, .int .i64 v106), (9, .int .i64 v107)] [some [.str [], .sl (some none) [], .sl (some none) [], .str [], .str []], some [.str v108.Name, .sl (some none) (List.map (AV.int .i64) v108.N), .sl (some none) (List.map enc_ref11_Val v108.V), .str v108.W, .str v108.S]]) (fun w _ _ _ h => nomatch h) (fun q1 ih1 v106 v107 v108 h => ?_) (fun L1 => ?_)
      · unfold ref30_command_l1 at h
        refine runL 10000 ?_
        simp only [go_sem, Nat.reduceAdd, Nat.reduceLT, Nat.reduceLeDiff, Nat.reduceEqDiff, Nat.reduceBEq, Nat.reduceBNe]
        refine cnd_s 10000 h (fun hb h => ?_) (fun hb h => ?_)
        · skip
          simp only [go_sem, Nat.reduceAdd, Nat.reduceLT, Nat.reduceLeDiff, Nat.reduceEqDiff, Nat.reduceBEq, Nat.reduceBNe]
          refine blk_ 10000 ?_
          refine sIdx_s .i64 h fun v111 _ b109 e110 h => ?_
          simp only [go_sem, Nat.reduceAdd, Nat.reduceLT, Nat.reduceLeDiff, Nat.reduceEqDiff, Nat.reduceBEq, Nat.reduceBNe, b109, e110]
          refine cnd_s 10000 h (fun hb h => ?_) (fun hb h => ?_)
          · skip
            simp only [go_sem, Nat.reduceAdd, Nat.reduceLT, Nat.reduceLeDiff, Nat.reduceEqDiff, Nat.reduceBEq, Nat.reduceBNe]
            refine cnd_s 10000 h (fun hb h => ?_) (fun hb h => ?_)
            · skip
              simp only [go_sem, Nat.reduceAdd, Nat.reduceLT, Nat.reduceLeDiff, Nat.reduceEqDiff, Nat.reduceBEq, Nat.reduceBNe]
              refine ret_s (fun x => .tup [enc_ref30_Command x.1, .bool x.2]) h ?_
              first | rfl | simp only [go_sem, resAV, resAll, resOne]
            · skip
              simp only [go_sem, Nat.reduceAdd, Nat.reduceLT, Nat.reduceLeDiff, Nat.reduceEqDiff, Nat.reduceBEq, Nat.reduceBNe]
              refine bsome h fun y112 hy112 h => ?_
              refine blkJ 153 10000 (fun w => w [(0, .str s), (2, .ptr 0 0), (5, .ptr 1 0), (11, .int .i64 y112)] [some [.str [], .sl (some none) [], .sl (some none) [], .str [], .str []], some [.str v108.Name, .sl (some none) (List.map (AV.int .i64) v108.N), .sl (some none) (List.map enc_ref11_Val v108.V), .str v108.W, .str v108.S]]) (runX 10000 ?_) (fun Jy112 => ?_)
              · clear hy112
                refine subS_s (some (.int .i64 y112)) none rfl rfl h fun v127 _ b125 e126 h => ?_
                simp only [go_sem, Nat.reduceAdd, Nat.reduceLT, Nat.reduceLeDiff, Nat.reduceEqDiff, Nat.reduceBEq, Nat.reduceBNe, b125, e126]
                refine ret_s (fun x => .tup [enc_ref30_Command x.1, .bool x.2]) h ?_
                first | rfl | simp only [go_sem, resAV, resAll, resOne]
              · clear h
                have h := hy112
                simp only [go_sem, Nat.reduceAdd, Nat.reduceLT, Nat.reduceLeDiff, Nat.reduceEqDiff, Nat.reduceBEq, Nat.reduceBNe]
                refine lpJ 153 fuel (fun q4 w => ∀ (v114 : Int) (v115 : Int), ref30_command_l4 v1 v106 q4 v114 v115 = some y112 → w [(0, .str s), (2, .ptr 0 0), (4, .sl none (List.map AV.str v1)), (5, .ptr 1 0), (8, .int .i64 v106), (11, .int .i64 v114), (12, .int .i64 v115)] [some [.str [], .sl (some none) [], .sl (some none) [], .str [], .str []], some [.str v108.Name, .sl (some none) (List.map (AV.int .i64) v108.N), .sl (some none) (List.map enc_ref11_Val v108.V), .str v108.W, .str v108.S]]) (fun w _ _ h => nomatch h) (fun q4 ih4 v114 v115 h => ?_) (fun L4 => ?_)
                · unfold ref30_command_l4 at h
                  refine runL 10000 ?_
                  simp only [go_sem, Nat.reduceAdd, Nat.reduceLT, Nat.reduceLeDiff, Nat.reduceEqDiff, Nat.reduceBEq, Nat.reduceBNe]
                  refine cnd_s 10000 h (fun hb h => ?_) (fun hb h => ?_)
                  · skip
                    simp only [go_sem, Nat.reduceAdd, Nat.reduceLT, Nat.reduceLeDiff, Nat.reduceEqDiff, Nat.reduceBEq, Nat.reduceBNe]
                    refine blk_ 10000 ?_
                    refine lAt_s AV.str none .i64 ⟨9, 1, false, 16⟩ (fun _ => rfl) h fun v118 _ b116 e117 h => ?_
                    refine add_s h fun v120 _ e119 h => ?_
                    refine add_s h fun v122 _ e121 h => ?_
                    refine add_s h fun v124 _ e123 h => ?_
                    simp only [go_sem, Nat.reduceAdd, Nat.reduceLT, Nat.reduceLeDiff, Nat.reduceEqDiff, Nat.reduceBEq, Nat.reduceBNe, b116, e117, e119, e121, e123]
                    exact lp_back (ih4 v122 v124 h) ⟨rfl, rfl, rfl, rfl, rfl, rfl, rfl, trivial⟩
                  · skip
                    simp only [go_sem, Nat.reduceAdd, Nat.reduceLT, Nat.reduceLeDiff, Nat.reduceEqDiff, Nat.reduceBEq, Nat.reduceBNe]
                    obtain rfl := Option.some.inj h
                    exact atJ (wkn (Jy112) ⟨rfl, rfl, rfl, rfl, trivial⟩)
                · exact lp_back (L4 0 0 h) ⟨rfl, rfl, rfl, rfl, rfl, rfl, rfl, trivial⟩
          · skip
            simp only [go_sem, Nat.reduceAdd, Nat.reduceLT, Nat.reduceLeDiff, Nat.reduceEqDiff, Nat.reduceBEq, Nat.reduceBNe]
            refine letK_s h fun K129 hK129 h => ?_
            refine blkJ 153 10000 (fun w => ∀ (v199 : Int) (v200 : ref30_Command), K129 v199 v200 = some r → w [(0, .str s), (2, .ptr 0 0), (4, .sl none (List.map AV.str v1)), (5, .ptr 1 0), (6, .str v7.1), (8, .int .i64 v199), (9, .int .i64 v107)] [some [.str [], .sl (some none) [], .sl (some none) [], .str [], .str []], some [.str v200.Name, .sl (some none) (List.map (AV.int .i64) v200.N), .sl (some none) (List.map enc_ref11_Val v200.V), .str v200.W, .str v200.S]]) (fun v199 v200 h => runX 10000 ?_) (fun JK129 => ?_)
            · subst hK129
              dsimp only at h
              refine add_s h fun v202 _ e201 h => ?_
              simp only [go_sem, Nat.reduceAdd, Nat.reduceLT, Nat.reduceLeDiff, Nat.reduceEqDiff, Nat.reduceBEq, Nat.reduceBNe, e201]
              exact lp_back (ih1 v199 v202 v200 h) ⟨rfl, rfl, rfl, rfl, rfl, rfl, rfl, trivial⟩
            · clear hK129
              simp only [go_sem, Nat.reduceAdd, Nat.reduceLT, Nat.reduceLeDiff, Nat.reduceEqDiff, Nat.reduceBEq, Nat.reduceBNe]
              refine lpJ 153 fuel (fun q5 w => ∀ (v164 : Int) (v165 : Int) (v166 : ref30_Command), ref30_command_l5 v1 v111 K129 q5 v164 v165 v166 = some r → w [(0, .str s), (2, .ptr 0 0), (4, .sl none (List.map AV.str v1)), (5, .ptr 1 0), (6, .str v7.1), (8, .int .i64 v164), (9, .int .i64 v107), (10, .int .u8 v111), (13, .int .i64 v165)] [some [.str [], .sl (some none) [], .sl (some none) [], .str [], .str []], some [.str v166.Name, .sl (some none) (List.map (AV.int .i64) v166.N), .sl (some none) (List.map enc_ref11_Val v166.V), .str v166.W, .str v166.S]]) (fun w _ _ _ h => nomatch h) (fun q5 ih5 v164 v165 v166 h => ?_) (fun L5 => ?_)
              · unfold ref30_command_l5 at h
                refine runL 10000 ?_
                simp only [go_sem, Nat.reduceAdd, Nat.reduceLT, Nat.reduceLeDiff, Nat.reduceEqDiff, Nat.reduceBEq, Nat.reduceBNe]
                refine rgJ 153 10000 (.inl rfl) (fun w => w [(0, .str s), (2, .ptr 0 0), (4, .sl none (List.map AV.str v1)), (5, .ptr 1 0), (6, .str v7.1), (8, .int .i64 v164), (9, .int .i64 v107), (10, .int .u8 v111), (13, .int .i64 v165), (92, .bool (((decide (v164 < (v1.length : Int))) && ((decide (v111 = 42)) || (decide (v111 = 86)))) || (((decide (v165 < 1)) && (!decide (v111 = 42))) && (!decide (v111 = 86)))))] [some [.str [], .sl (some none) [], .sl (some none) [], .str [], .str []], some [.str v166.Name, .sl (some none) (List.map (AV.int .i64) v166.N), .sl (some none) (List.map enc_ref11_Val v166.V), .str v166.W, .str v166.S]]) (runX 10000 ?_) (fun Jg167 => ?_)
                · skip
                  simp only [go_sem, Nat.reduceAdd, Nat.reduceLT, Nat.reduceLeDiff, Nat.reduceEqDiff, Nat.reduceBEq, Nat.reduceBNe]
                  refine cnd_s 10000 h (fun hb h => ?_) (fun hb h => ?_)
                  · skip
                    simp only [go_sem, Nat.reduceAdd, Nat.reduceLT, Nat.reduceLeDiff, Nat.reduceEqDiff, Nat.reduceBEq, Nat.reduceBNe]
                    refine blk_ 10000 ?_
                    simp only [go_sem, Nat.reduceAdd, Nat.reduceLT, Nat.reduceLeDiff, Nat.reduceEqDiff, Nat.reduceBEq, Nat.reduceBNe]
                    refine cnd_s 10000 h (fun hb h => ?_) (fun hb h => ?_)
                    · skip
                      simp only [go_sem, Nat.reduceAdd, Nat.reduceLT, Nat.reduceLeDiff, Nat.reduceEqDiff, Nat.reduceBEq, Nat.reduceBNe]
                      refine ret_s (fun x => .tup [enc_ref30_Command x.1, .bool x.2]) h ?_
                      first | rfl | simp only [go_sem, resAV, resAll, resOne]
                    · skip
                      refine lAt_s AV.str none .i64 ⟨9, 1, false, 16⟩ (fun _ => rfl) h fun v170 _ b168 e169 h => ?_
                      refine add_s h fun v172 _ e171 h => ?_
                      simp only [go_sem, Nat.reduceAdd, Nat.reduceLT, Nat.reduceLeDiff, Nat.reduceEqDiff, Nat.reduceBEq, Nat.reduceBNe, b168, e169, e171]
                      refine letK_s h fun K174 hK174 h => ?_
                      refine cndJ 153 10000 (fun w => ∀ (v189 : ref30_Command), K174 v189 = some r → w [(0, .str s), (2, .ptr 0 0), (4, .sl none (List.map AV.str v1)), (5, .ptr 1 0), (6, .str v7.1), (8, .int .i64 v172), (9, .int .i64 v107), (10, .int .u8 v111), (13, .int .i64 v165)] [some [.str [], .sl (some none) [], .sl (some none) [], .str [], .str []], some [.str v189.Name, .sl (some none) (List.map (AV.int .i64) v189.N), .sl (some none) (List.map enc_ref11_Val v189.V), .str v189.W, .str v189.S]]) (fun v189 h => runX 10000 ?_) (fun JK174 => ?_)
                      · subst hK174
                        dsimp only at h
                        refine add_s h fun v191 _ e190 h => ?_
                        simp only [go_sem, Nat.reduceAdd, Nat.reduceLT, Nat.reduceLeDiff, Nat.reduceEqDiff, Nat.reduceBEq, Nat.reduceBNe, e190]
                        exact lp_back (ih5 v172 v191 v189 h) ⟨rfl, rfl, rfl, rfl, rfl, rfl, rfl, rfl, rfl, trivial⟩
                      · clear hK174
                        refine cnd_s 10000 h (fun hb h => ?_) (fun hb h => ?_)
                        · skip
                          refine bsome h fun v175 hv175 h => ?_
                          simp only [go_sem, Nat.reduceAdd, Nat.reduceLT, Nat.reduceLeDiff, Nat.reduceEqDiff, Nat.reduceBEq, Nat.reduceBNe]
                          refine callX_ 10000 (w_ref30_Word  hv175) (by first | rfl | simp only [go_sem]) (by first | rfl | simp only [go_sem]) ?_
                          simp only [go_sem, Nat.reduceAdd, Nat.reduceLT, Nat.reduceLeDiff, Nat.reduceEqDiff, Nat.reduceBEq, Nat.reduceBNe]
                          refine cnd_s 10000 h (fun hb h => ?_) (fun hb h => ?_)
                          · skip
                            simp only [go_sem, Nat.reduceAdd, Nat.reduceLT, Nat.reduceLeDiff, Nat.reduceEqDiff, Nat.reduceBEq, Nat.reduceBNe]
                            refine ret_s (fun x => .tup [enc_ref30_Command x.1, .bool x.2]) h ?_
                            first | rfl | simp only [go_sem, resAV, resAll, resOne]
                          · skip
                            simp only [go_sem, Nat.reduceAdd, Nat.reduceLT, Nat.reduceLeDiff, Nat.reduceEqDiff, Nat.reduceBEq, Nat.reduceBNe]
                            exact atJ (wkn (JK174 (ref30_Command.mk v166.Name v166.N v166.V v170 v166.S) h) ⟨rfl, rfl, rfl, rfl, rfl, rfl, rfl, rfl, rfl, trivial⟩)
                        · skip
                          simp only [go_sem, Nat.reduceAdd, Nat.reduceLT, Nat.reduceLeDiff, Nat.reduceEqDiff, Nat.reduceBEq, Nat.reduceBNe]
                          refine rgJ 153 10000 (.inl rfl) (fun w => w [(0, .str s), (2, .ptr 0 0), (4, .sl none (List.map AV.str v1)), (5, .ptr 1 0), (6, .str v7.1), (8, .int .i64 v172), (9, .int .i64 v107), (10, .int .u8 v111), (13, .int .i64 v165), (14, .str v170), (119, .bool ((decide (v111 = 105)) || (decide (v111 = 42))))] [some [.str [], .sl (some none) [], .sl (some none) [], .str [], .str []], some [.str v166.Name, .sl (some none) (List.map (AV.int .i64) v166.N), .sl (some none) (List.map enc_ref11_Val v166.V), .str v166.W, .str v166.S]]) (runX 10000 ?_) (fun Jg176 => ?_)
                          · skip
                            simp only [go_sem, Nat.reduceAdd, Nat.reduceLT, Nat.reduceLeDiff, Nat.reduceEqDiff, Nat.reduceBEq, Nat.reduceBNe]
                            refine letK_s h fun K178 hK178 h => ?_
                            refine cndJ 153 10000 (fun w => ∀ (v187 : ref30_Command), K178 v187 = some r → w [(0, .str s), (2, .ptr 0 0), (4, .sl none (List.map AV.str v1)), (5, .ptr 1 0), (6, .str v7.1), (8, .int .i64 v172), (9, .int .i64 v107), (10, .int .u8 v111), (13, .int .i64 v165)] [some [.str [], .sl (some none) [], .sl (some none) [], .str [], .str []], some [.str v187.Name, .sl (some none) (List.map (AV.int .i64) v187.N), .sl (some none) (List.map enc_ref11_Val v187.V), .str v187.W, .str v187.S]]) (fun v187 h => runX 10000 ?_) (fun JK178 => ?_)
                            · subst hK178
                              dsimp only at h
                              simp only [go_sem, Nat.reduceAdd, Nat.reduceLT, Nat.reduceLeDiff, Nat.reduceEqDiff, Nat.reduceBEq, Nat.reduceBNe]
                              exact atJ (wkn (JK174 v187 h) ⟨rfl, rfl, rfl, rfl, rfl, rfl, rfl, rfl, rfl, trivial⟩)
                            · clear hK178
                              refine cnd_s 10000 h (fun hb h => ?_) (fun hb h => ?_)
                              · skip
                                refine bsome h fun v179 hv179 h => ?_
                                simp only [go_sem, Nat.reduceAdd, Nat.reduceLT, Nat.reduceLeDiff, Nat.reduceEqDiff, Nat.reduceBEq, Nat.reduceBNe]
                                refine callX_ 10000 (w_ref30_num  hv179) (by first | rfl | simp only [go_sem]) (by first | rfl | simp only [go_sem]) ?_
                                simp only [go_sem, Nat.reduceAdd, Nat.reduceLT, Nat.reduceLeDiff, Nat.reduceEqDiff, Nat.reduceBEq, Nat.reduceBNe]
                                refine cnd_s 10000 h (fun hb h => ?_) (fun hb h => ?_)
                                · skip
                                  simp only [go_sem, Nat.reduceAdd, Nat.reduceLT, Nat.reduceLeDiff, Nat.reduceEqDiff, Nat.reduceBEq, Nat.reduceBNe]
                                  refine ret_s (fun x => .tup [enc_ref30_Command x.1, .bool x.2]) h ?_
                                  first | rfl | simp only [go_sem, resAV, resAll, resOne]
                                · skip
                                  refine app_s (AV.int .i64) (some none) ⟨3, 1, false, 8⟩ (fun _ => rfl) (by decide) rfl h fun v182 _ (b180 : appc ⟨3, 1, false, 8⟩ (.sl (some none) (List.map (AV.int .i64) v166.N)) (.sl (some none) [.int .i64 v179.1])) (e181 : appv (.sl (some none) (List.map (AV.int .i64) v166.N)) (.sl (some none) [.int .i64 v179.1]) = .sl (some none) (List.map (AV.int .i64) v182)) h => ?_
                                  simp only [go_sem, Nat.reduceAdd, Nat.reduceLT, Nat.reduceLeDiff, Nat.reduceEqDiff, Nat.reduceBEq, Nat.reduceBNe, b180, e181]
                                  exact atJ (wkn (JK178 (ref30_Command.mk v166.Name v182 v166.V v166.W v166.S) h) ⟨rfl, rfl, rfl, rfl, rfl, rfl, rfl, rfl, rfl, trivial⟩)
                              · skip
                                refine bsome h fun v183 hv183 h => ?_
                                simp only [go_sem, Nat.reduceAdd, Nat.reduceLT, Nat.reduceLeDiff, Nat.reduceEqDiff, Nat.reduceBEq, Nat.reduceBNe]
                                refine callX_ 10000 (w_ref30_value  hv183) (by first | rfl | simp only [go_sem]) (by first | rfl | simp only [go_sem]) ?_
                                simp only [go_sem, Nat.reduceAdd, Nat.reduceLT, Nat.reduceLeDiff, Nat.reduceEqDiff, Nat.reduceBEq, Nat.reduceBNe]
                                refine cnd_s 10000 h (fun hb h => ?_) (fun hb h => ?_)
                                · skip
                                  simp only [go_sem, Nat.reduceAdd, Nat.reduceLT, Nat.reduceLeDiff, Nat.reduceEqDiff, Nat.reduceBEq, Nat.reduceBNe]
                                  refine ret_s (fun x => .tup [enc_ref30_Command x.1, .bool x.2]) h ?_
                                  first | rfl | simp only [go_sem, resAV, resAll, resOne]
                                · skip
                                  refine app_s enc_ref11_Val (some none) ⟨43, 3, true, 24⟩ (fun _ => rfl) (by decide) rfl h fun v186 _ (b184 : appc ⟨43, 3, true, 24⟩ (.sl (some none) (List.map enc_ref11_Val v166.V)) (.sl (some none) [.agg [.int .u8 v183.1.K, .int .i64 v183.1.N, .int .i64 v183.1.L]])) (e185 : appv (.sl (some none) (List.map enc_ref11_Val v166.V)) (.sl (some none) [.agg [.int .u8 v183.1.K, .int .i64 v183.1.N, .int .i64 v183.1.L]]) = .sl (some none) (List.map enc_ref11_Val v186)) h => ?_
                                  simp only [go_sem, Nat.reduceAdd, Nat.reduceLT, Nat.reduceLeDiff, Nat.reduceEqDiff, Nat.reduceBEq, Nat.reduceBNe, b184, e185]
                                  exact atJ (wknH 2 (JK178 (ref30_Command.mk v166.Name v166.N v186 v166.W v166.S) h) ⟨rfl, rfl, rfl, rfl, rfl, rfl, rfl, rfl, rfl, trivial⟩ rfl rfl rfl (by first | rfl | simp only [go_sem, ltF]) (by first | rfl | simp only [go_sem, allLt]))
                          · skip
                            simp only [go_sem, Nat.reduceAdd, Nat.reduceLT, Nat.reduceLeDiff, Nat.reduceEqDiff, Nat.reduceBEq, Nat.reduceBNe]
                            refine grd_ (fun hb188 => ?_) (fun hb188 => ?_)
                            · skip
                              simp only [go_sem, Nat.reduceAdd, Nat.reduceLT, Nat.reduceLeDiff, Nat.reduceEqDiff, Nat.reduceBEq, Nat.reduceBNe]
                              exact atJ (wkn Jg176 ⟨rfl, rfl, rfl, rfl, rfl, rfl, rfl, rfl, rfl, rfl, congrArg AV.bool (by first | rfl | (rw [hb188]; rfl) | (simp [hb188]; done) | simp_all), trivial⟩)
                            · skip
                              simp only [go_sem, Nat.reduceAdd, Nat.reduceLT, Nat.reduceLeDiff, Nat.reduceEqDiff, Nat.reduceBEq, Nat.reduceBNe]
                              exact atJ (wkn Jg176 ⟨rfl, rfl, rfl, rfl, rfl, rfl, rfl, rfl, rfl, rfl, congrArg AV.bool (by first | rfl | (rw [hb188]; rfl) | (simp [hb188]; done) | simp_all), trivial⟩)
                  · skip
                    simp only [go_sem, Nat.reduceAdd, Nat.reduceLT, Nat.reduceLeDiff, Nat.reduceEqDiff, Nat.reduceBEq, Nat.reduceBNe]
                    exact atJ (wkn (JK129 v164 v166 h) ⟨rfl, rfl, rfl, rfl, rfl, rfl, rfl, trivial⟩)
                · skip
                  simp only [go_sem, Nat.reduceAdd, Nat.reduceLT, Nat.reduceLeDiff, Nat.reduceEqDiff, Nat.reduceBEq, Nat.reduceBNe]
                  refine grd_ (fun hb192 => ?_) (fun hb192 => ?_)
                  · skip
                    simp only [go_sem, Nat.reduceAdd, Nat.reduceLT, Nat.reduceLeDiff, Nat.reduceEqDiff, Nat.reduceBEq, Nat.reduceBNe]
                    refine grd_ (fun hb193 => ?_) (fun hb193 => ?_)
                    · skip
                      simp only [go_sem, Nat.reduceAdd, Nat.reduceLT, Nat.reduceLeDiff, Nat.reduceEqDiff, Nat.reduceBEq, Nat.reduceBNe]
                      refine grd_ (fun hb194 => ?_) (fun hb194 => ?_)
                      · skip
                        simp only [go_sem, Nat.reduceAdd, Nat.reduceLT, Nat.reduceLeDiff, Nat.reduceEqDiff, Nat.reduceBEq, Nat.reduceBNe]
                        refine grd_ (fun hb195 => ?_) (fun hb195 => ?_)
                        · skip
                          simp only [go_sem, Nat.reduceAdd, Nat.reduceLT, Nat.reduceLeDiff, Nat.reduceEqDiff, Nat.reduceBEq, Nat.reduceBNe]
                          refine grd_ (fun hb196 => ?_) (fun hb196 => ?_)
                          · skip
                            simp only [go_sem, Nat.reduceAdd, Nat.reduceLT, Nat.reduceLeDiff, Nat.reduceEqDiff, Nat.reduceBEq, Nat.reduceBNe]
                            exact atJ (wkn Jg167 ⟨rfl, rfl, rfl, rfl, rfl, rfl, rfl, rfl, rfl, congrArg AV.bool (by first | rfl | (rw [hb192, hb193, hb194, hb195, hb196]; rfl) | (simp [hb192, hb193, hb194, hb195, hb196]; done) | simp_all), trivial⟩)
                          · skip
                            simp only [go_sem, Nat.reduceAdd, Nat.reduceLT, Nat.reduceLeDiff, Nat.reduceEqDiff, Nat.reduceBEq, Nat.reduceBNe]
                            exact atJ (wkn Jg167 ⟨rfl, rfl, rfl, rfl, rfl, rfl, rfl, rfl, rfl, congrArg AV.bool (by first | rfl | (rw [hb192, hb193, hb194, hb195, hb196]; rfl) | (simp [hb192, hb193, hb194, hb195, hb196]; done) | simp_all), trivial⟩)
                        · skip
                          simp only [go_sem, Nat.reduceAdd, Nat.reduceLT, Nat.reduceLeDiff, Nat.reduceEqDiff, Nat.reduceBEq, Nat.reduceBNe]
                          exact atJ (wkn Jg167 ⟨rfl, rfl, rfl, rfl, rfl, rfl, rfl, rfl, rfl, congrArg AV.bool (by first | rfl | (rw [hb192, hb193, hb194, hb195]; rfl) | (simp [hb192, hb193, hb194, hb195]; done) | simp_all), trivial⟩)
                      · skip
                        simp only [go_sem, Nat.reduceAdd, Nat.reduceLT, Nat.reduceLeDiff, Nat.reduceEqDiff, Nat.reduceBEq, Nat.reduceBNe]
                        exact atJ (wkn Jg167 ⟨rfl, rfl, rfl, rfl, rfl, rfl, rfl, rfl, rfl, congrArg AV.bool (by first | rfl | (rw [hb192, hb193, hb194]; rfl) | (simp [hb192, hb193, hb194]; done) | simp_all), trivial⟩)
                    · skip
                      simp only [go_sem, Nat.reduceAdd, Nat.reduceLT, Nat.reduceLeDiff, Nat.reduceEqDiff, Nat.reduceBEq, Nat.reduceBNe]
                      exact atJ (wkn Jg167 ⟨rfl, rfl, rfl, rfl, rfl, rfl, rfl, rfl, rfl, congrArg AV.bool (by first | rfl | (rw [hb192, hb193]; rfl) | (simp [hb192, hb193]; done) | simp_all), trivial⟩)
                  · skip
                    simp only [go_sem, Nat.reduceAdd, Nat.reduceLT, Nat.reduceLeDiff, Nat.reduceEqDiff, Nat.reduceBEq, Nat.reduceBNe]
                    refine grd_ (fun hb197 => ?_) (fun hb197 => ?_)
                    · skip
                      simp only [go_sem, Nat.reduceAdd, Nat.reduceLT, Nat.reduceLeDiff, Nat.reduceEqDiff, Nat.reduceBEq, Nat.reduceBNe]
                      refine grd_ (fun hb198 => ?_) (fun hb198 => ?_)
                      · skip
                        simp only [go_sem, Nat.reduceAdd, Nat.reduceLT, Nat.reduceLeDiff, Nat.reduceEqDiff, Nat.reduceBEq, Nat.reduceBNe]
                        exact atJ (wkn Jg167 ⟨rfl, rfl, rfl, rfl, rfl, rfl, rfl, rfl, rfl, congrArg AV.bool (by first | rfl | (rw [hb192, hb197, hb198]; rfl) | (simp [hb192, hb197, hb198]; done) | simp_all), trivial⟩)
                      · skip
                        simp only [go_sem, Nat.reduceAdd, Nat.reduceLT, Nat.reduceLeDiff, Nat.reduceEqDiff, Nat.reduceBEq, Nat.reduceBNe]
                        exact atJ (wkn Jg167 ⟨rfl, rfl, rfl, rfl, rfl, rfl, rfl, rfl, rfl, congrArg AV.bool (by first | rfl | (rw [hb192, hb197, hb198]; rfl) | (simp [hb192, hb197, hb198]; done) | simp_all), trivial⟩)
                    · skip
                      simp only [go_sem, Nat.reduceAdd, Nat.reduceLT, Nat.reduceLeDiff, Nat.reduceEqDiff, Nat.reduceBEq, Nat.reduceBNe]
                      exact atJ (wkn Jg167 ⟨rfl, rfl, rfl, rfl, rfl, rfl, rfl, rfl, rfl, congrArg AV.bool (by first | rfl | (rw [hb192, hb197]; rfl) | (simp [hb192, hb197]; done) | simp_all), trivial⟩)
              · exact lp_back (L5 v106 0 v108 h) ⟨rfl, rfl, rfl, rfl, rfl, rfl, rfl, rfl, rfl, trivial⟩
        · skip
          simp only [go_sem, Nat.reduceAdd, Nat.reduceLT, Nat.reduceLeDiff, Nat.reduceEqDiff, Nat.reduceBEq, Nat.reduceBNe]
          exact atJ (wkn (JK9 v106 v108 h) ⟨rfl, rfl, rfl, rfl, trivial⟩)
      · exact lp_back (L1 1 0 (ref30_Command.mk v4 [] [] [] []) h) ⟨rfl, rfl, rfl, rfl, rfl, rfl, rfl, trivial⟩
theorem w_ref30_Parse {text : Str}   {r : ((List ref30_Command) × Int × Int)} (h : ref30_Parse text = some r) : ACall Tryz.prog 8 [.str text] [] (.tup [.sl none (List.map enc_ref30_Command r.1), .int .i64 r.2.1, .int .i64 r.2.2]) [] := by
  refine acallX 10000 hf8 ok8 (by first | rfl | simp only [go_sem]) meek_tup ?_
  dsimp only [Tryz.f8, nums, Option.getD, List.append]
  unfold ref30_Parse at h
  simp only [go_sem, Nat.reduceAdd, Nat.reduceLT, Nat.reduceLeDiff, Nat.reduceEqDiff, Nat.reduceBEq, Nat.reduceBNe]
  refine cnd_s 10000 h (fun hb h => ?_) (fun hb h => ?_)
  · skip
    simp only [go_sem, Nat.reduceAdd, Nat.reduceLT, Nat.reduceLeDiff, Nat.reduceEqDiff, Nat.reduceBEq, Nat.reduceBNe]
    refine ret_s (fun x => .tup [.sl none (List.map enc_ref30_Command x.1), .int .i64 x.2.1, .int .i64 x.2.2]) h ?_
    first | rfl | simp only [go_sem, resAV, resAll, resOne]
  · skip
    simp only [go_sem, Nat.reduceAdd, Nat.reduceLT, Nat.reduceLeDiff, Nat.reduceEqDiff, Nat.reduceBEq, Nat.reduceBNe]
    refine letK_s h fun K2 hK2 h => ?_
    refine blkJ 61 10000 (fun w => ∀ (v32 : (List ref30_Command)) (v33 : Int), K2 v32 v33 = some r → w [(0, .str text), (5, .sl (some none) (List.map enc_ref30_Command v32)), (6, .int .i64 v33)] []) (fun v32 v33 h => runX 10000 ?_) (fun JK2 => ?_)
    · subst hK2
      dsimp only at h
      simp only [go_sem, Nat.reduceAdd, Nat.reduceLT, Nat.reduceLeDiff, Nat.reduceEqDiff, Nat.reduceBEq, Nat.reduceBNe]
      refine cnd_s 10000 h (fun hb h => ?_) (fun hb h => ?_)
      · skip
        refine add_s h fun v35 _ e34 h => ?_
        simp only [go_sem, Nat.reduceAdd, Nat.reduceLT, Nat.reduceLeDiff, Nat.reduceEqDiff, Nat.reduceBEq, Nat.reduceBNe, e34]
        refine ret_s (fun x => .tup [.sl none (List.map enc_ref30_Command x.1), .int .i64 x.2.1, .int .i64 x.2.2]) h ?_
        first | rfl | simp only [go_sem, resAV, resAll, resOne]
      · skip
        simp only [go_sem, Nat.reduceAdd, Nat.reduceLT, Nat.reduceLeDiff, Nat.reduceEqDiff, Nat.reduceBEq, Nat.reduceBNe]
        refine ret_s (fun x => .tup [.sl none (List.map enc_ref30_Command x.1), .int .i64 x.2.1, .int .i64 x.2.2]) h ?_
        first | rfl | simp only [go_sem, resAV, resAll, resOne]
    · clear hK2
      simp only [go_sem, Nat.reduceAdd, Nat.reduceLT, Nat.reduceLeDiff, Nat.reduceEqDiff, Nat.reduceBEq, Nat.reduceBNe]
      refine lpJ 61 fuel (fun q1 w => ∀ (v3 : (List ref30_Command)) (v4 : Int) (v5 : Int), ref30_Parse_l1 text K2 q1 v3 v4 v5 = some r → w [(0, .str text), (5, .sl (some none) (List.map enc_ref30_Command v3)), (6, .int .i64 v4), (7, .int .i64 v5)] []) (fun w _ _ _ h => nomatch h) (fun q1 ih1 v3 v4 v5 h => ?_) (fun L1 => ?_)
      · unfold ref30_Parse_l1 at h
        refine runL 10000 ?_
        simp only [go_sem, Nat.reduceAdd, Nat.reduceLT, Nat.reduceLeDiff, Nat.reduceEqDiff, Nat.reduceBEq, Nat.reduceBNe]
        refine cnd_s 10000 h (fun hb h => ?_) (fun hb h => ?_)
        · skip
          simp only [go_sem, Nat.reduceAdd, Nat.reduceLT, Nat.reduceLeDiff, Nat.reduceEqDiff, Nat.reduceBEq, Nat.reduceBNe]
          refine letK_s h fun K7 hK7 h => ?_
          refine blkJ 61 10000 (fun w => ∀ (v28 : (List ref30_Command)) (v29 : Int), K7 v28 v29 = some r → w [(0, .str text), (5, .sl (some none) (List.map enc_ref30_Command v28)), (6, .int .i64 v29), (7, .int .i64 v5)] []) (fun v28 v29 h => runX 10000 ?_) (fun JK7 => ?_)
          · subst hK7
            dsimp only at h
            refine add_s h fun v31 _ e30 h => ?_
            simp only [go_sem, Nat.reduceAdd, Nat.reduceLT, Nat.reduceLeDiff, Nat.reduceEqDiff, Nat.reduceBEq, Nat.reduceBNe, e30]
            exact lp_back (ih1 v28 v29 v31 h) ⟨rfl, rfl, rfl, rfl, trivial⟩
          · clear hK7
            refine sIdx_s .i64 h fun v10 _ b8 e9 h => ?_
            simp only [go_sem, Nat.reduceAdd, Nat.reduceLT, Nat.reduceLeDiff, Nat.reduceEqDiff, Nat.reduceBEq, Nat.reduceBNe, b8, e9]
            refine cnd_s 10000 h (fun hb h => ?_) (fun hb h => ?_)
            · skip
              simp only [go_sem, Nat.reduceAdd, Nat.reduceLT, Nat.reduceLeDiff, Nat.reduceEqDiff, Nat.reduceBEq, Nat.reduceBNe]
              exact atJ (wkn (JK7 v3 v4 h) ⟨rfl, rfl, rfl, rfl, trivial⟩)
            · skip
              refine subS_s (some (.int .i64 v4)) (some (.int .i64 v5)) rfl rfl h fun v13 _ b11 e12 h => ?_
              refine bsome h fun v14 hv14 h => ?_
              simp only [go_sem, Nat.reduceAdd, Nat.reduceLT, Nat.reduceLeDiff, Nat.reduceEqDiff, Nat.reduceBEq, Nat.reduceBNe, b11, e12]
              refine callX_ 10000 (w_ref30_command  hv14) (by first | rfl | simp only [go_sem]) (by first | rfl | simp only [go_sem]) ?_
              simp only [go_sem, Nat.reduceAdd, Nat.reduceLT, Nat.reduceLeDiff, Nat.reduceEqDiff, Nat.reduceBEq, Nat.reduceBNe]
              refine bsome h fun y15 hy15 h => ?_
              refine rgJ 61 10000 (.inl rfl) (fun w => w [(0, .str text), (5, .sl (some none) (List.map enc_ref30_Command v3)), (7, .int .i64 v5), (8, .ptr 0 0), (43, .bool y15)] [some [.str v14.1.Name, .sl none (List.map (AV.int .i64) v14.1.N), .sl none (List.map enc_ref11_Val v14.1.V), .str v14.1.W, .str v14.1.S]]) (runX 10000 ?_) (fun Jy15 => ?_)
              · clear hy15
                simp only [go_sem, Nat.reduceAdd, Nat.reduceLT, Nat.reduceLeDiff, Nat.reduceEqDiff, Nat.reduceBEq, Nat.reduceBNe]
                refine cnd_s 10000 h (fun hb h => ?_) (fun hb h => ?_)
                · skip
                  refine add_s h fun v22 _ e21 h => ?_
                  simp only [go_sem, Nat.reduceAdd, Nat.reduceLT, Nat.reduceLeDiff, Nat.reduceEqDiff, Nat.reduceBEq, Nat.reduceBNe, e21]
                  refine ret_s (fun x => .tup [.sl none (List.map enc_ref30_Command x.1), .int .i64 x.2.1, .int .i64 x.2.2]) h ?_
                  first | rfl | simp only [go_sem, resAV, resAll, resOne]
                · skip
                  refine app_s enc_ref30_Command (some none) ⟨40, 5, true, 96⟩ (fun _ => rfl) (by decide) rfl h fun v25 _ (b23 : appc ⟨40, 5, true, 96⟩ (.sl (some none) (List.map enc_ref30_Command v3)) (.sl (some none) [.agg [.str v14.1.Name, .sl none (List.map (AV.int .i64) v14.1.N), .sl none (List.map enc_ref11_Val v14.1.V), .str v14.1.W, .str v14.1.S]])) (e24 : appv (.sl (some none) (List.map enc_ref30_Command v3)) (.sl (some none) [.agg [.str v14.1.Name, .sl none (List.map (AV.int .i64) v14.1.N), .sl none (List.map enc_ref11_Val v14.1.V), .str v14.1.W, .str v14.1.S]]) = .sl (some none) (List.map enc_ref30_Command v25)) h => ?_
                  refine add_s h fun v27 _ e26 h => ?_
                  simp only [go_sem, Nat.reduceAdd, Nat.reduceLT, Nat.reduceLeDiff, Nat.reduceEqDiff, Nat.reduceBEq, Nat.reduceBNe, b23, e24, e26]
                  exact atJ (wknH 0 (JK7 v25 v27 h) ⟨rfl, rfl, rfl, rfl, trivial⟩ rfl rfl rfl (by first | rfl | simp only [go_sem, ltF]) (by first | rfl | simp only [go_sem, allLt]))
              · clear h
                have h := hy15
                simp only [go_sem, Nat.reduceAdd, Nat.reduceLT, Nat.reduceLeDiff, Nat.reduceEqDiff, Nat.reduceBEq, Nat.reduceBNe]
                refine grd_ (fun hb17 => ?_) (fun hb17 => ?_)
                · skip
                  have h := ite_f hb17 h
                  refine sub_s h fun v19 _ e18 h => ?_
                  simp only [go_sem, Nat.reduceAdd, Nat.reduceLT, Nat.reduceLeDiff, Nat.reduceEqDiff, Nat.reduceBEq, Nat.reduceBNe, e18]
                  refine grd_ (fun hb20 => ?_) (fun hb20 => ?_)
                  · skip
                    have h := ite_f hb20 h
                    simp only [go_sem, Nat.reduceAdd, Nat.reduceLT, Nat.reduceLeDiff, Nat.reduceEqDiff, Nat.reduceBEq, Nat.reduceBNe]
                    obtain rfl := Option.some.inj h
                    exact atJ (wkn (Jy15) ⟨rfl, rfl, rfl, rfl, rfl, trivial⟩)
                  · skip
                    have h := ite_t hb20 h
                    simp only [go_sem, Nat.reduceAdd, Nat.reduceLT, Nat.reduceLeDiff, Nat.reduceEqDiff, Nat.reduceBEq, Nat.reduceBNe]
                    obtain rfl := Option.some.inj h
                    exact atJ (wkn (Jy15) ⟨rfl, rfl, rfl, rfl, rfl, trivial⟩)
                · skip
                  have h := ite_t hb17 h
                  simp only [go_sem, Nat.reduceAdd, Nat.reduceLT, Nat.reduceLeDiff, Nat.reduceEqDiff, Nat.reduceBEq, Nat.reduceBNe]
                  obtain rfl := Option.some.inj h
                  exact atJ (wkn (Jy15) ⟨rfl, rfl, rfl, rfl, rfl, trivial⟩)
        · skip
          simp only [go_sem, Nat.reduceAdd, Nat.reduceLT, Nat.reduceLeDiff, Nat.reduceEqDiff, Nat.reduceBEq, Nat.reduceBNe]
          exact atJ (wkn (JK2 v3 v4 h) ⟨rfl, rfl, rfl, trivial⟩)
      · exact lp_back (L1 [] 0 0 h) ⟨rfl, rfl, rfl, rfl, trivial⟩
theorem w_law30_same {a : script_Command} {p1_b : script_Command}   {r : Bool} (h : law30_same a p1_b = some r) : ACall Tryz.prog 10 [enc_script_Command a, enc_script_Command p1_b] [] (.bool r) [] := by
  refine acallX 10000 hf10 ok10 (by first | rfl | simp only [go_sem]) meek_bool ?_
  dsimp only [Tryz.f10, nums, Option.getD, List.append]
  unfold law30_same at h
  simp only [go_sem, Nat.reduceAdd, Nat.reduceLT, Nat.reduceLeDiff, Nat.reduceEqDiff, Nat.reduceBEq, Nat.reduceBNe]
  refine rgJ 80 10000 (.inl rfl) (fun w => w [(2, .ptr 0 0), (3, .ptr 1 0), (43, .bool (((((!(a.Name == p1_b.Name)) || (!(a.W == p1_b.W))) || (!(a.S == p1_b.S))) || (!decide ((a.N.length : Int) = (p1_b.N.length : Int)))) || (!decide ((a.V.length : Int) = (p1_b.V.length : Int)))))] [some [.str a.Name, .sl none (List.map (AV.int .i64) a.N), .sl none (List.map enc_api_Val a.V), .str a.W, .str a.S], some [.str p1_b.Name, .sl none (List.map (AV.int .i64) p1_b.N), .sl none (List.map enc_api_Val p1_b.V), .str p1_b.W, .str p1_b.S]]) (runX 10000 ?_) (fun Jg1 => ?_)
  · skip
    simp only [go_sem, Nat.reduceAdd, Nat.reduceLT, Nat.reduceLeDiff, Nat.reduceEqDiff, Nat.reduceBEq, Nat.reduceBNe]
    refine cnd_s 10000 h (fun hb h => ?_) (fun hb h => ?_)
    · skip
      simp only [go_sem, Nat.reduceAdd, Nat.reduceLT, Nat.reduceLeDiff, Nat.reduceEqDiff, Nat.reduceBEq, Nat.reduceBNe]
      refine ret_s (fun x => .bool x) h ?_
      first | rfl | simp only [go_sem, resAV, resAll, resOne]
    · skip
      simp only [go_sem, Nat.reduceAdd, Nat.reduceLT, Nat.reduceLeDiff, Nat.reduceEqDiff, Nat.reduceBEq, Nat.reduceBNe]
      refine letK_s h fun K3 hK3 h => ?_
      refine blkJ 80 10000 (fun w => K3 () = some r → w [(2, .ptr 0 0), (3, .ptr 1 0)] [some [.str a.Name, .sl none (List.map (AV.int .i64) a.N), .sl none (List.map enc_api_Val a.V), .str a.W, .str a.S], some [.str p1_b.Name, .sl none (List.map (AV.int .i64) p1_b.N), .sl none (List.map enc_api_Val p1_b.V), .str p1_b.W, .str p1_b.S]]) (fun  h => runX 10000 ?_) (fun JK3 => ?_)
      · subst hK3
        dsimp only at h
        simp only [go_sem, Nat.reduceAdd, Nat.reduceLT, Nat.reduceLeDiff, Nat.reduceEqDiff, Nat.reduceBEq, Nat.reduceBNe]
        refine letK_s h fun K14 hK14 h => ?_
        refine blkJ 80 10000 (fun w => K14 () = some r → w [] [some [.str a.Name, .sl none (List.map (AV.int .i64) a.N), .sl none (List.map enc_api_Val a.V), .str a.W, .str a.S], some [.str p1_b.Name, .sl none (List.map (AV.int .i64) p1_b.N), .sl none (List.map enc_api_Val p1_b.V), .str p1_b.W, .str p1_b.S]]) (fun  h => runX 10000 ?_) (fun JK14 => ?_)
        · subst hK14
          dsimp only at h
          simp only [go_sem, Nat.reduceAdd, Nat.reduceLT, Nat.reduceLeDiff, Nat.reduceEqDiff, Nat.reduceBEq, Nat.reduceBNe]
          refine ret_s (fun x => .bool x) h ?_
          first | rfl | simp only [go_sem, resAV, resAll, resOne]
        · clear hK14
          simp only [go_sem, Nat.reduceAdd, Nat.reduceLT, Nat.reduceLeDiff, Nat.reduceEqDiff, Nat.reduceBEq, Nat.reduceBNe]
          refine lpJ 80 fuel (fun q2 w => ∀ (v15 : Int), law30_same_l2 a p1_b K14 q2 v15 = some r → w [(2, .ptr 0 0), (3, .ptr 1 0), (6, .int .i64 v15)] [some [.str a.Name, .sl none (List.map (AV.int .i64) a.N), .sl none (List.map enc_api_Val a.V), .str a.W, .str a.S], some [.str p1_b.Name, .sl none (List.map (AV.int .i64) p1_b.N), .sl none (List.map enc_api_Val p1_b.V), .str p1_b.W, .str p1_b.S]]) (fun w _ h => nomatch h) (fun q2 ih2 v15 h => ?_) (fun L2 => ?_)
          · unfold law30_same_l2 at h
            refine runL 10000 ?_
            simp only [go_sem, Nat.reduceAdd, Nat.reduceLT, Nat.reduceLeDiff, Nat.reduceEqDiff, Nat.reduceBEq, Nat.reduceBNe]
            refine cnd_s 10000 h (fun hb h => ?_) (fun hb h => ?_)
            · skip
              simp only [go_sem, Nat.reduceAdd, Nat.reduceLT, Nat.reduceLeDiff, Nat.reduceEqDiff, Nat.reduceBEq, Nat.reduceBNe]
              refine blk_ 10000 ?_
              simp only [go_sem, Nat.reduceAdd, Nat.reduceLT, Nat.reduceLeDiff, Nat.reduceEqDiff, Nat.reduceBEq, Nat.reduceBNe]
              refine rg_ 10000 (.inr ⟨[], by kernel_rfl, by kernel_rfl, by rfl⟩) ?_
              refine lAt_s enc_api_Val none .i64 ⟨52, 3, true, 24⟩ (fun _ => rfl) h fun v18 _ b16 e17 h => ?_
              refine lAt_s enc_api_Val none .i64 ⟨52, 3, true, 24⟩ (fun _ => rfl) h fun v21 _ b19 e20 h => ?_
              simp only [go_sem, Nat.reduceAdd, Nat.reduceLT, Nat.reduceLeDiff, Nat.reduceEqDiff, Nat.reduceBEq, Nat.reduceBNe, b16, e17, b19, e20]
              refine cnd_s 10000 h (fun hb h => ?_) (fun hb h => ?_)
              · skip
                simp only [go_sem, Nat.reduceAdd, Nat.reduceLT, Nat.reduceLeDiff, Nat.reduceEqDiff, Nat.reduceBEq, Nat.reduceBNe]
                refine ret_s (fun x => .bool x) h ?_
                first | rfl | simp only [go_sem, resAV, resAll, resOne]
              · skip
                refine add_s h fun v23 _ e22 h => ?_
                simp only [go_sem, Nat.reduceAdd, Nat.reduceLT, Nat.reduceLeDiff, Nat.reduceEqDiff, Nat.reduceBEq, Nat.reduceBNe, e22]
                exact lp_back (ih2 v23 h) ⟨rfl, rfl, rfl, trivial⟩
            · skip
              simp only [go_sem, Nat.reduceAdd, Nat.reduceLT, Nat.reduceLeDiff, Nat.reduceEqDiff, Nat.reduceBEq, Nat.reduceBNe]
              exact atJ (wkn (JK14  h) trivial)
          · exact lp_back (L2 0 h) ⟨rfl, rfl, rfl, trivial⟩
      · clear hK3
        simp only [go_sem, Nat.reduceAdd, Nat.reduceLT, Nat.reduceLeDiff, Nat.reduceEqDiff, Nat.reduceBEq, Nat.reduceBNe]
        refine lpJ 80 fuel (fun q1 w => ∀ (v4 : Int), law30_same_l1 a p1_b K3 q1 v4 = some r → w [(2, .ptr 0 0), (3, .ptr 1 0), (5, .int .i64 v4)] [some [.str a.Name, .sl none (List.map (AV.int .i64) a.N), .sl none (List.map enc_api_Val a.V), .str a.W, .str a.S], some [.str p1_b.Name, .sl none (List.map (AV.int .i64) p1_b.N), .sl none (List.map enc_api_Val p1_b.V), .str p1_b.W, .str p1_b.S]]) (fun w _ h => nomatch h) (fun q1 ih1 v4 h => ?_) (fun L1 => ?_)
        · unfold law30_same_l1 at h
          refine runL 10000 ?_
          simp only [go_sem, Nat.reduceAdd, Nat.reduceLT, Nat.reduceLeDiff, Nat.reduceEqDiff, Nat.reduceBEq, Nat.reduceBNe]
          refine cnd_s 10000 h (fun hb h => ?_) (fun hb h => ?_)
          · skip
            simp only [go_sem, Nat.reduceAdd, Nat.reduceLT, Nat.reduceLeDiff, Nat.reduceEqDiff, Nat.reduceBEq, Nat.reduceBNe]
            refine blk_ 10000 ?_
            simp only [go_sem, Nat.reduceAdd, Nat.reduceLT, Nat.reduceLeDiff, Nat.reduceEqDiff, Nat.reduceBEq, Nat.reduceBNe]
            refine rg_ 10000 (.inr ⟨[], by kernel_rfl, by kernel_rfl, by rfl⟩) ?_
            refine lAt_s (AV.int .i64) none .i64 ⟨3, 1, false, 8⟩ (fun _ => rfl) h fun v7 _ b5 e6 h => ?_
            refine lAt_s (AV.int .i64) none .i64 ⟨3, 1, false, 8⟩ (fun _ => rfl) h fun v10 _ b8 e9 h => ?_
            simp only [go_sem, Nat.reduceAdd, Nat.reduceLT, Nat.reduceLeDiff, Nat.reduceEqDiff, Nat.reduceBEq, Nat.reduceBNe, b5, e6, b8, e9]
            refine cnd_s 10000 h (fun hb h => ?_) (fun hb h => ?_)
            · skip
              simp only [go_sem, Nat.reduceAdd, Nat.reduceLT, Nat.reduceLeDiff, Nat.reduceEqDiff, Nat.reduceBEq, Nat.reduceBNe]
              refine ret_s (fun x => .bool x) h ?_
              first | rfl | simp only [go_sem, resAV, resAll, resOne]
            · skip
              refine add_s h fun v12 _ e11 h => ?_
              simp only [go_sem, Nat.reduceAdd, Nat.reduceLT, Nat.reduceLeDiff, Nat.reduceEqDiff, Nat.reduceBEq, Nat.reduceBNe, e11]
              exact lp_back (ih1 v12 h) ⟨rfl, rfl, rfl, trivial⟩
          · skip
            simp only [go_sem, Nat.reduceAdd, Nat.reduceLT, Nat.reduceLeDiff, Nat.reduceEqDiff, Nat.reduceBEq, Nat.reduceBNe]
            exact atJ (wkn (JK3  h) ⟨rfl, rfl, trivial⟩)
        · exact lp_back (L1 0 h) ⟨rfl, rfl, rfl, trivial⟩
  · skip
    simp only [go_sem, Nat.reduceAdd, Nat.reduceLT, Nat.reduceLeDiff, Nat.reduceEqDiff, Nat.reduceBEq, Nat.reduceBNe]
    refine grd_ (fun hb24 => ?_) (fun hb24 => ?_)
    · skip
      simp only [go_sem, Nat.reduceAdd, Nat.reduceLT, Nat.reduceLeDiff, Nat.reduceEqDiff, Nat.reduceBEq, Nat.reduceBNe]
      refine grd_ (fun hb25 => ?_) (fun hb25 => ?_)
      · skip
        simp only [go_sem, Nat.reduceAdd, Nat.reduceLT, Nat.reduceLeDiff, Nat.reduceEqDiff, Nat.reduceBEq, Nat.reduceBNe]
        refine grd_ (fun hb26 => ?_) (fun hb26 => ?_)
        · skip
          simp only [go_sem, Nat.reduceAdd, Nat.reduceLT, Nat.reduceLeDiff, Nat.reduceEqDiff, Nat.reduceBEq, Nat.reduceBNe]
          refine grd_ (fun hb27 => ?_) (fun hb27 => ?_)
          · skip
            simp only [go_sem, Nat.reduceAdd, Nat.reduceLT, Nat.reduceLeDiff, Nat.reduceEqDiff, Nat.reduceBEq, Nat.reduceBNe]
            exact atJ (wkn Jg1 ⟨rfl, rfl, congrArg AV.bool (by first | rfl | (rw [hb24, hb25, hb26, hb27]; rfl) | (simp [hb24, hb25, hb26, hb27]; done) | simp_all), trivial⟩)
          · skip
            simp only [go_sem, Nat.reduceAdd, Nat.reduceLT, Nat.reduceLeDiff, Nat.reduceEqDiff, Nat.reduceBEq, Nat.reduceBNe]
            exact atJ (wkn Jg1 ⟨rfl, rfl, congrArg AV.bool (by first | rfl | (rw [hb24, hb25, hb26, hb27]; rfl) | (simp [hb24, hb25, hb26, hb27]; done) | simp_all), trivial⟩)
        · skip
          simp only [go_sem, Nat.reduceAdd, Nat.reduceLT, Nat.reduceLeDiff, Nat.reduceEqDiff, Nat.reduceBEq, Nat.reduceBNe]
          exact atJ (wkn Jg1 ⟨rfl, rfl, congrArg AV.bool (by first | rfl | (rw [hb24, hb25, hb26]; rfl) | (simp [hb24, hb25, hb26]; done) | simp_all), trivial⟩)
      · skip
        simp only [go_sem, Nat.reduceAdd, Nat.reduceLT, Nat.reduceLeDiff, Nat.reduceEqDiff, Nat.reduceBEq, Nat.reduceBNe]
        exact atJ (wkn Jg1 ⟨rfl, rfl, congrArg AV.bool (by first | rfl | (rw [hb24, hb25]; rfl) | (simp [hb24, hb25]; done) | simp_all), trivial⟩)
    · skip
      simp only [go_sem, Nat.reduceAdd, Nat.reduceLT, Nat.reduceLeDiff, Nat.reduceEqDiff, Nat.reduceBEq, Nat.reduceBNe]
      exact atJ (wkn Jg1 ⟨rfl, rfl, congrArg AV.bool (by first | rfl | (rw [hb24]; rfl) | (simp [hb24]; done) | simp_all), trivial⟩)
theorem w_law30_give {c : ref30_Command}   {r : script_Command} (h : law30_give c = some r) : ACall Tryz.prog 11 [enc_ref30_Command c] [] (enc_script_Command r) [] := by
  refine acallX 10000 hf11 ok11 (by first | rfl | simp only [go_sem]) meek_agg ?_
  dsimp only [Tryz.f11, nums, Option.getD, List.append]
  unfold law30_give at h
  simp only [go_sem, Nat.reduceAdd, Nat.reduceLT, Nat.reduceLeDiff, Nat.reduceEqDiff, Nat.reduceBEq, Nat.reduceBNe]
  refine rg_ 10000 (.inr ⟨[(1, 0), (5, 0), (8, 0), (11, 0), (13, 0)], by kernel_rfl, by kernel_rfl, by rfl⟩) ?_
  refine app_s (AV.int .i64) none ⟨3, 1, false, 8⟩ (fun _ => rfl) (by decide) rfl h fun v3 _ (b1 : appc ⟨3, 1, false, 8⟩ (.sl (some none) []) (.sl none (List.map (AV.int .i64) c.N))) (e2 : appv (.sl (some none) []) (.sl none (List.map (AV.int .i64) c.N)) = .sl (some none) (List.map (AV.int .i64) v3)) h => ?_
  simp only [go_sem, Nat.reduceAdd, Nat.reduceLT, Nat.reduceLeDiff, Nat.reduceEqDiff, Nat.reduceBEq, Nat.reduceBNe, b1, e2]
  refine bsome h fun y4 hy4 h => ?_
  refine blkJ 34 10000 (fun w => w [(2, .ptr 1 0), (3, .ptr 2 0)] [some [.str c.Name, .sl none (List.map (AV.int .i64) c.N), .sl none (List.map enc_ref11_Val c.V), .str c.W, .str c.S], some [.str [], .sl (some none) [], .sl (some none) [], .str [], .str []], some [.str c.Name, .sl none (List.map (AV.int .i64) v3), .sl (some none) (List.map enc_api_Val y4), .str c.W, .str c.S]]) (runX 10000 ?_) (fun Jy4 => ?_)
  · clear hy4
    simp only [go_sem, Nat.reduceAdd, Nat.reduceLT, Nat.reduceLeDiff, Nat.reduceEqDiff, Nat.reduceBEq, Nat.reduceBNe]
    refine ret_s (fun x => enc_script_Command x) h ?_
    first | rfl | simp only [go_sem, resAV, resAll, resOne]
  · clear h
    have h := hy4
    simp only [go_sem, Nat.reduceAdd, Nat.reduceLT, Nat.reduceLeDiff, Nat.reduceEqDiff, Nat.reduceBEq, Nat.reduceBNe]
    refine lpJ 34 fuel (fun q1 w => ∀ (v15 : Int) (v16 : (List api_Val)), law30_give_l1 c q1 v15 v16 = some y4 → w [(1, .ptr 0 0), (2, .ptr 1 0), (3, .ptr 2 0), (4, .int .i64 v15)] [some [.str c.Name, .sl none (List.map (AV.int .i64) c.N), .sl none (List.map enc_ref11_Val c.V), .str c.W, .str c.S], some [.str [], .sl (some none) [], .sl (some none) [], .str [], .str []], some [.str c.Name, .sl none (List.map (AV.int .i64) v3), .sl (some none) (List.map enc_api_Val v16), .str c.W, .str c.S]]) (fun w _ _ h => nomatch h) (fun q1 ih1 v15 v16 h => ?_) (fun L1 => ?_)
    · unfold law30_give_l1 at h
      refine runL 10000 ?_
      simp only [go_sem, Nat.reduceAdd, Nat.reduceLT, Nat.reduceLeDiff, Nat.reduceEqDiff, Nat.reduceBEq, Nat.reduceBNe]
      refine cnd_s 10000 h (fun hb h => ?_) (fun hb h => ?_)
      · skip
        simp only [go_sem, Nat.reduceAdd, Nat.reduceLT, Nat.reduceLeDiff, Nat.reduceEqDiff, Nat.reduceBEq, Nat.reduceBNe]
        refine blk_ 10000 ?_
        simp only [go_sem, Nat.reduceAdd, Nat.reduceLT, Nat.reduceLeDiff, Nat.reduceEqDiff, Nat.reduceBEq, Nat.reduceBNe]
        refine rg_ 10000 (.inr ⟨[(1, 0), (3, 2), (23, 2), (25, 0), (32, 2)], by kernel_rfl, by kernel_rfl, by rfl⟩) ?_
        refine lAt_s enc_ref11_Val none .i64 ⟨43, 3, true, 24⟩ (fun _ => rfl) h fun v19 _ b17 e18 h => ?_
        refine app_s enc_api_Val (some none) ⟨52, 3, true, 24⟩ (fun _ => rfl) (by decide) rfl h fun v22 _ (b20 : appc ⟨52, 3, true, 24⟩ (.sl (some none) (List.map enc_api_Val v16)) (.sl (some none) [.agg [.int .u8 v19.K, .int .i64 v19.N, .int .i64 v19.L]])) (e21 : appv (.sl (some none) (List.map enc_api_Val v16)) (.sl (some none) [.agg [.int .u8 v19.K, .int .i64 v19.N, .int .i64 v19.L]]) = .sl (some none) (List.map enc_api_Val v22)) h => ?_
        refine add_s h fun v24 _ e23 h => ?_
        simp only [go_sem, Nat.reduceAdd, Nat.reduceLT, Nat.reduceLeDiff, Nat.reduceEqDiff, Nat.reduceBEq, Nat.reduceBNe, b17, e18, b20, e21, e23]
        exact lp_back (ih1 v24 v22 h) ⟨rfl, rfl, rfl, rfl, trivial⟩
      · skip
        simp only [go_sem, Nat.reduceAdd, Nat.reduceLT, Nat.reduceLeDiff, Nat.reduceEqDiff, Nat.reduceBEq, Nat.reduceBNe]
        obtain rfl := Option.some.inj h
        exact atJ (wkn (Jy4) ⟨rfl, rfl, trivial⟩)
    · exact lp_back (L1 0 [] h) ⟨rfl, rfl, rfl, rfl, trivial⟩
theorem w_law30_ScriptReads {text : Str}   {r : Bool} (h : law30_ScriptReads text = some r) : ACall Tryz.prog 3 [.str text] [] (.bool r) [] := by
  refine acallX 10000 hf3 ok3 (by first | rfl | simp only [go_sem]) meek_bool ?_
  dsimp only [Tryz.f3, nums, Option.getD, List.append]
  unfold law30_ScriptReads at h
  simp only [go_sem, Nat.reduceAdd, Nat.reduceLT, Nat.reduceLeDiff, Nat.reduceEqDiff, Nat.reduceBEq, Nat.reduceBNe]
  refine cnd_s 10000 h (fun hb h => ?_) (fun hb h => ?_)
  · skip
    refine bsome h fun v1 hv1 h => ?_
    simp only [go_sem, Nat.reduceAdd, Nat.reduceLT, Nat.reduceLeDiff, Nat.reduceEqDiff, Nat.reduceBEq, Nat.reduceBNe]
    refine callX_ 10000 (w_law30_sure  hv1) (by first | rfl | simp only [go_sem]) (by first | rfl | simp only [go_sem]) ?_
    simp only [go_sem, Nat.reduceAdd, Nat.reduceLT, Nat.reduceLeDiff, Nat.reduceEqDiff, Nat.reduceBEq, Nat.reduceBNe]
    refine ret_s (fun x => .bool x) h ?_
    first | rfl | simp only [go_sem, resAV, resAll, resOne]
  · skip
    refine bsome h fun v2 hv2 h => ?_
    simp only [go_sem, Nat.reduceAdd, Nat.reduceLT, Nat.reduceLeDiff, Nat.reduceEqDiff, Nat.reduceBEq, Nat.reduceBNe]
    refine callX_ 10000 (w_script_Parse  hv2) (by first | rfl | simp only [go_sem]) (by first | rfl | simp only [go_sem]) ?_
    refine bsome h fun v3 hv3 h => ?_
    simp only [go_sem, Nat.reduceAdd, Nat.reduceLT, Nat.reduceLeDiff, Nat.reduceEqDiff, Nat.reduceBEq, Nat.reduceBNe]
    refine callX_ 10000 (w_ref30_Parse  hv3) (by first | rfl | simp only [go_sem]) (by first | rfl | simp only [go_sem]) ?_
    simp only [go_sem, Nat.reduceAdd, Nat.reduceLT, Nat.reduceLeDiff, Nat.reduceEqDiff, Nat.reduceBEq, Nat.reduceBNe]
    refine bsome h fun y4 hy4 h => ?_
    refine rgJ 60 10000 (.inl rfl) (fun w => w [(3, .sl none (List.map enc_script_Command v2.1)), (6, .sl none (List.map enc_ref30_Command v3.1)), (41, .bool y4)] []) (runX 10000 ?_) (fun Jy4 => ?_)
    · clear hy4
      simp only [go_sem, Nat.reduceAdd, Nat.reduceLT, Nat.reduceLeDiff, Nat.reduceEqDiff, Nat.reduceBEq, Nat.reduceBNe]
      refine cnd_s 10000 h (fun hb h => ?_) (fun hb h => ?_)
      · skip
        simp only [go_sem, Nat.reduceAdd, Nat.reduceLT, Nat.reduceLeDiff, Nat.reduceEqDiff, Nat.reduceBEq, Nat.reduceBNe]
        refine ret_s (fun x => .bool x) h ?_
        first | rfl | simp only [go_sem, resAV, resAll, resOne]
      · skip
        simp only [go_sem, Nat.reduceAdd, Nat.reduceLT, Nat.reduceLeDiff, Nat.reduceEqDiff, Nat.reduceBEq, Nat.reduceBNe]
        refine letK_s h fun K10 hK10 h => ?_
        refine blkJ 60 10000 (fun w => K10 () = some r → w [] []) (fun  h => runX 10000 ?_) (fun JK10 => ?_)
        · subst hK10
          dsimp only at h
          refine bsome h fun v22 hv22 h => ?_
          simp only [go_sem, Nat.reduceAdd, Nat.reduceLT, Nat.reduceLeDiff, Nat.reduceEqDiff, Nat.reduceBEq, Nat.reduceBNe]
          refine callX_ 10000 (w_law30_sure  hv22) (by first | rfl | simp only [go_sem]) (by first | rfl | simp only [go_sem]) ?_
          simp only [go_sem, Nat.reduceAdd, Nat.reduceLT, Nat.reduceLeDiff, Nat.reduceEqDiff, Nat.reduceBEq, Nat.reduceBNe]
          refine ret_s (fun x => .bool x) h ?_
          first | rfl | simp only [go_sem, resAV, resAll, resOne]
        · clear hK10
          simp only [go_sem, Nat.reduceAdd, Nat.reduceLT, Nat.reduceLeDiff, Nat.reduceEqDiff, Nat.reduceBEq, Nat.reduceBNe]
          refine lpJ 60 fuel (fun q1 w => ∀ (v11 : Int), law30_ScriptReads_l1 v2 v3 K10 q1 v11 = some r → w [(3, .sl none (List.map enc_script_Command v2.1)), (6, .sl none (List.map enc_ref30_Command v3.1)), (9, .int .i64 v11)] []) (fun w _ h => nomatch h) (fun q1 ih1 v11 h => ?_) (fun L1 => ?_)
          · unfold law30_ScriptReads_l1 at h
            refine runL 10000 ?_
            simp only [go_sem, Nat.reduceAdd, Nat.reduceLT, Nat.reduceLeDiff, Nat.reduceEqDiff, Nat.reduceBEq, Nat.reduceBNe]
            refine cnd_s 10000 h (fun hb h => ?_) (fun hb h => ?_)
            · skip
              simp only [go_sem, Nat.reduceAdd, Nat.reduceLT, Nat.reduceLeDiff, Nat.reduceEqDiff, Nat.reduceBEq, Nat.reduceBNe]
              refine blk_ 10000 ?_
              simp only [go_sem, Nat.reduceAdd, Nat.reduceLT, Nat.reduceLeDiff, Nat.reduceEqDiff, Nat.reduceBEq, Nat.reduceBNe]
              refine rg_ 10000 (.inr ⟨[], by kernel_rfl, by kernel_rfl, by rfl⟩) ?_
              refine lAt_s enc_script_Command none .i64 ⟨36, 5, true, 96⟩ (fun _ => rfl) h fun v14 _ b12 e13 h => ?_
              refine lAt_s enc_ref30_Command none .i64 ⟨40, 5, true, 96⟩ (fun _ => rfl) h fun v17 _ b15 e16 h => ?_
              refine bsome h fun v18 hv18 h => ?_
              simp only [go_sem, Nat.reduceAdd, Nat.reduceLT, Nat.reduceLeDiff, Nat.reduceEqDiff, Nat.reduceBEq, Nat.reduceBNe, b12, e13, b15, e16]
              refine callX_ 10000 (w_law30_give  hv18) (by first | rfl | simp only [go_sem]) (by first | rfl | simp only [go_sem]) ?_
              refine bsome h fun v19 hv19 h => ?_
              simp only [go_sem, Nat.reduceAdd, Nat.reduceLT, Nat.reduceLeDiff, Nat.reduceEqDiff, Nat.reduceBEq, Nat.reduceBNe]
              refine callX_ 10000 (w_law30_same  hv19) (by first | rfl | simp only [go_sem]) (by first | rfl | simp only [go_sem]) ?_
              simp only [go_sem, Nat.reduceAdd, Nat.reduceLT, Nat.reduceLeDiff, Nat.reduceEqDiff, Nat.reduceBEq, Nat.reduceBNe]
              refine cnd_s 10000 h (fun hb h => ?_) (fun hb h => ?_)
              · skip
                simp only [go_sem, Nat.reduceAdd, Nat.reduceLT, Nat.reduceLeDiff, Nat.reduceEqDiff, Nat.reduceBEq, Nat.reduceBNe]
                refine ret_s (fun x => .bool x) h ?_
                first | rfl | simp only [go_sem, resAV, resAll, resOne]
              · skip
                refine add_s h fun v21 _ e20 h => ?_
                simp only [go_sem, Nat.reduceAdd, Nat.reduceLT, Nat.reduceLeDiff, Nat.reduceEqDiff, Nat.reduceBEq, Nat.reduceBNe, e20]
                exact lp_back (ih1 v21 h) ⟨rfl, rfl, rfl, trivial⟩
            · skip
              simp only [go_sem, Nat.reduceAdd, Nat.reduceLT, Nat.reduceLeDiff, Nat.reduceEqDiff, Nat.reduceBEq, Nat.reduceBNe]
              exact atJ (wkn (JK10  h) trivial)
          · exact lp_back (L1 0 h) ⟨rfl, rfl, rfl, trivial⟩
    · clear h
      have h := hy4
      refine bsome h fun v6 hv6 h => ?_
      simp only [go_sem, Nat.reduceAdd, Nat.reduceLT, Nat.reduceLeDiff, Nat.reduceEqDiff, Nat.reduceBEq, Nat.reduceBNe]
      refine callX_ 10000 (w_law_num  hv6) (by first | rfl | simp only [go_sem]) (by first | rfl | simp only [go_sem]) ?_
      simp only [go_sem, Nat.reduceAdd, Nat.reduceLT, Nat.reduceLeDiff, Nat.reduceEqDiff, Nat.reduceBEq, Nat.reduceBNe]
      refine grd_ (fun hb7 => ?_) (fun hb7 => ?_)
      · skip
        have h := ite_f hb7 h
        simp only [go_sem, Nat.reduceAdd, Nat.reduceLT, Nat.reduceLeDiff, Nat.reduceEqDiff, Nat.reduceBEq, Nat.reduceBNe]
        refine grd_ (fun hb8 => ?_) (fun hb8 => ?_)
        · skip
          have h := ite_f hb8 h
          simp only [go_sem, Nat.reduceAdd, Nat.reduceLT, Nat.reduceLeDiff, Nat.reduceEqDiff, Nat.reduceBEq, Nat.reduceBNe]
          obtain rfl := Option.some.inj h
          exact atJ (wkn (Jy4) ⟨rfl, rfl, rfl, trivial⟩)
        · skip
          have h := ite_t hb8 h
          simp only [go_sem, Nat.reduceAdd, Nat.reduceLT, Nat.reduceLeDiff, Nat.reduceEqDiff, Nat.reduceBEq, Nat.reduceBNe]
          obtain rfl := Option.some.inj h
          exact atJ (wkn (Jy4) ⟨rfl, rfl, rfl, trivial⟩)
      · skip
        have h := ite_t hb7 h
        simp only [go_sem, Nat.reduceAdd, Nat.reduceLT, Nat.reduceLeDiff, Nat.reduceEqDiff, Nat.reduceBEq, Nat.reduceBNe]
        obtain rfl := Option.some.inj h
        exact atJ (wkn (Jy4) ⟨rfl, rfl, rfl, trivial⟩)
theorem w_law30_big {c : ref30_Command}   {r : Bool} (h : law30_big c = some r) : ACall Tryz.prog 12 [enc_ref30_Command c] [] (.bool r) [] := by
  refine acallX 10000 hf12 ok12 (by first | rfl | simp only [go_sem]) meek_bool ?_
  dsimp only [Tryz.f12, nums, Option.getD, List.append]
  unfold law30_big at h
  simp only [go_sem, Nat.reduceAdd, Nat.reduceLT, Nat.reduceLeDiff, Nat.reduceEqDiff, Nat.reduceBEq, Nat.reduceBNe]
  refine rgJ 31 10000 (.inl rfl) (fun w => w [(2, .bool (((((decide ((100 : Int) < (c.Name.length : Int))) || (decide ((5000 : Int) < (c.N.length : Int)))) || (decide ((5000 : Int) < (c.V.length : Int)))) || (decide ((100 : Int) < (c.W.length : Int)))) || (decide ((5000 : Int) < (c.S.length : Int)))))] [some [.str c.Name, .sl none (List.map (AV.int .i64) c.N), .sl none (List.map enc_ref11_Val c.V), .str c.W, .str c.S]]) (runX 10000 ?_) (fun Jg1 => ?_)
  · skip
    simp only [go_sem, Nat.reduceAdd, Nat.reduceLT, Nat.reduceLeDiff, Nat.reduceEqDiff, Nat.reduceBEq, Nat.reduceBNe]
    refine ret_s (fun x => .bool x) h ?_
    first | rfl | simp only [go_sem, resAV, resAll, resOne]
  · skip
    simp only [go_sem, Nat.reduceAdd, Nat.reduceLT, Nat.reduceLeDiff, Nat.reduceEqDiff, Nat.reduceBEq, Nat.reduceBNe]
    refine grd_ (fun hb2 => ?_) (fun hb2 => ?_)
    · skip
      simp only [go_sem, Nat.reduceAdd, Nat.reduceLT, Nat.reduceLeDiff, Nat.reduceEqDiff, Nat.reduceBEq, Nat.reduceBNe]
      refine grd_ (fun hb3 => ?_) (fun hb3 => ?_)
      · skip
        simp only [go_sem, Nat.reduceAdd, Nat.reduceLT, Nat.reduceLeDiff, Nat.reduceEqDiff, Nat.reduceBEq, Nat.reduceBNe]
        refine grd_ (fun hb4 => ?_) (fun hb4 => ?_)
        · skip
          simp only [go_sem, Nat.reduceAdd, Nat.reduceLT, Nat.reduceLeDiff, Nat.reduceEqDiff, Nat.reduceBEq, Nat.reduceBNe]
          refine grd_ (fun hb5 => ?_) (fun hb5 => ?_)
          · skip
            simp only [go_sem, Nat.reduceAdd, Nat.reduceLT, Nat.reduceLeDiff, Nat.reduceEqDiff, Nat.reduceBEq, Nat.reduceBNe]
            exact atJ (wkn Jg1 ⟨congrArg AV.bool (by first | rfl | (rw [hb2, hb3, hb4, hb5]; rfl) | (simp [hb2, hb3, hb4, hb5]; done) | simp_all), trivial⟩)
          · skip
            simp only [go_sem, Nat.reduceAdd, Nat.reduceLT, Nat.reduceLeDiff, Nat.reduceEqDiff, Nat.reduceBEq, Nat.reduceBNe]
            exact atJ (wkn Jg1 ⟨congrArg AV.bool (by first | rfl | (rw [hb2, hb3, hb4, hb5]; rfl) | (simp [hb2, hb3, hb4, hb5]; done) | simp_all), trivial⟩)
        · skip
          simp only [go_sem, Nat.reduceAdd, Nat.reduceLT, Nat.reduceLeDiff, Nat.reduceEqDiff, Nat.reduceBEq, Nat.reduceBNe]
          exact atJ (wkn Jg1 ⟨congrArg AV.bool (by first | rfl | (rw [hb2, hb3, hb4]; rfl) | (simp [hb2, hb3, hb4]; done) | simp_all), trivial⟩)
      · skip
        simp only [go_sem, Nat.reduceAdd, Nat.reduceLT, Nat.reduceLeDiff, Nat.reduceEqDiff, Nat.reduceBEq, Nat.reduceBNe]
        exact atJ (wkn Jg1 ⟨congrArg AV.bool (by first | rfl | (rw [hb2, hb3]; rfl) | (simp [hb2, hb3]; done) | simp_all), trivial⟩)
    · skip
      simp only [go_sem, Nat.reduceAdd, Nat.reduceLT, Nat.reduceLeDiff, Nat.reduceEqDiff, Nat.reduceBEq, Nat.reduceBNe]
      exact atJ (wkn Jg1 ⟨congrArg AV.bool (by first | rfl | (rw [hb2]; rfl) | (simp [hb2]; done) | simp_all), trivial⟩)
theorem w_ref30_Digits {n : Int}   {r : Str} (h : ref30_Digits n = some r) : ACall Tryz.prog 25 [.int .i64 n] [] (.str r) [] := by
  refine acallX 10000 hf25 ok25 (by first | rfl | simp only [go_sem]) meek_str ?_
  dsimp only [Tryz.f25, nums, Option.getD, List.append]
  unfold ref30_Digits at h
  simp only [go_sem, Nat.reduceAdd, Nat.reduceLT, Nat.reduceLeDiff, Nat.reduceEqDiff, Nat.reduceBEq, Nat.reduceBNe]
  refine cnd_s 10000 h (fun hb h => ?_) (fun hb h => ?_)
  · skip
    simp only [go_sem, Nat.reduceAdd, Nat.reduceLT, Nat.reduceLeDiff, Nat.reduceEqDiff, Nat.reduceBEq, Nat.reduceBNe]
    refine ret_s (fun x => .str x) h ?_
    first | rfl | simp only [go_sem, resAV, resAll, resOne]
  · skip
    simp only [go_sem, Nat.reduceAdd, Nat.reduceLT, Nat.reduceLeDiff, Nat.reduceEqDiff, Nat.reduceBEq, Nat.reduceBNe]
    refine bsome h fun y1 hy1 h => ?_
    refine blkJ 32 10000 (fun w => w [(3, .bool (decide (n < 0))), (4, .sl (some none) (List.map (AV.int .u8) y1))] []) (runX 10000 ?_) (fun Jy1 => ?_)
    · clear hy1
      simp only [go_sem, Nat.reduceAdd, Nat.reduceLT, Nat.reduceLeDiff, Nat.reduceEqDiff, Nat.reduceBEq, Nat.reduceBNe]
      refine bsome h fun y18 hy18 h => ?_
      refine cndJ 32 10000 (fun w => w [(4, .sl (some none) (List.map (AV.int .u8) y18))] []) (runX 10000 ?_) (fun Jy18 => ?_)
      · clear hy18
        simp only [go_sem, Nat.reduceAdd, Nat.reduceLT, Nat.reduceLeDiff, Nat.reduceEqDiff, Nat.reduceBEq, Nat.reduceBNe, (text_e (P := Tryz.prog) (s := 100) (d := 9) (by rw [kd9]; rfl) none y18), (isBytes_e y18)]
        refine ret_s (fun x => .str x) h ?_
        first | rfl | simp only [go_sem, resAV, resAll, resOne]
      · clear h
        have h := hy18
        refine cnd_s 10000 h (fun hb h => ?_) (fun hb h => ?_)
        · skip
          refine app_s (AV.int .u8) none ⟨5, 1, false, 1⟩ (fun _ => rfl) (by decide) rfl h fun v22 _ (b20 : appc ⟨5, 1, false, 1⟩ (.sl (some none) [.int .u8 45]) (.sl none (List.map (AV.int .u8) y1))) (e21 : appv (.sl (some none) [.int .u8 45]) (.sl none (List.map (AV.int .u8) y1)) = .sl (some none) (List.map (AV.int .u8) v22)) h => ?_
          simp only [go_sem, Nat.reduceAdd, Nat.reduceLT, Nat.reduceLeDiff, Nat.reduceEqDiff, Nat.reduceBEq, Nat.reduceBNe, b20, e21]
          obtain rfl := Option.some.inj h
          exact atJ (wkn (Jy18) ⟨rfl, trivial⟩)
        · skip
          simp only [go_sem, Nat.reduceAdd, Nat.reduceLT, Nat.reduceLeDiff, Nat.reduceEqDiff, Nat.reduceBEq, Nat.reduceBNe]
          obtain rfl := Option.some.inj h
          exact atJ (wkn (Jy18) ⟨rfl, trivial⟩)
    · clear h
      have h := hy1
      simp only [go_sem, Nat.reduceAdd, Nat.reduceLT, Nat.reduceLeDiff, Nat.reduceEqDiff, Nat.reduceBEq, Nat.reduceBNe]
      refine lpJ 32 fuel (fun q1 w => ∀ (v3 : Int) (v4 : (List Int)), ref30_Digits_l1  q1 v3 v4 = some y1 → w [(0, .int .i64 v3), (3, .bool (decide (n < 0))), (4, .sl (some none) (List.map (AV.int .u8) v4))] []) (fun w _ _ h => nomatch h) (fun q1 ih1 v3 v4 h => ?_) (fun L1 => ?_)
      · unfold ref30_Digits_l1 at h
        refine runL 10000 ?_
        simp only [go_sem, Nat.reduceAdd, Nat.reduceLT, Nat.reduceLeDiff, Nat.reduceEqDiff, Nat.reduceBEq, Nat.reduceBNe]
        refine cnd_s 10000 h (fun hb h => ?_) (fun hb h => ?_)
        · skip
          simp only [go_sem, Nat.reduceAdd, Nat.reduceLT, Nat.reduceLeDiff, Nat.reduceEqDiff, Nat.reduceBEq, Nat.reduceBNe]
          refine blk_ 10000 ?_
          refine rem_s .i64 h fun v7 _ b6 e5 h => ?_
          simp only [go_sem, Nat.reduceAdd, Nat.reduceLT, Nat.reduceLeDiff, Nat.reduceEqDiff, Nat.reduceBEq, Nat.reduceBNe, e5, ne_eq, Int.reduceEq, not_false_eq_true]
          refine bsome h fun y8 hy8 h => ?_
          refine cndJ 32 10000 (fun w => w [(0, .int .i64 v3), (3, .bool (decide (n < 0))), (4, .sl (some none) (List.map (AV.int .u8) v4)), (5, .int .i64 y8)] []) (runX 10000 ?_) (fun Jy8 => ?_)
          · clear hy8
            refine app_s (AV.int .u8) none ⟨5, 1, false, 1⟩ (fun _ => rfl) (by decide) rfl h fun v14 _ (b12 : appc ⟨5, 1, false, 1⟩ (.sl (some none) [.int .u8 (IntKind.wrap .u8 (48 + (IntKind.wrap .u8 y8)))]) (.sl none (List.map (AV.int .u8) v4))) (e13 : appv (.sl (some none) [.int .u8 (IntKind.wrap .u8 (48 + (IntKind.wrap .u8 y8)))]) (.sl none (List.map (AV.int .u8) v4)) = .sl (some none) (List.map (AV.int .u8) v14)) h => ?_
            refine quo_s h fun v17 _ b16 e15 h => ?_
            simp only [go_sem, Nat.reduceAdd, Nat.reduceLT, Nat.reduceLeDiff, Nat.reduceEqDiff, Nat.reduceBEq, Nat.reduceBNe, (cvw_e (s := 3) (k := .i64) io5 y8), (show intv .add .u8 48 (IntKind.wrap .u8 y8) = .int .u8 (IntKind.wrap .u8 (48 + (IntKind.wrap .u8 y8))) from rfl), b12, e13, e15, ne_eq, Int.reduceEq, not_false_eq_true]
            exact lp_back (ih1 v17 v14 h) ⟨rfl, rfl, rfl, trivial⟩
          · clear h
            have h := hy8
            refine cnd_s 10000 h (fun hb h => ?_) (fun hb h => ?_)
            · skip
              refine neg_s h fun v11 _ e10 h => ?_
              simp only [go_sem, Nat.reduceAdd, Nat.reduceLT, Nat.reduceLeDiff, Nat.reduceEqDiff, Nat.reduceBEq, Nat.reduceBNe, e10]
              obtain rfl := Option.some.inj h
              exact atJ (wkn (Jy8) ⟨rfl, rfl, rfl, rfl, trivial⟩)
            · skip
              simp only [go_sem, Nat.reduceAdd, Nat.reduceLT, Nat.reduceLeDiff, Nat.reduceEqDiff, Nat.reduceBEq, Nat.reduceBNe]
              obtain rfl := Option.some.inj h
              exact atJ (wkn (Jy8) ⟨rfl, rfl, rfl, rfl, trivial⟩)
        · skip
          simp only [go_sem, Nat.reduceAdd, Nat.reduceLT, Nat.reduceLeDiff, Nat.reduceEqDiff, Nat.reduceBEq, Nat.reduceBNe]
          obtain rfl := Option.some.inj h
          exact atJ (wkn (Jy1) ⟨rfl, rfl, trivial⟩)
      · exact lp_back (L1 n [] h) ⟨rfl, rfl, rfl, trivial⟩
theorem w_ref30_Value {p0_v : ref11_Val}   {r : (Str × Int)} (h : ref30_Value p0_v = some r) : ACall Tryz.prog 18 [enc_ref11_Val p0_v] [] (.tup [.str r.1, .int .i64 r.2]) [] := by
  refine acallX 10000 hf18 ok18 (by first | rfl | simp only [go_sem]) meek_tup ?_
  dsimp only [Tryz.f18, nums, Option.getD, List.append]
  unfold ref30_Value at h
  refine bsome h fun v1 hv1 h => ?_
  simp only [go_sem, Nat.reduceAdd, Nat.reduceLT, Nat.reduceLeDiff, Nat.reduceEqDiff, Nat.reduceBEq, Nat.reduceBNe]
  refine callX_ 10000 (w_ref11_Value  hv1) (by first | rfl | simp only [go_sem]) (by first | rfl | simp only [go_sem]) ?_
  simp only [go_sem, Nat.reduceAdd, Nat.reduceLT, Nat.reduceLeDiff, Nat.reduceEqDiff, Nat.reduceBEq, Nat.reduceBNe]
  refine cnd_s 10000 h (fun hb h => ?_) (fun hb h => ?_)
  · skip
    simp only [go_sem, Nat.reduceAdd, Nat.reduceLT, Nat.reduceLeDiff, Nat.reduceEqDiff, Nat.reduceBEq, Nat.reduceBNe]
    refine ret_s (fun x => .tup [.str x.1, .int .i64 x.2]) h ?_
    first | rfl | simp only [go_sem, resAV, resAll, resOne]
  · skip
    refine bsome h fun v2 hv2 h => ?_
    simp only [go_sem, Nat.reduceAdd, Nat.reduceLT, Nat.reduceLeDiff, Nat.reduceEqDiff, Nat.reduceBEq, Nat.reduceBNe]
    refine callX_ 10000 (w_ref30_Digits  hv2) (by first | rfl | simp only [go_sem]) (by first | rfl | simp only [go_sem]) ?_
    simp only [go_sem, Nat.reduceAdd, Nat.reduceLT, Nat.reduceLeDiff, Nat.reduceEqDiff, Nat.reduceBEq, Nat.reduceBNe]
    refine bsome h fun y3 hy3 h => ?_
    refine cndJ 35 10000 (fun w => w [(1, .ptr 0 0), (4, .str y3)] [some [.int .u8 p0_v.K, .int .i64 p0_v.N, .int .i64 p0_v.L]]) (runX 10000 ?_) (fun Jy3 => ?_)
    · clear hy3
      simp only [go_sem, Nat.reduceAdd, Nat.reduceLT, Nat.reduceLeDiff, Nat.reduceEqDiff, Nat.reduceBEq, Nat.reduceBNe]
      refine bsome h fun y8 hy8 h => ?_
      refine cndJ 35 10000 (fun w => w [(1, .ptr 0 0), (4, .str y8)] [some [.int .u8 p0_v.K, .int .i64 p0_v.N, .int .i64 p0_v.L]]) (runX 10000 ?_) (fun Jy8 => ?_)
      · clear hy8
        simp only [go_sem, Nat.reduceAdd, Nat.reduceLT, Nat.reduceLeDiff, Nat.reduceEqDiff, Nat.reduceBEq, Nat.reduceBNe]
        refine bsome h fun y13 hy13 h => ?_
        refine cndJ 35 10000 (fun w => w [(1, .ptr 0 0), (4, .str y13)] [some [.int .u8 p0_v.K, .int .i64 p0_v.N, .int .i64 p0_v.L]]) (runX 10000 ?_) (fun Jy13 => ?_)
        · clear hy13
          refine cat_s h fun v20 _ (b18 : y13.length + 1 ≤ maxB) e19 h => ?_
          refine bsome h fun v21 hv21 h => ?_
          simp only [go_sem, Nat.reduceAdd, Nat.reduceLT, Nat.reduceLeDiff, Nat.reduceEqDiff, Nat.reduceBEq, Nat.reduceBNe, b18, e19]
          refine callX_ 10000 (w_ref30_Digits  hv21) (by first | rfl | simp only [go_sem]) (by first | rfl | simp only [go_sem]) ?_
          refine cat_s h fun v24 _ (b22 : v20.length + v21.length ≤ maxB) e23 h => ?_
          simp only [go_sem, Nat.reduceAdd, Nat.reduceLT, Nat.reduceLeDiff, Nat.reduceEqDiff, Nat.reduceBEq, Nat.reduceBNe, b22, e23]
          refine ret_s (fun x => .tup [.str x.1, .int .i64 x.2]) h ?_
          first | rfl | simp only [go_sem, resAV, resAll, resOne]
        · clear h
          have h := hy13
          refine cnd_s 10000 h (fun hb h => ?_) (fun hb h => ?_)
          · skip
            refine cat_s h fun v17 _ (b15 : 1 + y8.length ≤ maxB) e16 h => ?_
            simp only [go_sem, Nat.reduceAdd, Nat.reduceLT, Nat.reduceLeDiff, Nat.reduceEqDiff, Nat.reduceBEq, Nat.reduceBNe, b15, e16]
            obtain rfl := Option.some.inj h
            exact atJ (wkn (Jy13) ⟨rfl, rfl, trivial⟩)
          · skip
            simp only [go_sem, Nat.reduceAdd, Nat.reduceLT, Nat.reduceLeDiff, Nat.reduceEqDiff, Nat.reduceBEq, Nat.reduceBNe]
            obtain rfl := Option.some.inj h
            exact atJ (wkn (Jy13) ⟨rfl, rfl, trivial⟩)
      · clear h
        have h := hy8
        refine cnd_s 10000 h (fun hb h => ?_) (fun hb h => ?_)
        · skip
          refine cat_s h fun v12 _ (b10 : 1 + y3.length ≤ maxB) e11 h => ?_
          simp only [go_sem, Nat.reduceAdd, Nat.reduceLT, Nat.reduceLeDiff, Nat.reduceEqDiff, Nat.reduceBEq, Nat.reduceBNe, b10, e11]
          obtain rfl := Option.some.inj h
          exact atJ (wkn (Jy8) ⟨rfl, rfl, trivial⟩)
        · skip
          simp only [go_sem, Nat.reduceAdd, Nat.reduceLT, Nat.reduceLeDiff, Nat.reduceEqDiff, Nat.reduceBEq, Nat.reduceBNe]
          obtain rfl := Option.some.inj h
          exact atJ (wkn (Jy8) ⟨rfl, rfl, trivial⟩)
    · clear h
      have h := hy3
      refine cnd_s 10000 h (fun hb h => ?_) (fun hb h => ?_)
      · skip
        refine lAt_s AV.str (some none) .u8 ⟨9, 1, false, 16⟩ (fun _ => rfl) h fun v7 _ (b5 : iadC ⟨9, 1, false, 16⟩ (.sl (some none) [.str [110, 105, 108], .str [102, 97, 108, 115, 101], .str [116, 114, 117, 101]]) (.int .u8 p0_v.K)) (e6 : iadV (.sl (some none) [.str [110, 105, 108], .str [102, 97, 108, 115, 101], .str [116, 114, 117, 101]]) (.int .u8 p0_v.K) = .ip (AV.str v7).cells) h => ?_
        simp only [go_sem, Nat.reduceAdd, Nat.reduceLT, Nat.reduceLeDiff, Nat.reduceEqDiff, Nat.reduceBEq, Nat.reduceBNe, b5, e6]
        obtain rfl := Option.some.inj h
        exact atJ (wkn (Jy3) ⟨rfl, rfl, trivial⟩)
      · skip
        simp only [go_sem, Nat.reduceAdd, Nat.reduceLT, Nat.reduceLeDiff, Nat.reduceEqDiff, Nat.reduceBEq, Nat.reduceBNe]
        obtain rfl := Option.some.inj h
        exact atJ (wkn (Jy3) ⟨rfl, rfl, trivial⟩)
theorem w_ref30_wide {form : Str}   {r : Int} (h : ref30_wide form = some r) : ACall Tryz.prog 26 [.str form] [] (.int .i64 r) [] := by
  refine acallX 10000 hf26 ok26 (by first | rfl | simp only [go_sem]) meek_int ?_
  dsimp only [Tryz.f26, nums, Option.getD, List.append]
  unfold ref30_wide at h
  simp only [go_sem, Nat.reduceAdd, Nat.reduceLT, Nat.reduceLeDiff, Nat.reduceEqDiff, Nat.reduceBEq, Nat.reduceBNe]
  refine bsome h fun y1 hy1 h => ?_
  refine blkJ 18 10000 (fun w => w [(3, .int .i64 y1)] []) (runX 10000 ?_) (fun Jy1 => ?_)
  · clear hy1
    simp only [go_sem, Nat.reduceAdd, Nat.reduceLT, Nat.reduceLeDiff, Nat.reduceEqDiff, Nat.reduceBEq, Nat.reduceBNe]
    refine ret_s (fun x => .int .i64 x) h ?_
    first | rfl | simp only [go_sem, resAV, resAll, resOne]
  · clear h
    have h := hy1
    simp only [go_sem, Nat.reduceAdd, Nat.reduceLT, Nat.reduceLeDiff, Nat.reduceEqDiff, Nat.reduceBEq, Nat.reduceBNe]
    refine lpJ 18 fuel (fun q1 w => ∀ (v3 : Int) (v4 : Int), ref30_wide_l1 form q1 v3 v4 = some y1 → w [(0, .str form), (3, .int .i64 v3), (4, .int .i64 v4)] []) (fun w _ _ h => nomatch h) (fun q1 ih1 v3 v4 h => ?_) (fun L1 => ?_)
    · unfold ref30_wide_l1 at h
      refine runL 10000 ?_
      simp only [go_sem, Nat.reduceAdd, Nat.reduceLT, Nat.reduceLeDiff, Nat.reduceEqDiff, Nat.reduceBEq, Nat.reduceBNe]
      refine cnd_s 10000 h (fun hb h => ?_) (fun hb h => ?_)
      · skip
        simp only [go_sem, Nat.reduceAdd, Nat.reduceLT, Nat.reduceLeDiff, Nat.reduceEqDiff, Nat.reduceBEq, Nat.reduceBNe]
        refine blk_ 10000 ?_
        refine sIdx_s .i64 h fun v7 _ b5 e6 h => ?_
        simp only [go_sem, Nat.reduceAdd, Nat.reduceLT, Nat.reduceLeDiff, Nat.reduceEqDiff, Nat.reduceBEq, Nat.reduceBNe, b5, e6]
        refine bsome h fun y8 hy8 h => ?_
        refine cndJ 18 10000 (fun w => w [(0, .str form), (3, .int .i64 y8), (4, .int .i64 v4)] []) (runX 10000 ?_) (fun Jy8 => ?_)
        · clear hy8
          refine add_s h fun v13 _ e12 h => ?_
          simp only [go_sem, Nat.reduceAdd, Nat.reduceLT, Nat.reduceLeDiff, Nat.reduceEqDiff, Nat.reduceBEq, Nat.reduceBNe, e12]
          exact lp_back (ih1 y8 v13 h) ⟨rfl, rfl, rfl, trivial⟩
        · clear h
          have h := hy8
          refine cnd_s 10000 h (fun hb h => ?_) (fun hb h => ?_)
          · skip
            refine add_s h fun v11 _ e10 h => ?_
            simp only [go_sem, Nat.reduceAdd, Nat.reduceLT, Nat.reduceLeDiff, Nat.reduceEqDiff, Nat.reduceBEq, Nat.reduceBNe, e10]
            obtain rfl := Option.some.inj h
            exact atJ (wkn (Jy8) ⟨rfl, rfl, rfl, trivial⟩)
          · skip
            simp only [go_sem, Nat.reduceAdd, Nat.reduceLT, Nat.reduceLeDiff, Nat.reduceEqDiff, Nat.reduceBEq, Nat.reduceBNe]
            obtain rfl := Option.some.inj h
            exact atJ (wkn (Jy8) ⟨rfl, rfl, rfl, trivial⟩)
      · skip
        simp only [go_sem, Nat.reduceAdd, Nat.reduceLT, Nat.reduceLeDiff, Nat.reduceEqDiff, Nat.reduceBEq, Nat.reduceBNe]
        obtain rfl := Option.some.inj h
        exact atJ (wkn (Jy1) ⟨rfl, trivial⟩)
    · exact lp_back (L1 0 0 h) ⟨rfl, rfl, rfl, trivial⟩
theorem w_ref30_ended {s : Str}   {r : Bool} (h : ref30_ended s = some r) : ACall Tryz.prog 28 [.str s] [] (.bool r) [] := by
  refine acallX 10000 hf28 ok28 (by first | rfl | simp only [go_sem]) meek_bool ?_
  dsimp only [Tryz.f28, nums, Option.getD, List.append]
  unfold ref30_ended at h
  simp only [go_sem, Nat.reduceAdd, Nat.reduceLT, Nat.reduceLeDiff, Nat.reduceEqDiff, Nat.reduceBEq, Nat.reduceBNe]
  refine letK_s h fun K2 hK2 h => ?_
  refine blkJ 14 10000 (fun w => K2 () = some r → w [] []) (fun  h => runX 10000 ?_) (fun JK2 => ?_)
  · subst hK2
    dsimp only at h
    simp only [go_sem, Nat.reduceAdd, Nat.reduceLT, Nat.reduceLeDiff, Nat.reduceEqDiff, Nat.reduceBEq, Nat.reduceBNe]
    refine ret_s (fun x => .bool x) h ?_
    first | rfl | simp only [go_sem, resAV, resAll, resOne]
  · clear hK2
    simp only [go_sem, Nat.reduceAdd, Nat.reduceLT, Nat.reduceLeDiff, Nat.reduceEqDiff, Nat.reduceBEq, Nat.reduceBNe]
    refine lpJ 14 fuel (fun q1 w => ∀ (v3 : Int), ref30_ended_l1 s K2 q1 v3 = some r → w [(0, .str s), (3, .int .i64 v3)] []) (fun w _ h => nomatch h) (fun q1 ih1 v3 h => ?_) (fun L1 => ?_)
    · unfold ref30_ended_l1 at h
      refine runL 10000 ?_
      simp only [go_sem, Nat.reduceAdd, Nat.reduceLT, Nat.reduceLeDiff, Nat.reduceEqDiff, Nat.reduceBEq, Nat.reduceBNe]
      refine cnd_s 10000 h (fun hb h => ?_) (fun hb h => ?_)
      · skip
        simp only [go_sem, Nat.reduceAdd, Nat.reduceLT, Nat.reduceLeDiff, Nat.reduceEqDiff, Nat.reduceBEq, Nat.reduceBNe]
        refine blk_ 10000 ?_
        refine sIdx_s .i64 h fun v6 _ b4 e5 h => ?_
        simp only [go_sem, Nat.reduceAdd, Nat.reduceLT, Nat.reduceLeDiff, Nat.reduceEqDiff, Nat.reduceBEq, Nat.reduceBNe, b4, e5]
        refine cnd_s 10000 h (fun hb h => ?_) (fun hb h => ?_)
        · skip
          simp only [go_sem, Nat.reduceAdd, Nat.reduceLT, Nat.reduceLeDiff, Nat.reduceEqDiff, Nat.reduceBEq, Nat.reduceBNe]
          refine ret_s (fun x => .bool x) h ?_
          first | rfl | simp only [go_sem, resAV, resAll, resOne]
        · skip
          refine add_s h fun v8 _ e7 h => ?_
          simp only [go_sem, Nat.reduceAdd, Nat.reduceLT, Nat.reduceLeDiff, Nat.reduceEqDiff, Nat.reduceBEq, Nat.reduceBNe, e7]
          exact lp_back (ih1 v8 h) ⟨rfl, rfl, trivial⟩
      · skip
        simp only [go_sem, Nat.reduceAdd, Nat.reduceLT, Nat.reduceLeDiff, Nat.reduceEqDiff, Nat.reduceBEq, Nat.reduceBNe]
        exact atJ (wkn (JK2  h) trivial)
    · exact lp_back (L1 0 h) ⟨rfl, rfl, trivial⟩
end Go.Cq

