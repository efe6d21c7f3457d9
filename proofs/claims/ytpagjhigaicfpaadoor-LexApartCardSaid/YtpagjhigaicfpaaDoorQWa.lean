import Derived.Test.YtpagjhigaicfpaaDoorQEn
import Derived.Test.YtpagjhigaicfpaaDoorQHa
set_option linter.unusedSectionVars false
set_option linter.unusedVariables false
set_option linter.unusedSimpArgs false
set_option linter.unusedVariables false
set_option linter.unusedSimpArgs false
set_option maxRecDepth 100000
set_option maxHeartbeats 4000000
set_option pp.maxSteps 400
namespace Go.Cq
open Go Go.Av Go.Proofs
variable [Lay] [SeatLay]
attribute [local irreducible] hold ex W Wr nd cndV rgO exitO grdO grdV grdG callX alcX stX nckX
theorem w_lex_many {s : Str} {is : (Int → Option Bool)}  (fv_is : FuncId) (hf_is : ∀ (a0 : Int) (z : Bool), is a0 = some z → ACall Tryd.prog fv_is [.int .u8 a0] [] (.bool z) []) {r : Int} (h : lex_many s is = some r) : ACall Tryd.prog 24 [.str s, .fn (.func fv_is) [] []] [] (.int .i64 r) [] := by
  refine acallX 10000 hf24 ok24 (by first | rfl | simp only [go_sem]) meek_int ?_
  dsimp only [Tryd.f24, nums, Option.getD, List.append]
  unfold lex_many at h
  simp only [go_sem, Nat.reduceAdd, Nat.reduceLT, Nat.reduceLeDiff, Nat.reduceEqDiff, Nat.reduceBEq, Nat.reduceBNe]
  refine bsome h fun y1 hy1 h => ?_
  refine blkJ 20 10000 (fun w => w [(5, .int .i64 y1)] []) (runX 10000 ?_) (fun Jy1 => ?_)
  · clear hy1
    simp only [go_sem, Nat.reduceAdd, Nat.reduceLT, Nat.reduceLeDiff, Nat.reduceEqDiff, Nat.reduceBEq, Nat.reduceBNe]
    refine ret_s (fun x => .int .i64 x) h ?_
    first | rfl | simp only [go_sem, resAV, resAll, resOne]
  · clear h
    have h := hy1
    simp only [go_sem, Nat.reduceAdd, Nat.reduceLT, Nat.reduceLeDiff, Nat.reduceEqDiff, Nat.reduceBEq, Nat.reduceBNe]
    refine lpJ 20 fuel (fun q1 w => ∀ (v3 : Int), lex_many_l1 s is q1 v3 = some y1 → w [(0, .str s), (1, .fn (.func fv_is) [] []), (5, .int .i64 v3)] []) (fun w _ h => nomatch h) (fun q1 ih1 v3 h => ?_) (fun L1 => ?_)
    · unfold lex_many_l1 at h
      refine runL 10000 ?_
      simp only [go_sem, Nat.reduceAdd, Nat.reduceLT, Nat.reduceLeDiff, Nat.reduceEqDiff, Nat.reduceBEq, Nat.reduceBNe]
      refine bsome h fun y4 hy4 h => ?_
      refine rgJ 20 10000 (fun w => w [(0, .str s), (1, .fn (.func fv_is) [] []), (5, .int .i64 v3), (16, .bool y4)] []) (runX 10000 ?_) (fun Jy4 => ?_)
      · clear hy4
        simp only [go_sem, Nat.reduceAdd, Nat.reduceLT, Nat.reduceLeDiff, Nat.reduceEqDiff, Nat.reduceBEq, Nat.reduceBNe]
        refine cnd_s 10000 h (fun hb h => ?_) (fun hb h => ?_)
        · skip
          simp only [go_sem, Nat.reduceAdd, Nat.reduceLT, Nat.reduceLeDiff, Nat.reduceEqDiff, Nat.reduceBEq, Nat.reduceBNe]
          refine blk_ 10000 ?_
          refine add_s h fun v12 _ e11 h => ?_
          simp only [go_sem, Nat.reduceAdd, Nat.reduceLT, Nat.reduceLeDiff, Nat.reduceEqDiff, Nat.reduceBEq, Nat.reduceBNe, e11]
          exact lp_back (ih1 v12 h) ⟨rfl, rfl, rfl, trivial⟩
        · skip
          simp only [go_sem, Nat.reduceAdd, Nat.reduceLT, Nat.reduceLeDiff, Nat.reduceEqDiff, Nat.reduceBEq, Nat.reduceBNe]
          obtain rfl := Option.some.inj h
          exact atJ (wkn (Jy1) ⟨rfl, trivial⟩)
      · clear h
        have h := hy4
        simp only [go_sem, Nat.reduceAdd, Nat.reduceLT, Nat.reduceLeDiff, Nat.reduceEqDiff, Nat.reduceBEq, Nat.reduceBNe]
        refine grd_ (fun hb6 => ?_) (fun hb6 => ?_)
        · skip
          have h := ite_t hb6 h
          refine sIdx_s .i64 h fun v9 _ b7 e8 h => ?_
          refine bsome h fun v10 hv10 h => ?_
          simp only [go_sem, Nat.reduceAdd, Nat.reduceLT, Nat.reduceLeDiff, Nat.reduceEqDiff, Nat.reduceBEq, Nat.reduceBNe, b7, e8]
          refine callX_ 10000 (hf_is _ _ hv10) (by first | rfl | simp only [go_sem]) ?_
          simp only [go_sem, Nat.reduceAdd, Nat.reduceLT, Nat.reduceLeDiff, Nat.reduceEqDiff, Nat.reduceBEq, Nat.reduceBNe]
          obtain rfl := Option.some.inj h
          exact atJ (wkn (Jy4) ⟨rfl, rfl, rfl, rfl, trivial⟩)
        · skip
          have h := ite_f hb6 h
          simp only [go_sem, Nat.reduceAdd, Nat.reduceLT, Nat.reduceLeDiff, Nat.reduceEqDiff, Nat.reduceBEq, Nat.reduceBNe]
          obtain rfl := Option.some.inj h
          exact atJ (wkn (Jy4) ⟨rfl, rfl, rfl, rfl, trivial⟩)
    · exact lp_back (L1 0 h) ⟨rfl, rfl, rfl, trivial⟩
theorem w_lex_letter {c : Int}   {r : Bool} (h : lex_letter c = some r) : ACall Tryd.prog 32 [.int .u8 c] [] (.bool r) [] := by
  refine acallX 10000 hf32 ok32 (by first | rfl | simp only [go_sem]) meek_bool ?_
  dsimp only [Tryd.f32, nums, Option.getD, List.append]
  unfold lex_letter at h
  simp only [go_sem, Nat.reduceAdd, Nat.reduceLT, Nat.reduceLeDiff, Nat.reduceEqDiff, Nat.reduceBEq, Nat.reduceBNe]
  refine rgJ 17 10000 (fun w => w [(2, .bool (((decide ((97 : Int) ≤ c)) && (decide (c ≤ 122))) || ((decide ((65 : Int) ≤ c)) && (decide (c ≤ 90)))))] []) (runX 10000 ?_) (fun Jg1 => ?_)
  · skip
    simp only [go_sem, Nat.reduceAdd, Nat.reduceLT, Nat.reduceLeDiff, Nat.reduceEqDiff, Nat.reduceBEq, Nat.reduceBNe]
    refine ret_s (fun x => .bool x) h ?_
    first | rfl | simp only [go_sem, resAV, resAll, resOne]
  · skip
    simp only [go_sem, Nat.reduceAdd, Nat.reduceLT, Nat.reduceLeDiff, Nat.reduceEqDiff, Nat.reduceBEq, Nat.reduceBNe]
    refine grd_ (fun hb2 => ?_) (fun hb2 => ?_)
    · skip
      simp only [go_sem, Nat.reduceAdd, Nat.reduceLT, Nat.reduceLeDiff, Nat.reduceEqDiff, Nat.reduceBEq, Nat.reduceBNe]
      refine grd_ (fun hb3 => ?_) (fun hb3 => ?_)
      · skip
        simp only [go_sem, Nat.reduceAdd, Nat.reduceLT, Nat.reduceLeDiff, Nat.reduceEqDiff, Nat.reduceBEq, Nat.reduceBNe]
        refine grd_ (fun hb4 => ?_) (fun hb4 => ?_)
        · skip
          simp only [go_sem, Nat.reduceAdd, Nat.reduceLT, Nat.reduceLeDiff, Nat.reduceEqDiff, Nat.reduceBEq, Nat.reduceBNe]
          exact atJ (wkn Jg1 ⟨congrArg AV.bool (by first | rfl | (rw [hb2, hb3, hb4]; rfl) | (simp [hb2, hb3, hb4]; done) | simp_all), trivial⟩)
        · skip
          simp only [go_sem, Nat.reduceAdd, Nat.reduceLT, Nat.reduceLeDiff, Nat.reduceEqDiff, Nat.reduceBEq, Nat.reduceBNe]
          exact atJ (wkn Jg1 ⟨congrArg AV.bool (by first | rfl | (rw [hb2, hb3, hb4]; rfl) | (simp [hb2, hb3, hb4]; done) | simp_all), trivial⟩)
      · skip
        simp only [go_sem, Nat.reduceAdd, Nat.reduceLT, Nat.reduceLeDiff, Nat.reduceEqDiff, Nat.reduceBEq, Nat.reduceBNe]
        exact atJ (wkn Jg1 ⟨congrArg AV.bool (by first | rfl | (rw [hb2, hb3]; rfl) | (simp [hb2, hb3]; done) | simp_all), trivial⟩)
    · skip
      simp only [go_sem, Nat.reduceAdd, Nat.reduceLT, Nat.reduceLeDiff, Nat.reduceEqDiff, Nat.reduceBEq, Nat.reduceBNe]
      refine grd_ (fun hb5 => ?_) (fun hb5 => ?_)
      · skip
        simp only [go_sem, Nat.reduceAdd, Nat.reduceLT, Nat.reduceLeDiff, Nat.reduceEqDiff, Nat.reduceBEq, Nat.reduceBNe]
        exact atJ (wkn Jg1 ⟨congrArg AV.bool (by first | rfl | (rw [hb2, hb5]; rfl) | (simp [hb2, hb5]; done) | simp_all), trivial⟩)
      · skip
        simp only [go_sem, Nat.reduceAdd, Nat.reduceLT, Nat.reduceLeDiff, Nat.reduceEqDiff, Nat.reduceBEq, Nat.reduceBNe]
        exact atJ (wkn Jg1 ⟨congrArg AV.bool (by first | rfl | (rw [hb2, hb5]; rfl) | (simp [hb2, hb5]; done) | simp_all), trivial⟩)
theorem w_lex_digit {c : Int}   {r : Bool} (h : lex_digit c = some r) : ACall Tryd.prog 34 [.int .u8 c] [] (.bool r) [] := by
  refine acallX 10000 hf34 ok34 (by first | rfl | simp only [go_sem]) meek_bool ?_
  dsimp only [Tryd.f34, nums, Option.getD, List.append]
  unfold lex_digit at h
  simp only [go_sem, Nat.reduceAdd, Nat.reduceLT, Nat.reduceLeDiff, Nat.reduceEqDiff, Nat.reduceBEq, Nat.reduceBNe]
  refine rgJ 9 10000 (fun w => w [(2, .bool ((decide ((48 : Int) ≤ c)) && (decide (c ≤ 57))))] []) (runX 10000 ?_) (fun Jg1 => ?_)
  · skip
    simp only [go_sem, Nat.reduceAdd, Nat.reduceLT, Nat.reduceLeDiff, Nat.reduceEqDiff, Nat.reduceBEq, Nat.reduceBNe]
    refine ret_s (fun x => .bool x) h ?_
    first | rfl | simp only [go_sem, resAV, resAll, resOne]
  · skip
    simp only [go_sem, Nat.reduceAdd, Nat.reduceLT, Nat.reduceLeDiff, Nat.reduceEqDiff, Nat.reduceBEq, Nat.reduceBNe]
    refine grd_ (fun hb2 => ?_) (fun hb2 => ?_)
    · skip
      simp only [go_sem, Nat.reduceAdd, Nat.reduceLT, Nat.reduceLeDiff, Nat.reduceEqDiff, Nat.reduceBEq, Nat.reduceBNe]
      exact atJ (wkn Jg1 ⟨congrArg AV.bool (by first | rfl | (rw [hb2]; rfl) | (simp [hb2]; done) | simp_all), trivial⟩)
    · skip
      simp only [go_sem, Nat.reduceAdd, Nat.reduceLT, Nat.reduceLeDiff, Nat.reduceEqDiff, Nat.reduceBEq, Nat.reduceBNe]
      exact atJ (wkn Jg1 ⟨congrArg AV.bool (by first | rfl | (rw [hb2]; rfl) | (simp [hb2]; done) | simp_all), trivial⟩)
theorem w_lex_either {c : Int}   {r : Bool} (h : lex_either c = some r) : ACall Tryd.prog 41 [.int .u8 c] [] (.bool r) [] := by
  refine acallX 10000 hf41 ok41 (by first | rfl | simp only [go_sem]) meek_bool ?_
  dsimp only [Tryd.f41, nums, Option.getD, List.append]
  unfold lex_either at h
  simp only [go_sem, Nat.reduceAdd, Nat.reduceLT, Nat.reduceLeDiff, Nat.reduceEqDiff, Nat.reduceBEq, Nat.reduceBNe]
  refine bsome h fun y1 hy1 h => ?_
  refine rgJ 9 10000 (fun w => w [(2, .bool y1)] []) (runX 10000 ?_) (fun Jy1 => ?_)
  · clear hy1
    simp only [go_sem, Nat.reduceAdd, Nat.reduceLT, Nat.reduceLeDiff, Nat.reduceEqDiff, Nat.reduceBEq, Nat.reduceBNe]
    refine ret_s (fun x => .bool x) h ?_
    first | rfl | simp only [go_sem, resAV, resAll, resOne]
  · clear h
    have h := hy1
    refine bsome h fun v3 hv3 h => ?_
    simp only [go_sem, Nat.reduceAdd, Nat.reduceLT, Nat.reduceLeDiff, Nat.reduceEqDiff, Nat.reduceBEq, Nat.reduceBNe]
    refine callX_ 10000 (w_lex_digit  hv3) (by first | rfl | simp only [go_sem]) ?_
    simp only [go_sem, Nat.reduceAdd, Nat.reduceLT, Nat.reduceLeDiff, Nat.reduceEqDiff, Nat.reduceBEq, Nat.reduceBNe]
    refine grd_ (fun hb4 => ?_) (fun hb4 => ?_)
    · skip
      have h := ite_f hb4 h
      refine bsome h fun v5 hv5 h => ?_
      simp only [go_sem, Nat.reduceAdd, Nat.reduceLT, Nat.reduceLeDiff, Nat.reduceEqDiff, Nat.reduceBEq, Nat.reduceBNe]
      refine callX_ 10000 (w_lex_letter  hv5) (by first | rfl | simp only [go_sem]) ?_
      simp only [go_sem, Nat.reduceAdd, Nat.reduceLT, Nat.reduceLeDiff, Nat.reduceEqDiff, Nat.reduceBEq, Nat.reduceBNe]
      obtain rfl := Option.some.inj h
      exact atJ (wkn (Jy1) ⟨rfl, trivial⟩)
    · skip
      have h := ite_t hb4 h
      simp only [go_sem, Nat.reduceAdd, Nat.reduceLT, Nat.reduceLeDiff, Nat.reduceEqDiff, Nat.reduceBEq, Nat.reduceBNe]
      obtain rfl := Option.some.inj h
      exact atJ (wkn (Jy1) ⟨rfl, trivial⟩)
theorem w_lex_named {s : Str}   {r : Bool} (h : lex_named s = some r) : ACall Tryd.prog 23 [.str s] [] (.bool r) [] := by
  refine acallX 10000 hf23 ok23 (by first | rfl | simp only [go_sem]) meek_bool ?_
  dsimp only [Tryd.f23, nums, Option.getD, List.append]
  unfold lex_named at h
  simp only [go_sem, Nat.reduceAdd, Nat.reduceLT, Nat.reduceLeDiff, Nat.reduceEqDiff, Nat.reduceBEq, Nat.reduceBNe]
  refine bsome h fun y1 hy1 h => ?_
  refine rgJ 22 10000 (fun w => w [(2, .bool y1)] []) (runX 10000 ?_) (fun Jy1 => ?_)
  · clear hy1
    simp only [go_sem, Nat.reduceAdd, Nat.reduceLT, Nat.reduceLeDiff, Nat.reduceEqDiff, Nat.reduceBEq, Nat.reduceBNe]
    refine ret_s (fun x => .bool x) h ?_
    first | rfl | simp only [go_sem, resAV, resAll, resOne]
  · clear h
    have h := hy1
    simp only [go_sem, Nat.reduceAdd, Nat.reduceLT, Nat.reduceLeDiff, Nat.reduceEqDiff, Nat.reduceBEq, Nat.reduceBNe]
    refine grd_ (fun hb3 => ?_) (fun hb3 => ?_)
    · skip
      have h := ite_t hb3 h
      simp only [go_sem, Nat.reduceAdd, Nat.reduceLT, Nat.reduceLeDiff, Nat.reduceEqDiff, Nat.reduceBEq, Nat.reduceBNe]
      refine grd_ (fun hb4 => ?_) (fun hb4 => ?_)
      · skip
        have h := ite_t hb4 h
        refine sIdx_s .i64 h fun v7 _ b5 e6 h => ?_
        refine bsome h fun v8 hv8 h => ?_
        simp only [go_sem, Nat.reduceAdd, Nat.reduceLT, Nat.reduceLeDiff, Nat.reduceEqDiff, Nat.reduceBEq, Nat.reduceBNe, b5, e6]
        refine callX_ 10000 (w_lex_letter  hv8) (by first | rfl | simp only [go_sem]) ?_
        simp only [go_sem, Nat.reduceAdd, Nat.reduceLT, Nat.reduceLeDiff, Nat.reduceEqDiff, Nat.reduceBEq, Nat.reduceBNe]
        refine grd_ (fun hb9 => ?_) (fun hb9 => ?_)
        · skip
          have h := ite_t hb9 h
          refine bsome h fun v10 hv10 h => ?_
          simp only [go_sem, Nat.reduceAdd, Nat.reduceLT, Nat.reduceLeDiff, Nat.reduceEqDiff, Nat.reduceBEq, Nat.reduceBNe]
          refine callX_ 10000 (w_lex_many 41 (fun _ _ h => w_lex_either h) hv10) (by first | rfl | simp only [go_sem]) ?_
          simp only [go_sem, Nat.reduceAdd, Nat.reduceLT, Nat.reduceLeDiff, Nat.reduceEqDiff, Nat.reduceBEq, Nat.reduceBNe]
          obtain rfl := Option.some.inj h
          exact atJ (wkn (Jy1) ⟨rfl, trivial⟩)
        · skip
          have h := ite_f hb9 h
          simp only [go_sem, Nat.reduceAdd, Nat.reduceLT, Nat.reduceLeDiff, Nat.reduceEqDiff, Nat.reduceBEq, Nat.reduceBNe]
          obtain rfl := Option.some.inj h
          exact atJ (wkn (Jy1) ⟨rfl, trivial⟩)
      · skip
        have h := ite_f hb4 h
        simp only [go_sem, Nat.reduceAdd, Nat.reduceLT, Nat.reduceLeDiff, Nat.reduceEqDiff, Nat.reduceBEq, Nat.reduceBNe]
        obtain rfl := Option.some.inj h
        exact atJ (wkn (Jy1) ⟨rfl, trivial⟩)
    · skip
      have h := ite_f hb3 h
      simp only [go_sem, Nat.reduceAdd, Nat.reduceLT, Nat.reduceLeDiff, Nat.reduceEqDiff, Nat.reduceBEq, Nat.reduceBNe]
      obtain rfl := Option.some.inj h
      exact atJ (wkn (Jy1) ⟨rfl, trivial⟩)
theorem w_internal_stringslite_IndexByte {s : Str} {c : Int}   {r : Int} (h : internal_stringslite_IndexByte s c = some r) : ACall Tryd.prog 31 [.str s, .int .u8 c] [] (.int .i64 r) [] := by
  refine acallX 10000 hf31 ok31 (by first | rfl | simp only [go_sem]) meek_int ?_
  dsimp only [Tryd.f31, nums, Option.getD, List.append]
  unfold internal_stringslite_IndexByte at h
  refine bsome h fun v1 hv1 h => ?_
  simp only [go_sem, Nat.reduceAdd, Nat.reduceLT, Nat.reduceLeDiff, Nat.reduceEqDiff, Nat.reduceBEq, Nat.reduceBNe]
  refine callX_ 10000 (w_bytealg_idx  hv1) (by first | rfl | simp only [go_sem]) ?_
  simp only [go_sem, Nat.reduceAdd, Nat.reduceLT, Nat.reduceLeDiff, Nat.reduceEqDiff, Nat.reduceBEq, Nat.reduceBNe]
  refine ret_s (fun x => .int .i64 x) h ?_
  first | rfl | simp only [go_sem, resAV, resAll, resOne]
theorem w_strings_IndexByte {s : Str} {c : Int}   {r : Int} (h : strings_IndexByte s c = some r) : ACall Tryd.prog 17 [.str s, .int .u8 c] [] (.int .i64 r) [] := by
  refine acallX 10000 hf17 ok17 (by first | rfl | simp only [go_sem]) meek_int ?_
  dsimp only [Tryd.f17, nums, Option.getD, List.append]
  unfold strings_IndexByte at h
  refine bsome h fun v1 hv1 h => ?_
  simp only [go_sem, Nat.reduceAdd, Nat.reduceLT, Nat.reduceLeDiff, Nat.reduceEqDiff, Nat.reduceBEq, Nat.reduceBNe]
  refine callX_ 10000 (w_internal_stringslite_IndexByte  hv1) (by first | rfl | simp only [go_sem]) ?_
  simp only [go_sem, Nat.reduceAdd, Nat.reduceLT, Nat.reduceLeDiff, Nat.reduceEqDiff, Nat.reduceBEq, Nat.reduceBNe]
  refine ret_s (fun x => .int .i64 x) h ?_
  first | rfl | simp only [go_sem, resAV, resAll, resOne]
theorem w_lex_bin {c : Int}   {r : Bool} (h : lex_bin c = some r) : ACall Tryd.prog 25 [.int .u8 c] [] (.bool r) [] := by
  refine acallX 10000 hf25 ok25 (by first | rfl | simp only [go_sem]) meek_bool ?_
  dsimp only [Tryd.f25, nums, Option.getD, List.append]
  unfold lex_bin at h
  refine bsome h fun v1 hv1 h => ?_
  simp only [go_sem, Nat.reduceAdd, Nat.reduceLT, Nat.reduceLeDiff, Nat.reduceEqDiff, Nat.reduceBEq, Nat.reduceBNe]
  refine callX_ 10000 (w_strings_IndexByte  hv1) (by first | rfl | simp only [go_sem]) ?_
  simp only [go_sem, Nat.reduceAdd, Nat.reduceLT, Nat.reduceLeDiff, Nat.reduceEqDiff, Nat.reduceBEq, Nat.reduceBNe]
  refine ret_s (fun x => .bool x) h ?_
  first | rfl | simp only [go_sem, resAV, resAll, resOne]
theorem w_lex_number {s : Str}   {r : Bool} (h : lex_number s = some r) : ACall Tryd.prog 26 [.str s] [] (.bool r) [] := by
  refine acallX 10000 hf26 ok26 (by first | rfl | simp only [go_sem]) meek_bool ?_
  dsimp only [Tryd.f26, nums, Option.getD, List.append]
  unfold lex_number at h
  simp only [go_sem, Nat.reduceAdd, Nat.reduceLT, Nat.reduceLeDiff, Nat.reduceEqDiff, Nat.reduceBEq, Nat.reduceBNe]
  refine bsome h fun y1 hy1 h => ?_
  refine rgJ 27 10000 (fun w => w [(2, .bool y1)] []) (runX 10000 ?_) (fun Jy1 => ?_)
  · clear hy1
    simp only [go_sem, Nat.reduceAdd, Nat.reduceLT, Nat.reduceLeDiff, Nat.reduceEqDiff, Nat.reduceBEq, Nat.reduceBNe]
    refine ret_s (fun x => .bool x) h ?_
    first | rfl | simp only [go_sem, resAV, resAll, resOne]
  · clear h
    have h := hy1
    simp only [go_sem, Nat.reduceAdd, Nat.reduceLT, Nat.reduceLeDiff, Nat.reduceEqDiff, Nat.reduceBEq, Nat.reduceBNe]
    refine grd_ (fun hb3 => ?_) (fun hb3 => ?_)
    · skip
      have h := ite_t hb3 h
      simp only [go_sem, Nat.reduceAdd, Nat.reduceLT, Nat.reduceLeDiff, Nat.reduceEqDiff, Nat.reduceBEq, Nat.reduceBNe]
      refine grd_ (fun hb4 => ?_) (fun hb4 => ?_)
      · skip
        have h := ite_t hb4 h
        refine bsome h fun v5 hv5 h => ?_
        simp only [go_sem, Nat.reduceAdd, Nat.reduceLT, Nat.reduceLeDiff, Nat.reduceEqDiff, Nat.reduceBEq, Nat.reduceBNe]
        refine callX_ 10000 (w_lex_many 34 (fun _ _ h => w_lex_digit h) hv5) (by first | rfl | simp only [go_sem]) ?_
        simp only [go_sem, Nat.reduceAdd, Nat.reduceLT, Nat.reduceLeDiff, Nat.reduceEqDiff, Nat.reduceBEq, Nat.reduceBNe]
        refine grd_ (fun hb6 => ?_) (fun hb6 => ?_)
        · skip
          have h := ite_t hb6 h
          refine sIdx_s .i64 h fun v9 _ b7 e8 h => ?_
          simp only [go_sem, Nat.reduceAdd, Nat.reduceLT, Nat.reduceLeDiff, Nat.reduceEqDiff, Nat.reduceBEq, Nat.reduceBNe, b7, e8]
          refine grd_ (fun hb10 => ?_) (fun hb10 => ?_)
          · skip
            have h := ite_f hb10 h
            simp only [go_sem, Nat.reduceAdd, Nat.reduceLT, Nat.reduceLeDiff, Nat.reduceEqDiff, Nat.reduceBEq, Nat.reduceBNe]
            obtain rfl := Option.some.inj h
            exact atJ (wkn (Jy1) ⟨rfl, trivial⟩)
          · skip
            have h := ite_t hb10 h
            simp only [go_sem, Nat.reduceAdd, Nat.reduceLT, Nat.reduceLeDiff, Nat.reduceEqDiff, Nat.reduceBEq, Nat.reduceBNe]
            obtain rfl := Option.some.inj h
            exact atJ (wkn (Jy1) ⟨rfl, trivial⟩)
        · skip
          have h := ite_f hb6 h
          simp only [go_sem, Nat.reduceAdd, Nat.reduceLT, Nat.reduceLeDiff, Nat.reduceEqDiff, Nat.reduceBEq, Nat.reduceBNe]
          obtain rfl := Option.some.inj h
          exact atJ (wkn (Jy1) ⟨rfl, trivial⟩)
      · skip
        have h := ite_f hb4 h
        simp only [go_sem, Nat.reduceAdd, Nat.reduceLT, Nat.reduceLeDiff, Nat.reduceEqDiff, Nat.reduceBEq, Nat.reduceBNe]
        obtain rfl := Option.some.inj h
        exact atJ (wkn (Jy1) ⟨rfl, trivial⟩)
    · skip
      have h := ite_f hb3 h
      simp only [go_sem, Nat.reduceAdd, Nat.reduceLT, Nat.reduceLeDiff, Nat.reduceEqDiff, Nat.reduceBEq, Nat.reduceBNe]
      obtain rfl := Option.some.inj h
      exact atJ (wkn (Jy1) ⟨rfl, trivial⟩)
theorem w_lex_May {p0_w : lex_Word}   {r : Bool} (h : lex_May p0_w = some r) : ACall Tryd.prog 12 [enc_lex_Word p0_w] [] (.bool r) [] := by
  refine acallX 10000 hf12 ok12 (by first | rfl | simp only [go_sem]) meek_bool ?_
  dsimp only [Tryd.f12, nums, Option.getD, List.append]
  unfold lex_May at h
  simp only [go_sem, Nat.reduceAdd, Nat.reduceLT, Nat.reduceLeDiff, Nat.reduceEqDiff, Nat.reduceBEq, Nat.reduceBNe]
  refine cnd_s 10000 h (fun hb h => ?_) (fun hb h => ?_)
  · skip
    simp only [go_sem, Nat.reduceAdd, Nat.reduceLT, Nat.reduceLeDiff, Nat.reduceEqDiff, Nat.reduceBEq, Nat.reduceBNe]
    refine ret_s (fun x => .bool x) h ?_
    first | rfl | simp only [go_sem, resAV, resAll, resOne]
  · skip
    simp only [go_sem, Nat.reduceAdd, Nat.reduceLT, Nat.reduceLeDiff, Nat.reduceEqDiff, Nat.reduceBEq, Nat.reduceBNe]
    refine blk_ 10000 ?_
    simp only [go_sem, Nat.reduceAdd, Nat.reduceLT, Nat.reduceLeDiff, Nat.reduceEqDiff, Nat.reduceBEq, Nat.reduceBNe]
    refine bsome h fun y1 hy1 h => ?_
    refine cndJ 54 10000 (fun w => w [(1, .ptr 0 0), (7, .int .u8 p0_w.K), (8, .bool y1)] [some [.int .u8 p0_w.K, .str p0_w.S, .int .i64 p0_w.At]]) (runX 10000 ?_) (fun Jy1 => ?_)
    · clear hy1
      simp only [go_sem, Nat.reduceAdd, Nat.reduceLT, Nat.reduceLeDiff, Nat.reduceEqDiff, Nat.reduceBEq, Nat.reduceBNe]
      refine cnd_s 10000 h (fun hb h => ?_) (fun hb h => ?_)
      · skip
        refine bsome h fun v5 hv5 h => ?_
        simp only [go_sem, Nat.reduceAdd, Nat.reduceLT, Nat.reduceLeDiff, Nat.reduceEqDiff, Nat.reduceBEq, Nat.reduceBNe]
        refine callX_ 10000 (w_lex_named  hv5) (by first | rfl | simp only [go_sem]) ?_
        simp only [go_sem, Nat.reduceAdd, Nat.reduceLT, Nat.reduceLeDiff, Nat.reduceEqDiff, Nat.reduceBEq, Nat.reduceBNe]
        refine ret_s (fun x => .bool x) h ?_
        first | rfl | simp only [go_sem, resAV, resAll, resOne]
      · skip
        simp only [go_sem, Nat.reduceAdd, Nat.reduceLT, Nat.reduceLeDiff, Nat.reduceEqDiff, Nat.reduceBEq, Nat.reduceBNe]
        refine cnd_s 10000 h (fun hb h => ?_) (fun hb h => ?_)
        · skip
          simp only [go_sem, Nat.reduceAdd, Nat.reduceLT, Nat.reduceLeDiff, Nat.reduceEqDiff, Nat.reduceBEq, Nat.reduceBNe]
          refine bsome h fun y6 hy6 h => ?_
          refine rgJ 54 10000 (fun w => w [(2, .bool y6)] [some [.int .u8 p0_w.K, .str p0_w.S, .int .i64 p0_w.At]]) (runX 10000 ?_) (fun Jy6 => ?_)
          · clear hy6
            simp only [go_sem, Nat.reduceAdd, Nat.reduceLT, Nat.reduceLeDiff, Nat.reduceEqDiff, Nat.reduceBEq, Nat.reduceBNe]
            refine ret_s (fun x => .bool x) h ?_
            first | rfl | simp only [go_sem, resAV, resAll, resOne]
          · clear h
            have h := hy6
            simp only [go_sem, Nat.reduceAdd, Nat.reduceLT, Nat.reduceLeDiff, Nat.reduceEqDiff, Nat.reduceBEq, Nat.reduceBNe]
            refine grd_ (fun hb8 => ?_) (fun hb8 => ?_)
            · skip
              have h := ite_t hb8 h
              simp only [go_sem, Nat.reduceAdd, Nat.reduceLT, Nat.reduceLeDiff, Nat.reduceEqDiff, Nat.reduceBEq, Nat.reduceBNe]
              refine grd_ (fun hb9 => ?_) (fun hb9 => ?_)
              · skip
                have h := ite_t hb9 h
                refine bsome h fun v10 hv10 h => ?_
                simp only [go_sem, Nat.reduceAdd, Nat.reduceLT, Nat.reduceLeDiff, Nat.reduceEqDiff, Nat.reduceBEq, Nat.reduceBNe]
                refine callX_ 10000 (w_lex_many 25 (fun _ _ h => w_lex_bin h) hv10) (by first | rfl | simp only [go_sem]) ?_
                simp only [go_sem, Nat.reduceAdd, Nat.reduceLT, Nat.reduceLeDiff, Nat.reduceEqDiff, Nat.reduceBEq, Nat.reduceBNe]
                obtain rfl := Option.some.inj h
                exact atJ (wkn (Jy6) ⟨rfl, trivial⟩)
              · skip
                have h := ite_f hb9 h
                simp only [go_sem, Nat.reduceAdd, Nat.reduceLT, Nat.reduceLeDiff, Nat.reduceEqDiff, Nat.reduceBEq, Nat.reduceBNe]
                obtain rfl := Option.some.inj h
                exact atJ (wkn (Jy6) ⟨rfl, trivial⟩)
            · skip
              have h := ite_f hb8 h
              simp only [go_sem, Nat.reduceAdd, Nat.reduceLT, Nat.reduceLeDiff, Nat.reduceEqDiff, Nat.reduceBEq, Nat.reduceBNe]
              obtain rfl := Option.some.inj h
              exact atJ (wkn (Jy6) ⟨rfl, trivial⟩)
        · skip
          simp only [go_sem, Nat.reduceAdd, Nat.reduceLT, Nat.reduceLeDiff, Nat.reduceEqDiff, Nat.reduceBEq, Nat.reduceBNe]
          refine cnd_s 10000 h (fun hb h => ?_) (fun hb h => ?_)
          · skip
            refine bsome h fun v11 hv11 h => ?_
            simp only [go_sem, Nat.reduceAdd, Nat.reduceLT, Nat.reduceLeDiff, Nat.reduceEqDiff, Nat.reduceBEq, Nat.reduceBNe]
            refine callX_ 10000 (w_lex_number  hv11) (by first | rfl | simp only [go_sem]) ?_
            simp only [go_sem, Nat.reduceAdd, Nat.reduceLT, Nat.reduceLeDiff, Nat.reduceEqDiff, Nat.reduceBEq, Nat.reduceBNe]
            refine ret_s (fun x => .bool x) h ?_
            first | rfl | simp only [go_sem, resAV, resAll, resOne]
          · skip
            simp only [go_sem, Nat.reduceAdd, Nat.reduceLT, Nat.reduceLeDiff, Nat.reduceEqDiff, Nat.reduceBEq, Nat.reduceBNe]
            refine cnd_s 10000 h (fun hb h => ?_) (fun hb h => ?_)
            · skip
              simp only [go_sem, Nat.reduceAdd, Nat.reduceLT, Nat.reduceLeDiff, Nat.reduceEqDiff, Nat.reduceBEq, Nat.reduceBNe]
              refine ret_s (fun x => .bool x) h ?_
              first | rfl | simp only [go_sem, resAV, resAll, resOne]
            · skip
              simp only [go_sem, Nat.reduceAdd, Nat.reduceLT, Nat.reduceLeDiff, Nat.reduceEqDiff, Nat.reduceBEq, Nat.reduceBNe]
              refine rgJ 54 10000 (fun w => w [(2, .bool ((decide (p0_w.K ≤ 16)) && (p0_w.S == [])))] [some [.int .u8 p0_w.K, .str p0_w.S, .int .i64 p0_w.At]]) (runX 10000 ?_) (fun Jg12 => ?_)
              · skip
                simp only [go_sem, Nat.reduceAdd, Nat.reduceLT, Nat.reduceLeDiff, Nat.reduceEqDiff, Nat.reduceBEq, Nat.reduceBNe]
                refine ret_s (fun x => .bool x) h ?_
                first | rfl | simp only [go_sem, resAV, resAll, resOne]
              · skip
                simp only [go_sem, Nat.reduceAdd, Nat.reduceLT, Nat.reduceLeDiff, Nat.reduceEqDiff, Nat.reduceBEq, Nat.reduceBNe]
                refine grd_ (fun hb13 => ?_) (fun hb13 => ?_)
                · skip
                  simp only [go_sem, Nat.reduceAdd, Nat.reduceLT, Nat.reduceLeDiff, Nat.reduceEqDiff, Nat.reduceBEq, Nat.reduceBNe]
                  exact atJ (wkn Jg12 ⟨congrArg AV.bool (by first | rfl | (rw [hb13]; rfl) | (simp [hb13]; done) | simp_all), trivial⟩)
                · skip
                  simp only [go_sem, Nat.reduceAdd, Nat.reduceLT, Nat.reduceLeDiff, Nat.reduceEqDiff, Nat.reduceBEq, Nat.reduceBNe]
                  exact atJ (wkn Jg12 ⟨congrArg AV.bool (by first | rfl | (rw [hb13]; rfl) | (simp [hb13]; done) | simp_all), trivial⟩)
    · clear h
      have h := hy1
      refine cnd_s 10000 h (fun hb h => ?_) (fun hb h => ?_)
      · skip
        simp only [go_sem, Nat.reduceAdd, Nat.reduceLT, Nat.reduceLeDiff, Nat.reduceEqDiff, Nat.reduceBEq, Nat.reduceBNe]
        obtain rfl := Option.some.inj h
        exact atJ (wkn (Jy1) ⟨rfl, rfl, rfl, trivial⟩)
      · skip
        simp only [go_sem, Nat.reduceAdd, Nat.reduceLT, Nat.reduceLeDiff, Nat.reduceEqDiff, Nat.reduceBEq, Nat.reduceBNe]
        refine bsome h fun y3 hy3 h => ?_
        refine cndJ 54 10000 (fun w => w [(1, .ptr 0 0), (7, .int .u8 p0_w.K), (8, .bool y3)] [some [.int .u8 p0_w.K, .str p0_w.S, .int .i64 p0_w.At]]) (runX 10000 ?_) (fun Jy3 => ?_)
        · clear hy3
          simp only [go_sem, Nat.reduceAdd, Nat.reduceLT, Nat.reduceLeDiff, Nat.reduceEqDiff, Nat.reduceBEq, Nat.reduceBNe]
          obtain rfl := Option.some.inj h
          exact atJ (wkn (Jy1) ⟨rfl, rfl, rfl, trivial⟩)
        · clear h
          have h := hy3
          refine cnd_s 10000 h (fun hb h => ?_) (fun hb h => ?_)
          · skip
            simp only [go_sem, Nat.reduceAdd, Nat.reduceLT, Nat.reduceLeDiff, Nat.reduceEqDiff, Nat.reduceBEq, Nat.reduceBNe]
            obtain rfl := Option.some.inj h
            exact atJ (wkn (Jy3) ⟨rfl, rfl, rfl, trivial⟩)
          · skip
            simp only [go_sem, Nat.reduceAdd, Nat.reduceLT, Nat.reduceLeDiff, Nat.reduceEqDiff, Nat.reduceBEq, Nat.reduceBNe]
            obtain rfl := Option.some.inj h
            exact atJ (wkn (Jy3) ⟨rfl, rfl, rfl, trivial⟩)
theorem w_lex_letters {s : Str}   {r : (lex_Word × Int)} (h : lex_letters s = some r) : ACall Tryd.prog 33 [.str s] [] (.tup [enc_lex_Word r.1, .int .i64 r.2]) [] := by
  refine acallX 10000 hf33 ok33 (by first | rfl | simp only [go_sem]) meek_tup ?_
  dsimp only [Tryd.f33, nums, Option.getD, List.append]
  unfold lex_letters at h
  refine bsome h fun v1 hv1 h => ?_
  simp only [go_sem, Nat.reduceAdd, Nat.reduceLT, Nat.reduceLeDiff, Nat.reduceEqDiff, Nat.reduceBEq, Nat.reduceBNe]
  refine callX_ 10000 (w_lex_many 41 (fun _ _ h => w_lex_either h) hv1) (by first | rfl | simp only [go_sem]) ?_
  simp only [go_sem, Nat.reduceAdd, Nat.reduceLT, Nat.reduceLeDiff, Nat.reduceEqDiff, Nat.reduceBEq, Nat.reduceBNe]
  refine bsome h fun y2 hy2 h => ?_
  refine rgJ 42 10000 (fun w => w [(0, .str s), (2, .ptr 0 0), (4, .int .i64 v1), (30, .bool y2)] [some [.int .u8 0, .str [], .int .i64 0]]) (runX 10000 ?_) (fun Jy2 => ?_)
  · clear hy2
    simp only [go_sem, Nat.reduceAdd, Nat.reduceLT, Nat.reduceLeDiff, Nat.reduceEqDiff, Nat.reduceBEq, Nat.reduceBNe]
    refine cnd_s 10000 h (fun hb h => ?_) (fun hb h => ?_)
    · skip
      refine subS_s none (some (.int .i64 v1)) rfl rfl h fun v18 _ b16 e17 h => ?_
      refine add_s h fun v20 _ e19 h => ?_
      simp only [go_sem, Nat.reduceAdd, Nat.reduceLT, Nat.reduceLeDiff, Nat.reduceEqDiff, Nat.reduceBEq, Nat.reduceBNe, b16, e17, e19]
      refine ret_s (fun x => .tup [enc_lex_Word x.1, .int .i64 x.2]) h ?_
      first | rfl | simp only [go_sem, resAV, resAll, resOne]
    · skip
      refine subS_s none (some (.int .i64 v1)) rfl rfl h fun v23 _ b21 e22 h => ?_
      simp only [go_sem, Nat.reduceAdd, Nat.reduceLT, Nat.reduceLeDiff, Nat.reduceEqDiff, Nat.reduceBEq, Nat.reduceBNe, b21, e22]
      refine ret_s (fun x => .tup [enc_lex_Word x.1, .int .i64 x.2]) h ?_
      first | rfl | simp only [go_sem, resAV, resAll, resOne]
  · clear h
    have h := hy2
    simp only [go_sem, Nat.reduceAdd, Nat.reduceLT, Nat.reduceLeDiff, Nat.reduceEqDiff, Nat.reduceBEq, Nat.reduceBNe]
    refine grd_ (fun hb4 => ?_) (fun hb4 => ?_)
    · skip
      have h := ite_t hb4 h
      refine sIdx_s .i64 h fun v7 _ b5 e6 h => ?_
      simp only [go_sem, Nat.reduceAdd, Nat.reduceLT, Nat.reduceLeDiff, Nat.reduceEqDiff, Nat.reduceBEq, Nat.reduceBNe, b5, e6]
      refine grd_ (fun hb8 => ?_) (fun hb8 => ?_)
      · skip
        have h := ite_t hb8 h
        refine add_s h fun v10 _ e9 h => ?_
        simp only [go_sem, Nat.reduceAdd, Nat.reduceLT, Nat.reduceLeDiff, Nat.reduceEqDiff, Nat.reduceBEq, Nat.reduceBNe, e9]
        refine grd_ (fun hb11 => ?_) (fun hb11 => ?_)
        · skip
          have h := ite_f hb11 h
          refine sIdx_s .i64 h fun v15 _ b13 e14 h => ?_
          simp only [go_sem, Nat.reduceAdd, Nat.reduceLT, Nat.reduceLeDiff, Nat.reduceEqDiff, Nat.reduceBEq, Nat.reduceBNe, e9, b13, e14]
          obtain rfl := Option.some.inj h
          exact atJ (wkn (Jy2) ⟨rfl, rfl, rfl, rfl, trivial⟩)
        · skip
          have h := ite_t hb11 h
          simp only [go_sem, Nat.reduceAdd, Nat.reduceLT, Nat.reduceLeDiff, Nat.reduceEqDiff, Nat.reduceBEq, Nat.reduceBNe]
          obtain rfl := Option.some.inj h
          exact atJ (wkn (Jy2) ⟨rfl, rfl, rfl, rfl, trivial⟩)
      · skip
        have h := ite_f hb8 h
        simp only [go_sem, Nat.reduceAdd, Nat.reduceLT, Nat.reduceLeDiff, Nat.reduceEqDiff, Nat.reduceBEq, Nat.reduceBNe]
        obtain rfl := Option.some.inj h
        exact atJ (wkn (Jy2) ⟨rfl, rfl, rfl, rfl, trivial⟩)
    · skip
      have h := ite_f hb4 h
      simp only [go_sem, Nat.reduceAdd, Nat.reduceLT, Nat.reduceLeDiff, Nat.reduceEqDiff, Nat.reduceBEq, Nat.reduceBNe]
      obtain rfl := Option.some.inj h
      exact atJ (wkn (Jy2) ⟨rfl, rfl, rfl, rfl, trivial⟩)
theorem w_lex_colon {s : Str}   {r : (lex_Word × Int)} (h : lex_colon s = some r) : ACall Tryd.prog 35 [.str s] [] (.tup [enc_lex_Word r.1, .int .i64 r.2]) [] := by
  refine acallX 10000 hf35 ok35 (by first | rfl | simp only [go_sem]) meek_tup ?_
  dsimp only [Tryd.f35, nums, Option.getD, List.append]
  unfold lex_colon at h
  refine subS_s (some (.int .i64 1)) none rfl rfl h fun v3 _ b1 e2 h => ?_
  simp only [go_sem, Nat.reduceAdd, Nat.reduceLT, Nat.reduceLeDiff, Nat.reduceEqDiff, Nat.reduceBEq, Nat.reduceBNe, b1, e2]
  refine blk_ 10000 ?_
  simp only [go_sem, Nat.reduceAdd, Nat.reduceLT, Nat.reduceLeDiff, Nat.reduceEqDiff, Nat.reduceBEq, Nat.reduceBNe]
  refine bsome h fun y4 hy4 h => ?_
  refine rgJ 34 10000 (fun w => w [(2, .ptr 0 0), (4, .str v3), (8, .bool y4)] [some [.int .u8 0, .str [], .int .i64 0]]) (runX 10000 ?_) (fun Jy4 => ?_)
  · clear hy4
    simp only [go_sem, Nat.reduceAdd, Nat.reduceLT, Nat.reduceLeDiff, Nat.reduceEqDiff, Nat.reduceBEq, Nat.reduceBNe]
    refine cnd_s 10000 h (fun hb h => ?_) (fun hb h => ?_)
    · skip
      simp only [go_sem, Nat.reduceAdd, Nat.reduceLT, Nat.reduceLeDiff, Nat.reduceEqDiff, Nat.reduceBEq, Nat.reduceBNe]
      refine ret_s (fun x => .tup [enc_lex_Word x.1, .int .i64 x.2]) h ?_
      first | rfl | simp only [go_sem, resAV, resAll, resOne]
    · skip
      simp only [go_sem, Nat.reduceAdd, Nat.reduceLT, Nat.reduceLeDiff, Nat.reduceEqDiff, Nat.reduceBEq, Nat.reduceBNe]
      refine bsome h fun y10 hy10 h => ?_
      refine rgJ 34 10000 (fun w => w [(2, .ptr 0 0), (4, .str v3), (17, .bool y10)] [some [.int .u8 0, .str [], .int .i64 0]]) (runX 10000 ?_) (fun Jy10 => ?_)
      · clear hy10
        simp only [go_sem, Nat.reduceAdd, Nat.reduceLT, Nat.reduceLeDiff, Nat.reduceEqDiff, Nat.reduceBEq, Nat.reduceBNe]
        refine cnd_s 10000 h (fun hb h => ?_) (fun hb h => ?_)
        · skip
          refine bsome h fun v17 hv17 h => ?_
          simp only [go_sem, Nat.reduceAdd, Nat.reduceLT, Nat.reduceLeDiff, Nat.reduceEqDiff, Nat.reduceBEq, Nat.reduceBNe]
          refine callX_ 10000 (w_lex_many 41 (fun _ _ h => w_lex_either h) hv17) (by first | rfl | simp only [go_sem]) ?_
          refine subS_s none (some (.int .i64 v17)) rfl rfl h fun v20 _ b18 e19 h => ?_
          refine add_s h fun v22 _ e21 h => ?_
          simp only [go_sem, Nat.reduceAdd, Nat.reduceLT, Nat.reduceLeDiff, Nat.reduceEqDiff, Nat.reduceBEq, Nat.reduceBNe, b18, e19, e21]
          refine ret_s (fun x => .tup [enc_lex_Word x.1, .int .i64 x.2]) h ?_
          first | rfl | simp only [go_sem, resAV, resAll, resOne]
        · skip
          simp only [go_sem, Nat.reduceAdd, Nat.reduceLT, Nat.reduceLeDiff, Nat.reduceEqDiff, Nat.reduceBEq, Nat.reduceBNe]
          refine ret_s (fun x => .tup [enc_lex_Word x.1, .int .i64 x.2]) h ?_
          first | rfl | simp only [go_sem, resAV, resAll, resOne]
      · clear h
        have h := hy10
        simp only [go_sem, Nat.reduceAdd, Nat.reduceLT, Nat.reduceLeDiff, Nat.reduceEqDiff, Nat.reduceBEq, Nat.reduceBNe]
        refine grd_ (fun hb12 => ?_) (fun hb12 => ?_)
        · skip
          have h := ite_t hb12 h
          refine sIdx_s .i64 h fun v15 _ b13 e14 h => ?_
          refine bsome h fun v16 hv16 h => ?_
          simp only [go_sem, Nat.reduceAdd, Nat.reduceLT, Nat.reduceLeDiff, Nat.reduceEqDiff, Nat.reduceBEq, Nat.reduceBNe, b13, e14]
          refine callX_ 10000 (w_lex_letter  hv16) (by first | rfl | simp only [go_sem]) ?_
          simp only [go_sem, Nat.reduceAdd, Nat.reduceLT, Nat.reduceLeDiff, Nat.reduceEqDiff, Nat.reduceBEq, Nat.reduceBNe]
          obtain rfl := Option.some.inj h
          exact atJ (wkn (Jy10) ⟨rfl, rfl, rfl, trivial⟩)
        · skip
          have h := ite_f hb12 h
          simp only [go_sem, Nat.reduceAdd, Nat.reduceLT, Nat.reduceLeDiff, Nat.reduceEqDiff, Nat.reduceBEq, Nat.reduceBNe]
          obtain rfl := Option.some.inj h
          exact atJ (wkn (Jy10) ⟨rfl, rfl, rfl, trivial⟩)
  · clear h
    have h := hy4
    simp only [go_sem, Nat.reduceAdd, Nat.reduceLT, Nat.reduceLeDiff, Nat.reduceEqDiff, Nat.reduceBEq, Nat.reduceBNe]
    refine grd_ (fun hb6 => ?_) (fun hb6 => ?_)
    · skip
      have h := ite_t hb6 h
      refine sIdx_s .i64 h fun v9 _ b7 e8 h => ?_
      simp only [go_sem, Nat.reduceAdd, Nat.reduceLT, Nat.reduceLeDiff, Nat.reduceEqDiff, Nat.reduceBEq, Nat.reduceBNe, b7, e8]
      obtain rfl := Option.some.inj h
      exact atJ (wkn (Jy4) ⟨rfl, rfl, rfl, trivial⟩)
    · skip
      have h := ite_f hb6 h
      simp only [go_sem, Nat.reduceAdd, Nat.reduceLT, Nat.reduceLeDiff, Nat.reduceEqDiff, Nat.reduceBEq, Nat.reduceBNe]
      obtain rfl := Option.some.inj h
      exact atJ (wkn (Jy4) ⟨rfl, rfl, rfl, trivial⟩)
theorem w_strings_Builder_WriteByte {p0_b : strings_Builder} {c : Int}   {r : ((Option Int) × strings_Builder)} (h : strings_Builder_WriteByte p0_b c = some r) : ACall Tryd.prog 47 [.ptr 0 0, .int .u8 c] [some [.bld 0 80, .sl (some (some 5)) (List.map (AV.int .u8) p0_b.buf)]] (encE 47 r.1) [some [.bld 0 80, .sl (some (some 5)) (List.map (AV.int .u8) r.2.buf)]] := by
  refine acallHX 10000 hf47 ok47 (by first | rfl | simp only [go_sem]) meek_encE rfl (by first | rfl | simp only [go_sem, allLt]) ?_
  dsimp only [Tryd.f47, nums, Option.getD, List.append]
  unfold strings_Builder_WriteByte at h
  refine bsome h fun v1 hv1 h => ?_
  simp only [go_sem, Nat.reduceAdd, Nat.reduceLT, Nat.reduceLeDiff, Nat.reduceEqDiff, Nat.reduceBEq, Nat.reduceBNe]
  refine callH_ 10000 [0] (w_bld_check  hv1) (by first | rfl | simp only [go_sem]) (by first | rfl | simp only [go_sem]) (by first | rfl | simp only [go_sem]) ?_
  refine appE_s (AV.int .u8) (some none) ⟨5, 1, false, 1⟩ (fun _ => rfl) (by decide) rfl rfl h fun v4 _ (b2 : appc ⟨5, 1, false, 1⟩ (.sl (some (some 5)) (List.map (AV.int .u8) v1.buf)) (.sl (some none) [.int .u8 c])) (e3 : appv (.sl (some (some 5)) (List.map (AV.int .u8) v1.buf)) (.sl (some none) [.int .u8 c]) = .sl (some (some 5)) (List.map (AV.int .u8) v4)) h => ?_
  simp only [go_sem, Nat.reduceAdd, Nat.reduceLT, Nat.reduceLeDiff, Nat.reduceEqDiff, Nat.reduceBEq, Nat.reduceBNe, b2, e3]
  refine retH_s (fun x => encE 47 x.1) (fun x => [some [.bld 0 80, .sl (some (some 5)) (List.map (AV.int .u8) x.2.buf)]]) h ?_ ?_
  · first | rfl | simp only [go_sem, resAV, resAll, resOne]
  · first | rfl | simp only [go_sem, resAV, resAll, resOne]
theorem w_lex_quoted {s : Str}   {r : (Str × Int × Bool)} (h : lex_quoted s = some r) : ACall Tryd.prog 36 [.str s] [] (.tup [.str r.1, .int .i64 r.2.1, .bool r.2.2]) [] := by
  refine acallX 10000 hf36 ok36 (by first | rfl | simp only [go_sem]) meek_tup ?_
  dsimp only [Tryd.f36, nums, Option.getD, List.append]
  unfold lex_quoted at h
  simp only [go_sem, Nat.reduceAdd, Nat.reduceLT, Nat.reduceLeDiff, Nat.reduceEqDiff, Nat.reduceBEq, Nat.reduceBNe]
  refine letK_s h fun K2 hK2 h => ?_
  refine blkJ 39 10000 (fun w => ∀ (v60 : (List Int)), K2 v60 = some r → w [] [some [.bld 0 80, .sl (some (some 5)) (List.map (AV.int .u8) v60)]]) (fun v60 h => runX 10000 ?_) (fun JK2 => ?_)
  · subst hK2
    dsimp only at h
    simp only [go_sem, Nat.reduceAdd, Nat.reduceLT, Nat.reduceLeDiff, Nat.reduceEqDiff, Nat.reduceBEq, Nat.reduceBNe]
    refine ret_s (fun x => .tup [.str x.1, .int .i64 x.2.1, .bool x.2.2]) h ?_
    first | rfl | simp only [go_sem, resAV, resAll, resOne]
  · clear hK2
    simp only [go_sem, Nat.reduceAdd, Nat.reduceLT, Nat.reduceLeDiff, Nat.reduceEqDiff, Nat.reduceBEq, Nat.reduceBNe]
    refine lpJ 39 fuel (fun q1 w => ∀ (v31 : Int) (v32 : (List Int)), lex_quoted_l1 s K2 q1 v31 v32 = some r → w [(0, .str s), (5, .ptr 0 0), (6, .int .i64 v31)] [some [.bld 0 80, .sl (some (some 5)) (List.map (AV.int .u8) v32)]]) (fun w _ _ h => nomatch h) (fun q1 ih1 v31 v32 h => ?_) (fun L1 => ?_)
    · unfold lex_quoted_l1 at h
      refine runL 10000 ?_
      simp only [go_sem, Nat.reduceAdd, Nat.reduceLT, Nat.reduceLeDiff, Nat.reduceEqDiff, Nat.reduceBEq, Nat.reduceBNe]
      refine cnd_s 10000 h (fun hb h => ?_) (fun hb h => ?_)
      · skip
        simp only [go_sem, Nat.reduceAdd, Nat.reduceLT, Nat.reduceLeDiff, Nat.reduceEqDiff, Nat.reduceBEq, Nat.reduceBNe]
        refine letK_s h fun K34 hK34 h => ?_
        refine blkJ 39 10000 (fun w => ∀ (v56 : Int) (v57 : (List Int)), K34 v56 v57 = some r → w [(0, .str s), (5, .ptr 0 0), (6, .int .i64 v56)] [some [.bld 0 80, .sl (some (some 5)) (List.map (AV.int .u8) v57)]]) (fun v56 v57 h => runX 10000 ?_) (fun JK34 => ?_)
        · subst hK34
          dsimp only at h
          refine add_s h fun v59 _ e58 h => ?_
          simp only [go_sem, Nat.reduceAdd, Nat.reduceLT, Nat.reduceLeDiff, Nat.reduceEqDiff, Nat.reduceBEq, Nat.reduceBNe, e58]
          exact lp_back (ih1 v59 v57 h) ⟨rfl, rfl, rfl, trivial⟩
        · clear hK34
          refine sIdx_s .i64 h fun v37 _ b35 e36 h => ?_
          simp only [go_sem, Nat.reduceAdd, Nat.reduceLT, Nat.reduceLeDiff, Nat.reduceEqDiff, Nat.reduceBEq, Nat.reduceBNe, b35, e36]
          refine cnd_s 10000 h (fun hb h => ?_) (fun hb h => ?_)
          · skip
            refine bsome h fun v40 hv40 h => ?_
            simp only [go_sem, Nat.reduceAdd, Nat.reduceLT, Nat.reduceLeDiff, Nat.reduceEqDiff, Nat.reduceBEq, Nat.reduceBNe, b35, e36]
            refine callH_ 10000 [0] (w_strings_Builder_WriteByte  hv40) (by first | rfl | simp only [go_sem]) (by first | rfl | simp only [go_sem]) (by first | rfl | simp only [go_sem]) ?_
            simp only [go_sem, Nat.reduceAdd, Nat.reduceLT, Nat.reduceLeDiff, Nat.reduceEqDiff, Nat.reduceBEq, Nat.reduceBNe]
            exact atJ (wkn (JK34 v31 v40.2.buf h) ⟨rfl, rfl, rfl, trivial⟩)
          · skip
            simp only [go_sem, Nat.reduceAdd, Nat.reduceLT, Nat.reduceLeDiff, Nat.reduceEqDiff, Nat.reduceBEq, Nat.reduceBNe]
            refine bsome h fun y41 hy41 h => ?_
            refine rgJ 39 10000 (fun w => w [(0, .str s), (5, .ptr 0 0), (6, .int .i64 v31), (32, .bool y41)] [some [.bld 0 80, .sl (some (some 5)) (List.map (AV.int .u8) v32)]]) (runX 10000 ?_) (fun Jy41 => ?_)
            · clear hy41
              simp only [go_sem, Nat.reduceAdd, Nat.reduceLT, Nat.reduceLeDiff, Nat.reduceEqDiff, Nat.reduceBEq, Nat.reduceBNe]
              refine cnd_s 10000 h (fun hb h => ?_) (fun hb h => ?_)
              · skip
                refine bsome h fun v50 hv50 h => ?_
                simp only [go_sem, Nat.reduceAdd, Nat.reduceLT, Nat.reduceLeDiff, Nat.reduceEqDiff, Nat.reduceBEq, Nat.reduceBNe]
                refine callH_ 10000 [0] (w_bld_String  hv50) (by first | rfl | simp only [go_sem]) (by first | rfl | simp only [go_sem]) (by first | rfl | simp only [go_sem]) ?_
                refine add_s h fun v52 _ e51 h => ?_
                simp only [go_sem, Nat.reduceAdd, Nat.reduceLT, Nat.reduceLeDiff, Nat.reduceEqDiff, Nat.reduceBEq, Nat.reduceBNe, e51]
                refine ret_s (fun x => .tup [.str x.1, .int .i64 x.2.1, .bool x.2.2]) h ?_
                first | rfl | simp only [go_sem, resAV, resAll, resOne]
              · skip
                refine bsome h fun v53 hv53 h => ?_
                simp only [go_sem, Nat.reduceAdd, Nat.reduceLT, Nat.reduceLeDiff, Nat.reduceEqDiff, Nat.reduceBEq, Nat.reduceBNe]
                refine callH_ 10000 [0] (w_strings_Builder_WriteByte  hv53) (by first | rfl | simp only [go_sem]) (by first | rfl | simp only [go_sem]) (by first | rfl | simp only [go_sem]) ?_
                refine add_s h fun v55 _ e54 h => ?_
                simp only [go_sem, Nat.reduceAdd, Nat.reduceLT, Nat.reduceLeDiff, Nat.reduceEqDiff, Nat.reduceBEq, Nat.reduceBNe, e54]
                exact atJ (wkn (JK34 v55 v53.2.buf h) ⟨rfl, rfl, rfl, trivial⟩)
            · clear h
              have h := hy41
              refine add_s h fun v44 _ e43 h => ?_
              simp only [go_sem, Nat.reduceAdd, Nat.reduceLT, Nat.reduceLeDiff, Nat.reduceEqDiff, Nat.reduceBEq, Nat.reduceBNe, e43]
              refine grd_ (fun hb45 => ?_) (fun hb45 => ?_)
              · skip
                have h := ite_f hb45 h
                refine sIdx_s .i64 h fun v49 _ b47 e48 h => ?_
                simp only [go_sem, Nat.reduceAdd, Nat.reduceLT, Nat.reduceLeDiff, Nat.reduceEqDiff, Nat.reduceBEq, Nat.reduceBNe, e43, b47, e48]
                obtain rfl := Option.some.inj h
                exact atJ (wkn (Jy41) ⟨rfl, rfl, rfl, rfl, trivial⟩)
              · skip
                have h := ite_t hb45 h
                simp only [go_sem, Nat.reduceAdd, Nat.reduceLT, Nat.reduceLeDiff, Nat.reduceEqDiff, Nat.reduceBEq, Nat.reduceBNe]
                obtain rfl := Option.some.inj h
                exact atJ (wkn (Jy41) ⟨rfl, rfl, rfl, rfl, trivial⟩)
      · skip
        simp only [go_sem, Nat.reduceAdd, Nat.reduceLT, Nat.reduceLeDiff, Nat.reduceEqDiff, Nat.reduceBEq, Nat.reduceBNe]
        exact atJ (wkn (JK2 v32 h) trivial)
    · exact lp_back (L1 0 [] h) ⟨rfl, rfl, rfl, trivial⟩
theorem w_lex_one {s : Str}   {r : (lex_Word × Int)} (h : lex_one s = some r) : ACall Tryd.prog 18 [.str s] [] (.tup [enc_lex_Word r.1, .int .i64 r.2]) [] := by
  refine acallX 10000 hf18 ok18 (by first | rfl | simp only [go_sem]) meek_tup ?_
  dsimp only [Tryd.f18, nums, Option.getD, List.append]
  unfold lex_one at h
  refine sIdx_s .i64 h fun v3 _ b1 e2 h => ?_
  simp only [go_sem, Nat.reduceAdd, Nat.reduceLT, Nat.reduceLeDiff, Nat.reduceEqDiff, Nat.reduceBEq, Nat.reduceBNe, b1, e2]
  refine blk_ 10000 ?_
  refine bsome h fun v4 hv4 h => ?_
  simp only [go_sem, Nat.reduceAdd, Nat.reduceLT, Nat.reduceLeDiff, Nat.reduceEqDiff, Nat.reduceBEq, Nat.reduceBNe]
  refine callX_ 10000 (w_lex_letter  hv4) (by first | rfl | simp only [go_sem]) ?_
  simp only [go_sem, Nat.reduceAdd, Nat.reduceLT, Nat.reduceLeDiff, Nat.reduceEqDiff, Nat.reduceBEq, Nat.reduceBNe]
  refine cnd_s 10000 h (fun hb h => ?_) (fun hb h => ?_)
  · skip
    refine bsome h fun v5 hv5 h => ?_
    simp only [go_sem, Nat.reduceAdd, Nat.reduceLT, Nat.reduceLeDiff, Nat.reduceEqDiff, Nat.reduceBEq, Nat.reduceBNe]
    refine callX_ 10000 (w_lex_letters  hv5) (by first | rfl | simp only [go_sem]) ?_
    simp only [go_sem, Nat.reduceAdd, Nat.reduceLT, Nat.reduceLeDiff, Nat.reduceEqDiff, Nat.reduceBEq, Nat.reduceBNe]
    refine ret_s (fun x => .tup [enc_lex_Word x.1, .int .i64 x.2]) h ?_
    first | rfl | simp only [go_sem, resAV, resAll, resOne]
  · skip
    refine bsome h fun v6 hv6 h => ?_
    simp only [go_sem, Nat.reduceAdd, Nat.reduceLT, Nat.reduceLeDiff, Nat.reduceEqDiff, Nat.reduceBEq, Nat.reduceBNe]
    refine callX_ 10000 (w_lex_digit  hv6) (by first | rfl | simp only [go_sem]) ?_
    simp only [go_sem, Nat.reduceAdd, Nat.reduceLT, Nat.reduceLeDiff, Nat.reduceEqDiff, Nat.reduceBEq, Nat.reduceBNe]
    refine cnd_s 10000 h (fun hb h => ?_) (fun hb h => ?_)
    · skip
      refine bsome h fun v7 hv7 h => ?_
      simp only [go_sem, Nat.reduceAdd, Nat.reduceLT, Nat.reduceLeDiff, Nat.reduceEqDiff, Nat.reduceBEq, Nat.reduceBNe]
      refine callX_ 10000 (w_lex_many 34 (fun _ _ h => w_lex_digit h) hv7) (by first | rfl | simp only [go_sem]) ?_
      refine subS_s none (some (.int .i64 v7)) rfl rfl h fun v10 _ b8 e9 h => ?_
      simp only [go_sem, Nat.reduceAdd, Nat.reduceLT, Nat.reduceLeDiff, Nat.reduceEqDiff, Nat.reduceBEq, Nat.reduceBNe, b8, e9]
      refine ret_s (fun x => .tup [enc_lex_Word x.1, .int .i64 x.2]) h ?_
      first | rfl | simp only [go_sem, resAV, resAll, resOne]
    · skip
      refine bsome h fun v11 hv11 h => ?_
      simp only [go_sem, Nat.reduceAdd, Nat.reduceLT, Nat.reduceLeDiff, Nat.reduceEqDiff, Nat.reduceBEq, Nat.reduceBNe]
      refine callX_ 10000 (w_lex_bin  hv11) (by first | rfl | simp only [go_sem]) ?_
      simp only [go_sem, Nat.reduceAdd, Nat.reduceLT, Nat.reduceLeDiff, Nat.reduceEqDiff, Nat.reduceBEq, Nat.reduceBNe]
      refine cnd_s 10000 h (fun hb h => ?_) (fun hb h => ?_)
      · skip
        refine bsome h fun v12 hv12 h => ?_
        simp only [go_sem, Nat.reduceAdd, Nat.reduceLT, Nat.reduceLeDiff, Nat.reduceEqDiff, Nat.reduceBEq, Nat.reduceBNe]
        refine callX_ 10000 (w_lex_many 25 (fun _ _ h => w_lex_bin h) hv12) (by first | rfl | simp only [go_sem]) ?_
        refine subS_s none (some (.int .i64 (min (2 : Int) v12))) rfl rfl h fun v15 _ b13 e14 h => ?_
        simp only [go_sem, Nat.reduceAdd, Nat.reduceLT, Nat.reduceLeDiff, Nat.reduceEqDiff, Nat.reduceBEq, Nat.reduceBNe, (mnv_e .i64 2 v12), b13, e14]
        refine ret_s (fun x => .tup [enc_lex_Word x.1, .int .i64 x.2]) h ?_
        first | rfl | simp only [go_sem, resAV, resAll, resOne]
      · skip
        simp only [go_sem, Nat.reduceAdd, Nat.reduceLT, Nat.reduceLeDiff, Nat.reduceEqDiff, Nat.reduceBEq, Nat.reduceBNe]
        refine cnd_s 10000 h (fun hb h => ?_) (fun hb h => ?_)
        · skip
          refine bsome h fun v16 hv16 h => ?_
          simp only [go_sem, Nat.reduceAdd, Nat.reduceLT, Nat.reduceLeDiff, Nat.reduceEqDiff, Nat.reduceBEq, Nat.reduceBNe]
          refine callX_ 10000 (w_lex_colon  hv16) (by first | rfl | simp only [go_sem]) ?_
          simp only [go_sem, Nat.reduceAdd, Nat.reduceLT, Nat.reduceLeDiff, Nat.reduceEqDiff, Nat.reduceBEq, Nat.reduceBNe]
          refine ret_s (fun x => .tup [enc_lex_Word x.1, .int .i64 x.2]) h ?_
          first | rfl | simp only [go_sem, resAV, resAll, resOne]
        · skip
          simp only [go_sem, Nat.reduceAdd, Nat.reduceLT, Nat.reduceLeDiff, Nat.reduceEqDiff, Nat.reduceBEq, Nat.reduceBNe]
          refine cnd_s 10000 h (fun hb h => ?_) (fun hb h => ?_)
          · skip
            refine subS_s (some (.int .i64 1)) none rfl rfl h fun v19 _ b17 e18 h => ?_
            refine bsome h fun v20 hv20 h => ?_
            simp only [go_sem, Nat.reduceAdd, Nat.reduceLT, Nat.reduceLeDiff, Nat.reduceEqDiff, Nat.reduceBEq, Nat.reduceBNe, b17, e18]
            refine callX_ 10000 (w_lex_quoted  hv20) (by first | rfl | simp only [go_sem]) ?_
            simp only [go_sem, Nat.reduceAdd, Nat.reduceLT, Nat.reduceLeDiff, Nat.reduceEqDiff, Nat.reduceBEq, Nat.reduceBNe]
            refine cnd_s 10000 h (fun hb h => ?_) (fun hb h => ?_)
            · skip
              refine add_s h fun v22 _ e21 h => ?_
              simp only [go_sem, Nat.reduceAdd, Nat.reduceLT, Nat.reduceLeDiff, Nat.reduceEqDiff, Nat.reduceBEq, Nat.reduceBNe, e21]
              refine ret_s (fun x => .tup [enc_lex_Word x.1, .int .i64 x.2]) h ?_
              first | rfl | simp only [go_sem, resAV, resAll, resOne]
            · skip
              simp only [go_sem, Nat.reduceAdd, Nat.reduceLT, Nat.reduceLeDiff, Nat.reduceEqDiff, Nat.reduceBEq, Nat.reduceBNe]
              refine ret_s (fun x => .tup [enc_lex_Word x.1, .int .i64 x.2]) h ?_
              first | rfl | simp only [go_sem, resAV, resAll, resOne]
          · skip
            refine bsome h fun v23 hv23 h => ?_
            simp only [go_sem, Nat.reduceAdd, Nat.reduceLT, Nat.reduceLeDiff, Nat.reduceEqDiff, Nat.reduceBEq, Nat.reduceBNe]
            refine callX_ 10000 (w_strings_IndexByte  hv23) (by first | rfl | simp only [go_sem]) ?_
            simp only [go_sem, Nat.reduceAdd, Nat.reduceLT, Nat.reduceLeDiff, Nat.reduceEqDiff, Nat.reduceBEq, Nat.reduceBNe]
            refine cnd_s 10000 h (fun hb h => ?_) (fun hb h => ?_)
            · skip
              refine add_s h fun v25 _ e24 h => ?_
              simp only [go_sem, Nat.reduceAdd, Nat.reduceLT, Nat.reduceLeDiff, Nat.reduceEqDiff, Nat.reduceBEq, Nat.reduceBNe, e24, (cvw_e (s := 3) (k := .i64) io5 v25)]
              refine ret_s (fun x => .tup [enc_lex_Word x.1, .int .i64 x.2]) h ?_
              first | rfl | simp only [go_sem, resAV, resAll, resOne]
            · skip
              simp only [go_sem, Nat.reduceAdd, Nat.reduceLT, Nat.reduceLeDiff, Nat.reduceEqDiff, Nat.reduceBEq, Nat.reduceBNe]
              refine ret_s (fun x => .tup [enc_lex_Word x.1, .int .i64 x.2]) h ?_
              first | rfl | simp only [go_sem, resAV, resAll, resOne]
theorem w_lex_Words {s : Str}   {r : ((List lex_Word) × Int × (Option Int))} (h : lex_Words s = some r) : ACall Tryd.prog 8 [.str s] [] (.tup [.sl none (List.map enc_lex_Word r.1), .int .i64 r.2.1, encE 47 r.2.2]) [] := by
  refine acallX 10000 hf8 ok8 (by first | rfl | simp only [go_sem]) meek_tup ?_
  dsimp only [Tryd.f8, nums, Option.getD, List.append]
  unfold lex_Words at h
  simp only [go_sem, Nat.reduceAdd, Nat.reduceLT, Nat.reduceLeDiff, Nat.reduceEqDiff, Nat.reduceBEq, Nat.reduceBNe]
  refine cnd_s 10000 h (fun hb h => ?_) (fun hb h => ?_)
  · skip
    simp only [go_sem, Nat.reduceAdd, Nat.reduceLT, Nat.reduceLeDiff, Nat.reduceEqDiff, Nat.reduceBEq, Nat.reduceBNe]
    refine ret_s (fun x => .tup [.sl none (List.map enc_lex_Word x.1), .int .i64 x.2.1, encE 47 x.2.2]) h ?_
    first | rfl | simp only [go_sem, resAV, resAll, resOne]
  · skip
    simp only [go_sem, Nat.reduceAdd, Nat.reduceLT, Nat.reduceLeDiff, Nat.reduceEqDiff, Nat.reduceBEq, Nat.reduceBNe]
    refine letK_s h fun K2 hK2 h => ?_
    refine blkJ 68 10000 (fun w => ∀ (v40 : (List lex_Word)), K2 v40 = some r → w [(5, .sl (some none) (List.map enc_lex_Word v40))] []) (fun v40 h => runX 10000 ?_) (fun JK2 => ?_)
    · subst hK2
      dsimp only at h
      simp only [go_sem, Nat.reduceAdd, Nat.reduceLT, Nat.reduceLeDiff, Nat.reduceEqDiff, Nat.reduceBEq, Nat.reduceBNe]
      refine ret_s (fun x => .tup [.sl none (List.map enc_lex_Word x.1), .int .i64 x.2.1, encE 47 x.2.2]) h ?_
      first | rfl | simp only [go_sem, resAV, resAll, resOne]
    · clear hK2
      simp only [go_sem, Nat.reduceAdd, Nat.reduceLT, Nat.reduceLeDiff, Nat.reduceEqDiff, Nat.reduceBEq, Nat.reduceBNe]
      refine lpJ 68 fuel (fun q1 w => ∀ (v3 : (List lex_Word)) (v4 : Int), lex_Words_l1 s K2 q1 v3 v4 = some r → w [(0, .str s), (5, .sl (some none) (List.map enc_lex_Word v3)), (6, .int .i64 v4)] []) (fun w _ _ h => nomatch h) (fun q1 ih1 v3 v4 h => ?_) (fun L1 => ?_)
      · unfold lex_Words_l1 at h
        refine runL 10000 ?_
        simp only [go_sem, Nat.reduceAdd, Nat.reduceLT, Nat.reduceLeDiff, Nat.reduceEqDiff, Nat.reduceBEq, Nat.reduceBNe]
        refine cnd_s 10000 h (fun hb h => ?_) (fun hb h => ?_)
        · skip
          simp only [go_sem, Nat.reduceAdd, Nat.reduceLT, Nat.reduceLeDiff, Nat.reduceEqDiff, Nat.reduceBEq, Nat.reduceBNe]
          refine letK_s h fun K6 hK6 h => ?_
          refine blkJ 68 10000 (fun w => ∀ (v38 : (List lex_Word)) (v39 : Int), K6 v38 v39 = some r → w [(0, .str s), (5, .sl (some none) (List.map enc_lex_Word v38)), (6, .int .i64 v39)] []) (fun v38 v39 h => runX 10000 ?_) (fun JK6 => ?_)
          · subst hK6
            dsimp only at h
            simp only [go_sem, Nat.reduceAdd, Nat.reduceLT, Nat.reduceLeDiff, Nat.reduceEqDiff, Nat.reduceBEq, Nat.reduceBNe]
            exact lp_back (ih1 v38 v39 h) ⟨rfl, rfl, rfl, trivial⟩
          · clear hK6
            refine sIdx_s .i64 h fun v9 _ b7 e8 h => ?_
            refine bsome h fun v10 hv10 h => ?_
            simp only [go_sem, Nat.reduceAdd, Nat.reduceLT, Nat.reduceLeDiff, Nat.reduceEqDiff, Nat.reduceBEq, Nat.reduceBNe, b7, e8]
            refine callX_ 10000 (w_strings_IndexByte  hv10) (by first | rfl | simp only [go_sem]) ?_
            simp only [go_sem, Nat.reduceAdd, Nat.reduceLT, Nat.reduceLeDiff, Nat.reduceEqDiff, Nat.reduceBEq, Nat.reduceBNe]
            refine cnd_s 10000 h (fun hb h => ?_) (fun hb h => ?_)
            · skip
              refine add_s h fun v12 _ e11 h => ?_
              simp only [go_sem, Nat.reduceAdd, Nat.reduceLT, Nat.reduceLeDiff, Nat.reduceEqDiff, Nat.reduceBEq, Nat.reduceBNe, e11]
              exact atJ (wkn (JK6 v3 v12 h) ⟨rfl, rfl, rfl, trivial⟩)
            · skip
              simp only [go_sem, Nat.reduceAdd, Nat.reduceLT, Nat.reduceLeDiff, Nat.reduceEqDiff, Nat.reduceBEq, Nat.reduceBNe, b7, e8]
              refine cnd_s 10000 h (fun hb h => ?_) (fun hb h => ?_)
              · skip
                refine add_s h fun v16 _ e15 h => ?_
                refine subS_s (some (.int .i64 v16)) none rfl rfl h fun v19 _ b17 e18 h => ?_
                refine bsome h fun v20 hv20 h => ?_
                simp only [go_sem, Nat.reduceAdd, Nat.reduceLT, Nat.reduceLeDiff, Nat.reduceEqDiff, Nat.reduceBEq, Nat.reduceBNe, e15, b17, e18]
                refine callX_ 10000 (w_strings_IndexByte  hv20) (by first | rfl | simp only [go_sem]) ?_
                simp only [go_sem, Nat.reduceAdd, Nat.reduceLT, Nat.reduceLeDiff, Nat.reduceEqDiff, Nat.reduceBEq, Nat.reduceBNe]
                refine cnd_s 10000 h (fun hb h => ?_) (fun hb h => ?_)
                · skip
                  simp only [go_sem, Nat.reduceAdd, Nat.reduceLT, Nat.reduceLeDiff, Nat.reduceEqDiff, Nat.reduceBEq, Nat.reduceBNe]
                  refine ret_s (fun x => .tup [.sl none (List.map enc_lex_Word x.1), .int .i64 x.2.1, encE 47 x.2.2]) h ?_
                  first | rfl | simp only [go_sem, resAV, resAll, resOne]
                · skip
                  refine add_s h fun v22 _ e21 h => ?_
                  refine add_s h fun v24 _ e23 h => ?_
                  simp only [go_sem, Nat.reduceAdd, Nat.reduceLT, Nat.reduceLeDiff, Nat.reduceEqDiff, Nat.reduceBEq, Nat.reduceBNe, e21, e23]
                  exact atJ (wkn (JK6 v3 v24 h) ⟨rfl, rfl, rfl, trivial⟩)
              · skip
                refine subS_s (some (.int .i64 v4)) none rfl rfl h fun v27 _ b25 e26 h => ?_
                refine bsome h fun v28 hv28 h => ?_
                simp only [go_sem, Nat.reduceAdd, Nat.reduceLT, Nat.reduceLeDiff, Nat.reduceEqDiff, Nat.reduceBEq, Nat.reduceBNe, b25, e26]
                refine callX_ 10000 (w_lex_one  hv28) (by first | rfl | simp only [go_sem]) ?_
                simp only [go_sem, Nat.reduceAdd, Nat.reduceLT, Nat.reduceLeDiff, Nat.reduceEqDiff, Nat.reduceBEq, Nat.reduceBNe]
                refine bsome h fun y29 hy29 h => ?_
                refine rgJ 68 10000 (fun w => w [(0, .str s), (5, .sl (some none) (List.map enc_lex_Word v3)), (6, .int .i64 v4), (8, .ptr 0 0), (9, .int .i64 v28.2), (57, .bool y29)] [some [.int .u8 v28.1.K, .str v28.1.S, .int .i64 v4]]) (runX 10000 ?_) (fun Jy29 => ?_)
                · clear hy29
                  simp only [go_sem, Nat.reduceAdd, Nat.reduceLT, Nat.reduceLeDiff, Nat.reduceEqDiff, Nat.reduceBEq, Nat.reduceBNe]
                  refine cnd_s 10000 h (fun hb h => ?_) (fun hb h => ?_)
                  · skip
                    simp only [go_sem, Nat.reduceAdd, Nat.reduceLT, Nat.reduceLeDiff, Nat.reduceEqDiff, Nat.reduceBEq, Nat.reduceBNe]
                    refine ret_s (fun x => .tup [.sl none (List.map enc_lex_Word x.1), .int .i64 x.2.1, encE 47 x.2.2]) h ?_
                    first | rfl | simp only [go_sem, resAV, resAll, resOne]
                  · skip
                    refine app_s enc_lex_Word (some none) ⟨37, 3, true, 32⟩ (fun _ => rfl) (by decide) rfl h fun v35 _ (b33 : appc ⟨37, 3, true, 32⟩ (.sl (some none) (List.map enc_lex_Word v3)) (.sl (some none) [.agg [.int .u8 v28.1.K, .str v28.1.S, .int .i64 v4]])) (e34 : appv (.sl (some none) (List.map enc_lex_Word v3)) (.sl (some none) [.agg [.int .u8 v28.1.K, .str v28.1.S, .int .i64 v4]]) = .sl (some none) (List.map enc_lex_Word v35)) h => ?_
                    refine add_s h fun v37 _ e36 h => ?_
                    simp only [go_sem, Nat.reduceAdd, Nat.reduceLT, Nat.reduceLeDiff, Nat.reduceEqDiff, Nat.reduceBEq, Nat.reduceBNe, b33, e34, e36]
                    exact atJ (wknH 0 (JK6 v35 v37 h) ⟨rfl, rfl, rfl, trivial⟩ rfl rfl rfl (by first | rfl | simp only [go_sem, ltF]) (by first | rfl | simp only [go_sem, allLt]))
                · clear h
                  have h := hy29
                  simp only [go_sem, Nat.reduceAdd, Nat.reduceLT, Nat.reduceLeDiff, Nat.reduceEqDiff, Nat.reduceBEq, Nat.reduceBNe]
                  refine grd_ (fun hb31 => ?_) (fun hb31 => ?_)
                  · skip
                    have h := ite_f hb31 h
                    refine bsome h fun v32 hv32 h => ?_
                    simp only [go_sem, Nat.reduceAdd, Nat.reduceLT, Nat.reduceLeDiff, Nat.reduceEqDiff, Nat.reduceBEq, Nat.reduceBNe]
                    refine callX_ 10000 (w_lex_May  hv32) (by first | rfl | simp only [go_sem]) ?_
                    simp only [go_sem, Nat.reduceAdd, Nat.reduceLT, Nat.reduceLeDiff, Nat.reduceEqDiff, Nat.reduceBEq, Nat.reduceBNe]
                    obtain rfl := Option.some.inj h
                    exact atJ (wkn (Jy29) ⟨rfl, rfl, rfl, rfl, rfl, rfl, trivial⟩)
                  · skip
                    have h := ite_t hb31 h
                    simp only [go_sem, Nat.reduceAdd, Nat.reduceLT, Nat.reduceLeDiff, Nat.reduceEqDiff, Nat.reduceBEq, Nat.reduceBNe]
                    obtain rfl := Option.some.inj h
                    exact atJ (wkn (Jy29) ⟨rfl, rfl, rfl, rfl, rfl, rfl, trivial⟩)
        · skip
          simp only [go_sem, Nat.reduceAdd, Nat.reduceLT, Nat.reduceLeDiff, Nat.reduceEqDiff, Nat.reduceBEq, Nat.reduceBNe]
          exact atJ (wkn (JK2 v3 h) ⟨rfl, trivial⟩)
      · exact lp_back (L1 [] 0 h) ⟨rfl, rfl, rfl, trivial⟩
theorem w_lex_write {p0_w : lex_Word}   {r : Str} (h : lex_write p0_w = some r) : ACall Tryd.prog 28 [enc_lex_Word p0_w] [] (.str r) [] := by
  refine acallX 10000 hf28 ok28 (by first | rfl | simp only [go_sem]) meek_str ?_
  dsimp only [Tryd.f28, nums, Option.getD, List.append]
  unfold lex_write at h
  simp only [go_sem, Nat.reduceAdd, Nat.reduceLT, Nat.reduceLeDiff, Nat.reduceEqDiff, Nat.reduceBEq, Nat.reduceBNe]
  refine blk_ 10000 ?_
  simp only [go_sem, Nat.reduceAdd, Nat.reduceLT, Nat.reduceLeDiff, Nat.reduceEqDiff, Nat.reduceBEq, Nat.reduceBNe]
  refine cnd_s 10000 h (fun hb h => ?_) (fun hb h => ?_)
  · skip
    refine cat_s h fun v3 _ (b1 : p0_w.S.length + 1 ≤ maxB) e2 h => ?_
    simp only [go_sem, Nat.reduceAdd, Nat.reduceLT, Nat.reduceLeDiff, Nat.reduceEqDiff, Nat.reduceBEq, Nat.reduceBNe, b1, e2]
    refine ret_s (fun x => .str x) h ?_
    first | rfl | simp only [go_sem, resAV, resAll, resOne]
  · skip
    simp only [go_sem, Nat.reduceAdd, Nat.reduceLT, Nat.reduceLeDiff, Nat.reduceEqDiff, Nat.reduceBEq, Nat.reduceBNe]
    refine cnd_s 10000 h (fun hb h => ?_) (fun hb h => ?_)
    · skip
      refine cat_s h fun v6 _ (b4 : 1 + p0_w.S.length ≤ maxB) e5 h => ?_
      simp only [go_sem, Nat.reduceAdd, Nat.reduceLT, Nat.reduceLeDiff, Nat.reduceEqDiff, Nat.reduceBEq, Nat.reduceBNe, b4, e5]
      refine ret_s (fun x => .str x) h ?_
      first | rfl | simp only [go_sem, resAV, resAll, resOne]
    · skip
      simp only [go_sem, Nat.reduceAdd, Nat.reduceLT, Nat.reduceLeDiff, Nat.reduceEqDiff, Nat.reduceBEq, Nat.reduceBNe]
      refine cnd_s 10000 h (fun hb h => ?_) (fun hb h => ?_)
      · skip
        refine bsome h fun v7 hv7 h => ?_
        simp only [go_sem, Nat.reduceAdd, Nat.reduceLT, Nat.reduceLeDiff, Nat.reduceEqDiff, Nat.reduceBEq, Nat.reduceBNe]
        refine callX_ 10000 (w_strings_ReplaceAll  hv7) (by first | rfl | simp only [go_sem]) ?_
        refine cat_s h fun v10 _ (b8 : 1 + v7.length ≤ maxB) e9 h => ?_
        refine cat_s h fun v13 _ (b11 : v10.length + 1 ≤ maxB) e12 h => ?_
        simp only [go_sem, Nat.reduceAdd, Nat.reduceLT, Nat.reduceLeDiff, Nat.reduceEqDiff, Nat.reduceBEq, Nat.reduceBNe, b8, e9, b11, e12]
        refine ret_s (fun x => .str x) h ?_
        first | rfl | simp only [go_sem, resAV, resAll, resOne]
      · skip
        simp only [go_sem, Nat.reduceAdd, Nat.reduceLT, Nat.reduceLeDiff, Nat.reduceEqDiff, Nat.reduceBEq, Nat.reduceBNe]
        refine cnd_s 10000 h (fun hb h => ?_) (fun hb h => ?_)
        · skip
          simp only [go_sem, Nat.reduceAdd, Nat.reduceLT, Nat.reduceLeDiff, Nat.reduceEqDiff, Nat.reduceBEq, Nat.reduceBNe]
          refine ret_s (fun x => .str x) h ?_
          first | rfl | simp only [go_sem, resAV, resAll, resOne]
        · skip
          simp only [go_sem, Nat.reduceAdd, Nat.reduceLT, Nat.reduceLeDiff, Nat.reduceEqDiff, Nat.reduceBEq, Nat.reduceBNe]
          refine bsome h fun y14 hy14 h => ?_
          refine cndJ 38 10000 (fun w => w [(1, .ptr 0 0), (24, .bool y14)] [some [.int .u8 p0_w.K, .str p0_w.S, .int .i64 p0_w.At]]) (runX 10000 ?_) (fun Jy14 => ?_)
          · clear hy14
            simp only [go_sem, Nat.reduceAdd, Nat.reduceLT, Nat.reduceLeDiff, Nat.reduceEqDiff, Nat.reduceBEq, Nat.reduceBNe]
            refine cnd_s 10000 h (fun hb h => ?_) (fun hb h => ?_)
            · skip
              simp only [go_sem, Nat.reduceAdd, Nat.reduceLT, Nat.reduceLeDiff, Nat.reduceEqDiff, Nat.reduceBEq, Nat.reduceBNe]
              refine ret_s (fun x => .str x) h ?_
              first | rfl | simp only [go_sem, resAV, resAll, resOne]
            · skip
              refine subS_s (some (.int .u8 (IntKind.wrap .u8 (p0_w.K - 7)))) (some (.int .u8 (IntKind.wrap .u8 ((IntKind.wrap .u8 (p0_w.K - 7)) + 1)))) rfl rfl h fun v20 _ b18 e19 h => ?_
              simp only [go_sem, Nat.reduceAdd, Nat.reduceLT, Nat.reduceLeDiff, Nat.reduceEqDiff, Nat.reduceBEq, Nat.reduceBNe, (show intv .sub .u8 p0_w.K 7 = .int .u8 (IntKind.wrap .u8 (p0_w.K - 7)) from rfl), (show intv .sub .u8 p0_w.K 7 = .int .u8 (IntKind.wrap .u8 (p0_w.K - 7)) from rfl), (show intv .add .u8 (IntKind.wrap .u8 (p0_w.K - 7)) 1 = .int .u8 (IntKind.wrap .u8 ((IntKind.wrap .u8 (p0_w.K - 7)) + 1)) from rfl), b18, e19]
              refine ret_s (fun x => .str x) h ?_
              first | rfl | simp only [go_sem, resAV, resAll, resOne]
          · clear h
            have h := hy14
            refine cnd_s 10000 h (fun hb h => ?_) (fun hb h => ?_)
            · skip
              simp only [go_sem, Nat.reduceAdd, Nat.reduceLT, Nat.reduceLeDiff, Nat.reduceEqDiff, Nat.reduceBEq, Nat.reduceBNe]
              obtain rfl := Option.some.inj h
              exact atJ (wkn (Jy14) ⟨rfl, rfl, trivial⟩)
            · skip
              simp only [go_sem, Nat.reduceAdd, Nat.reduceLT, Nat.reduceLeDiff, Nat.reduceEqDiff, Nat.reduceBEq, Nat.reduceBNe]
              refine bsome h fun y16 hy16 h => ?_
              refine cndJ 38 10000 (fun w => w [(1, .ptr 0 0), (24, .bool y16)] [some [.int .u8 p0_w.K, .str p0_w.S, .int .i64 p0_w.At]]) (runX 10000 ?_) (fun Jy16 => ?_)
              · clear hy16
                simp only [go_sem, Nat.reduceAdd, Nat.reduceLT, Nat.reduceLeDiff, Nat.reduceEqDiff, Nat.reduceBEq, Nat.reduceBNe]
                obtain rfl := Option.some.inj h
                exact atJ (wkn (Jy14) ⟨rfl, rfl, trivial⟩)
              · clear h
                have h := hy16
                refine cnd_s 10000 h (fun hb h => ?_) (fun hb h => ?_)
                · skip
                  simp only [go_sem, Nat.reduceAdd, Nat.reduceLT, Nat.reduceLeDiff, Nat.reduceEqDiff, Nat.reduceBEq, Nat.reduceBNe]
                  obtain rfl := Option.some.inj h
                  exact atJ (wkn (Jy16) ⟨rfl, rfl, trivial⟩)
                · skip
                  simp only [go_sem, Nat.reduceAdd, Nat.reduceLT, Nat.reduceLeDiff, Nat.reduceEqDiff, Nat.reduceBEq, Nat.reduceBNe]
                  obtain rfl := Option.some.inj h
                  exact atJ (wkn (Jy16) ⟨rfl, rfl, trivial⟩)
theorem w_lex_Text {l : (List lex_Word)}   {r : (Str × (Option Int))} (h : lex_Text l = some r) : ACall Tryd.prog 14 [.sl none (List.map enc_lex_Word l)] [] (.tup [.str r.1, encE 47 r.2]) [] := by
  refine acallX 10000 hf14 ok14 (by first | rfl | simp only [go_sem]) meek_tup ?_
  dsimp only [Tryd.f14, nums, Option.getD, List.append]
  unfold lex_Text at h
  simp only [go_sem, Nat.reduceAdd, Nat.reduceLT, Nat.reduceLeDiff, Nat.reduceEqDiff, Nat.reduceBEq, Nat.reduceBNe]
  refine letK_s h fun K2 hK2 h => ?_
  refine blkJ 45 10000 (fun w => K2 () = some r → w [(0, .sl none (List.map enc_lex_Word l))] []) (fun  h => runX 10000 ?_) (fun JK2 => ?_)
  · subst hK2
    dsimp only at h
    simp only [go_sem, Nat.reduceAdd, Nat.reduceLT, Nat.reduceLeDiff, Nat.reduceEqDiff, Nat.reduceBEq, Nat.reduceBNe]
    refine letK_s h fun K11 hK11 h => ?_
    refine blkJ 45 10000 (fun w => ∀ (v28 : (List Str)), K11 v28 = some r → w [(7, .sl (some none) (List.map AV.str v28))] []) (fun v28 h => runX 10000 ?_) (fun JK11 => ?_)
    · subst hK11
      dsimp only at h
      refine bsome h fun v29 hv29 h => ?_
      simp only [go_sem, Nat.reduceAdd, Nat.reduceLT, Nat.reduceLeDiff, Nat.reduceEqDiff, Nat.reduceBEq, Nat.reduceBNe]
      refine callX_ 10000 (w_strings_Join  hv29) (by first | rfl | simp only [go_sem]) ?_
      simp only [go_sem, Nat.reduceAdd, Nat.reduceLT, Nat.reduceLeDiff, Nat.reduceEqDiff, Nat.reduceBEq, Nat.reduceBNe]
      refine ret_s (fun x => .tup [.str x.1, encE 47 x.2]) h ?_
      first | rfl | simp only [go_sem, resAV, resAll, resOne]
    · clear hK11
      simp only [go_sem, Nat.reduceAdd, Nat.reduceLT, Nat.reduceLeDiff, Nat.reduceEqDiff, Nat.reduceBEq, Nat.reduceBNe]
      refine lpJ 45 fuel (fun q2 w => ∀ (v12 : Int) (v13 : (List Str)) (v14 : Int), lex_Text_l2 l K11 q2 v12 v13 v14 = some r → w [(6, .int .i64 v12), (7, .sl (some none) (List.map AV.str v13)), (22, .sl none (List.map enc_lex_Word l)), (23, .int .i64 (l.length : Int)), (24, .int .i64 v14)] []) (fun w _ _ _ h => nomatch h) (fun q2 ih2 v12 v13 v14 h => ?_) (fun L2 => ?_)
      · unfold lex_Text_l2 at h
        refine runL 10000 ?_
        simp only [go_sem, Nat.reduceAdd, Nat.reduceLT, Nat.reduceLeDiff, Nat.reduceEqDiff, Nat.reduceBEq, Nat.reduceBNe]
        refine cnd_s 10000 h (fun hb h => ?_) (fun hb h => ?_)
        · skip
          simp only [go_sem, Nat.reduceAdd, Nat.reduceLT, Nat.reduceLeDiff, Nat.reduceEqDiff, Nat.reduceBEq, Nat.reduceBNe]
          refine blk_ 10000 ?_
          refine lAt_s enc_lex_Word none .i64 ⟨37, 3, true, 32⟩ (fun _ => rfl) h fun v17 _ b15 e16 h => ?_
          refine bsome h fun v18 hv18 h => ?_
          simp only [go_sem, Nat.reduceAdd, Nat.reduceLT, Nat.reduceLeDiff, Nat.reduceEqDiff, Nat.reduceBEq, Nat.reduceBNe, b15, e16]
          refine callX_ 10000 (w_lex_write  hv18) (by first | rfl | simp only [go_sem]) ?_
          refine add_s h fun v20 _ e19 h => ?_
          refine add_s h fun v22 _ e21 h => ?_
          simp only [go_sem, Nat.reduceAdd, Nat.reduceLT, Nat.reduceLeDiff, Nat.reduceEqDiff, Nat.reduceBEq, Nat.reduceBNe, e19, e21]
          refine cnd_s 10000 h (fun hb h => ?_) (fun hb h => ?_)
          · skip
            simp only [go_sem, Nat.reduceAdd, Nat.reduceLT, Nat.reduceLeDiff, Nat.reduceEqDiff, Nat.reduceBEq, Nat.reduceBNe]
            refine ret_s (fun x => .tup [.str x.1, encE 47 x.2]) h ?_
            first | rfl | simp only [go_sem, resAV, resAll, resOne]
          · skip
            refine app_s AV.str (some none) ⟨9, 1, false, 16⟩ (fun _ => rfl) (by decide) rfl h fun v25 _ (b23 : appc ⟨9, 1, false, 16⟩ (.sl (some none) (List.map AV.str v13)) (.sl (some none) [.str v18])) (e24 : appv (.sl (some none) (List.map AV.str v13)) (.sl (some none) [.str v18]) = .sl (some none) (List.map AV.str v25)) h => ?_
            refine add_s h fun v27 _ e26 h => ?_
            simp only [go_sem, Nat.reduceAdd, Nat.reduceLT, Nat.reduceLeDiff, Nat.reduceEqDiff, Nat.reduceBEq, Nat.reduceBNe, b23, e24, e26]
            exact lp_backH 0 (ih2 v22 v25 v27 h) ⟨rfl, rfl, rfl, rfl, rfl, trivial⟩ rfl rfl rfl (by first | rfl | simp only [go_sem, ltF]) (by first | rfl | simp only [go_sem, allLt])
        · skip
          simp only [go_sem, Nat.reduceAdd, Nat.reduceLT, Nat.reduceLeDiff, Nat.reduceEqDiff, Nat.reduceBEq, Nat.reduceBNe]
          exact atJ (wkn (JK11 v13 h) ⟨rfl, trivial⟩)
      · exact lp_back (L2 0 [] 0 h) ⟨rfl, rfl, rfl, rfl, rfl, trivial⟩
  · clear hK2
    simp only [go_sem, Nat.reduceAdd, Nat.reduceLT, Nat.reduceLeDiff, Nat.reduceEqDiff, Nat.reduceBEq, Nat.reduceBNe]
    refine lpJ 45 fuel (fun q1 w => ∀ (v3 : Int), lex_Text_l1 l K2 q1 v3 = some r → w [(0, .sl none (List.map enc_lex_Word l)), (11, .sl none (List.map enc_lex_Word l)), (12, .int .i64 (l.length : Int)), (13, .int .i64 v3)] []) (fun w _ h => nomatch h) (fun q1 ih1 v3 h => ?_) (fun L1 => ?_)
    · unfold lex_Text_l1 at h
      refine runL 10000 ?_
      simp only [go_sem, Nat.reduceAdd, Nat.reduceLT, Nat.reduceLeDiff, Nat.reduceEqDiff, Nat.reduceBEq, Nat.reduceBNe]
      refine cnd_s 10000 h (fun hb h => ?_) (fun hb h => ?_)
      · skip
        simp only [go_sem, Nat.reduceAdd, Nat.reduceLT, Nat.reduceLeDiff, Nat.reduceEqDiff, Nat.reduceBEq, Nat.reduceBNe]
        refine blk_ 10000 ?_
        refine lAt_s enc_lex_Word none .i64 ⟨37, 3, true, 32⟩ (fun _ => rfl) h fun v6 _ b4 e5 h => ?_
        refine bsome h fun v7 hv7 h => ?_
        simp only [go_sem, Nat.reduceAdd, Nat.reduceLT, Nat.reduceLeDiff, Nat.reduceEqDiff, Nat.reduceBEq, Nat.reduceBNe, b4, e5]
        refine callX_ 10000 (w_lex_May  hv7) (by first | rfl | simp only [go_sem]) ?_
        simp only [go_sem, Nat.reduceAdd, Nat.reduceLT, Nat.reduceLeDiff, Nat.reduceEqDiff, Nat.reduceBEq, Nat.reduceBNe]
        refine cnd_s 10000 h (fun hb h => ?_) (fun hb h => ?_)
        · skip
          simp only [go_sem, Nat.reduceAdd, Nat.reduceLT, Nat.reduceLeDiff, Nat.reduceEqDiff, Nat.reduceBEq, Nat.reduceBNe]
          refine ret_s (fun x => .tup [.str x.1, encE 47 x.2]) h ?_
          first | rfl | simp only [go_sem, resAV, resAll, resOne]
        · skip
          refine add_s h fun v9 _ e8 h => ?_
          simp only [go_sem, Nat.reduceAdd, Nat.reduceLT, Nat.reduceLeDiff, Nat.reduceEqDiff, Nat.reduceBEq, Nat.reduceBNe, e8]
          exact lp_backH 0 (ih1 v9 h) ⟨rfl, rfl, rfl, rfl, trivial⟩ rfl rfl rfl (by first | rfl | simp only [go_sem, ltF]) (by first | rfl | simp only [go_sem, allLt])
      · skip
        simp only [go_sem, Nat.reduceAdd, Nat.reduceLT, Nat.reduceLeDiff, Nat.reduceEqDiff, Nat.reduceBEq, Nat.reduceBNe]
        exact atJ (wkn (JK2  h) ⟨rfl, trivial⟩)
    · exact lp_back (L1 0 h) ⟨rfl, rfl, rfl, rfl, trivial⟩
theorem w_ref13_class {c : Int}   {r : Int} (h : ref13_class c = some r) : ACall Tryd.prog 19 [.int .u8 c] [] (.int .u8 r) [] := by
  refine acallX 10000 hf19 ok19 (by first | rfl | simp only [go_sem]) meek_int ?_
  dsimp only [Tryd.f19, nums, Option.getD, List.append]
  unfold ref13_class at h
  simp only [go_sem, Nat.reduceAdd, Nat.reduceLT, Nat.reduceLeDiff, Nat.reduceEqDiff, Nat.reduceBEq, Nat.reduceBNe]
  refine rgJ 62 10000 (fun w => w [(0, .int .u8 c), (16, .bool (((decide ((97 : Int) ≤ c)) && (decide (c ≤ 122))) || ((decide ((65 : Int) ≤ c)) && (decide (c ≤ 90)))))] []) (runX 10000 ?_) (fun Jg1 => ?_)
  · skip
    simp only [go_sem, Nat.reduceAdd, Nat.reduceLT, Nat.reduceLeDiff, Nat.reduceEqDiff, Nat.reduceBEq, Nat.reduceBNe]
    refine cnd_s 10000 h (fun hb h => ?_) (fun hb h => ?_)
    · skip
      simp only [go_sem, Nat.reduceAdd, Nat.reduceLT, Nat.reduceLeDiff, Nat.reduceEqDiff, Nat.reduceBEq, Nat.reduceBNe]
      refine ret_s (fun x => .int .u8 x) h ?_
      first | rfl | simp only [go_sem, resAV, resAll, resOne]
    · skip
      simp only [go_sem, Nat.reduceAdd, Nat.reduceLT, Nat.reduceLeDiff, Nat.reduceEqDiff, Nat.reduceBEq, Nat.reduceBNe]
      refine rgJ 62 10000 (fun w => w [(0, .int .u8 c), (22, .bool ((decide ((48 : Int) ≤ c)) && (decide (c ≤ 57))))] []) (runX 10000 ?_) (fun Jg2 => ?_)
      · skip
        simp only [go_sem, Nat.reduceAdd, Nat.reduceLT, Nat.reduceLeDiff, Nat.reduceEqDiff, Nat.reduceBEq, Nat.reduceBNe]
        refine cnd_s 10000 h (fun hb h => ?_) (fun hb h => ?_)
        · skip
          simp only [go_sem, Nat.reduceAdd, Nat.reduceLT, Nat.reduceLeDiff, Nat.reduceEqDiff, Nat.reduceBEq, Nat.reduceBNe]
          refine ret_s (fun x => .int .u8 x) h ?_
          first | rfl | simp only [go_sem, resAV, resAll, resOne]
        · skip
          simp only [go_sem, Nat.reduceAdd, Nat.reduceLT, Nat.reduceLeDiff, Nat.reduceEqDiff, Nat.reduceBEq, Nat.reduceBNe]
          refine rgJ 62 10000 (fun w => w [(0, .int .u8 c), (60, .bool ((((((((((decide (c = 43)) || (decide (c = 45))) || (decide (c = 42))) || (decide (c = 47))) || (decide (c = 92))) || (decide (c = 60))) || (decide (c = 62))) || (decide (c = 61))) || (decide (c = 126))) || (decide (c = 44))))] []) (runX 10000 ?_) (fun Jg3 => ?_)
          · skip
            simp only [go_sem, Nat.reduceAdd, Nat.reduceLT, Nat.reduceLeDiff, Nat.reduceEqDiff, Nat.reduceBEq, Nat.reduceBNe]
            refine cnd_s 10000 h (fun hb h => ?_) (fun hb h => ?_)
            · skip
              simp only [go_sem, Nat.reduceAdd, Nat.reduceLT, Nat.reduceLeDiff, Nat.reduceEqDiff, Nat.reduceBEq, Nat.reduceBNe]
              refine ret_s (fun x => .int .u8 x) h ?_
              first | rfl | simp only [go_sem, resAV, resAll, resOne]
            · skip
              simp only [go_sem, Nat.reduceAdd, Nat.reduceLT, Nat.reduceLeDiff, Nat.reduceEqDiff, Nat.reduceBEq, Nat.reduceBNe]
              refine ret_s (fun x => .int .u8 x) h ?_
              first | rfl | simp only [go_sem, resAV, resAll, resOne]
          · skip
            simp only [go_sem, Nat.reduceAdd, Nat.reduceLT, Nat.reduceLeDiff, Nat.reduceEqDiff, Nat.reduceBEq, Nat.reduceBNe]
            refine grd_ (fun hb4 => ?_) (fun hb4 => ?_)
            · skip
              simp only [go_sem, Nat.reduceAdd, Nat.reduceLT, Nat.reduceLeDiff, Nat.reduceEqDiff, Nat.reduceBEq, Nat.reduceBNe]
              refine grd_ (fun hb5 => ?_) (fun hb5 => ?_)
              · skip
                simp only [go_sem, Nat.reduceAdd, Nat.reduceLT, Nat.reduceLeDiff, Nat.reduceEqDiff, Nat.reduceBEq, Nat.reduceBNe]
                refine grd_ (fun hb6 => ?_) (fun hb6 => ?_)
                · skip
                  simp only [go_sem, Nat.reduceAdd, Nat.reduceLT, Nat.reduceLeDiff, Nat.reduceEqDiff, Nat.reduceBEq, Nat.reduceBNe]
                  refine grd_ (fun hb7 => ?_) (fun hb7 => ?_)
                  · skip
                    simp only [go_sem, Nat.reduceAdd, Nat.reduceLT, Nat.reduceLeDiff, Nat.reduceEqDiff, Nat.reduceBEq, Nat.reduceBNe]
                    refine grd_ (fun hb8 => ?_) (fun hb8 => ?_)
                    · skip
                      simp only [go_sem, Nat.reduceAdd, Nat.reduceLT, Nat.reduceLeDiff, Nat.reduceEqDiff, Nat.reduceBEq, Nat.reduceBNe]
                      refine grd_ (fun hb9 => ?_) (fun hb9 => ?_)
                      · skip
                        simp only [go_sem, Nat.reduceAdd, Nat.reduceLT, Nat.reduceLeDiff, Nat.reduceEqDiff, Nat.reduceBEq, Nat.reduceBNe]
                        refine grd_ (fun hb10 => ?_) (fun hb10 => ?_)
                        · skip
                          simp only [go_sem, Nat.reduceAdd, Nat.reduceLT, Nat.reduceLeDiff, Nat.reduceEqDiff, Nat.reduceBEq, Nat.reduceBNe]
                          refine grd_ (fun hb11 => ?_) (fun hb11 => ?_)
                          · skip
                            simp only [go_sem, Nat.reduceAdd, Nat.reduceLT, Nat.reduceLeDiff, Nat.reduceEqDiff, Nat.reduceBEq, Nat.reduceBNe]
                            refine grd_ (fun hb12 => ?_) (fun hb12 => ?_)
                            · skip
                              simp only [go_sem, Nat.reduceAdd, Nat.reduceLT, Nat.reduceLeDiff, Nat.reduceEqDiff, Nat.reduceBEq, Nat.reduceBNe]
                              exact atJ (wkn Jg3 ⟨rfl, congrArg AV.bool (by first | rfl | (rw [hb4, hb5, hb6, hb7, hb8, hb9, hb10, hb11, hb12]; rfl) | (simp [hb4, hb5, hb6, hb7, hb8, hb9, hb10, hb11, hb12]; done) | simp_all), trivial⟩)
                            · skip
                              simp only [go_sem, Nat.reduceAdd, Nat.reduceLT, Nat.reduceLeDiff, Nat.reduceEqDiff, Nat.reduceBEq, Nat.reduceBNe]
                              exact atJ (wkn Jg3 ⟨rfl, congrArg AV.bool (by first | rfl | (rw [hb4, hb5, hb6, hb7, hb8, hb9, hb10, hb11, hb12]; rfl) | (simp [hb4, hb5, hb6, hb7, hb8, hb9, hb10, hb11, hb12]; done) | simp_all), trivial⟩)
                          · skip
                            simp only [go_sem, Nat.reduceAdd, Nat.reduceLT, Nat.reduceLeDiff, Nat.reduceEqDiff, Nat.reduceBEq, Nat.reduceBNe]
                            exact atJ (wkn Jg3 ⟨rfl, congrArg AV.bool (by first | rfl | (rw [hb4, hb5, hb6, hb7, hb8, hb9, hb10, hb11]; rfl) | (simp [hb4, hb5, hb6, hb7, hb8, hb9, hb10, hb11]; done) | simp_all), trivial⟩)
                        · skip
                          simp only [go_sem, Nat.reduceAdd, Nat.reduceLT, Nat.reduceLeDiff, Nat.reduceEqDiff, Nat.reduceBEq, Nat.reduceBNe]
                          exact atJ (wkn Jg3 ⟨rfl, congrArg AV.bool (by first | rfl | (rw [hb4, hb5, hb6, hb7, hb8, hb9, hb10]; rfl) | (simp [hb4, hb5, hb6, hb7, hb8, hb9, hb10]; done) | simp_all), trivial⟩)
                      · skip
                        simp only [go_sem, Nat.reduceAdd, Nat.reduceLT, Nat.reduceLeDiff, Nat.reduceEqDiff, Nat.reduceBEq, Nat.reduceBNe]
                        exact atJ (wkn Jg3 ⟨rfl, congrArg AV.bool (by first | rfl | (rw [hb4, hb5, hb6, hb7, hb8, hb9]; rfl) | (simp [hb4, hb5, hb6, hb7, hb8, hb9]; done) | simp_all), trivial⟩)
                    · skip
                      simp only [go_sem, Nat.reduceAdd, Nat.reduceLT, Nat.reduceLeDiff, Nat.reduceEqDiff, Nat.reduceBEq, Nat.reduceBNe]
                      exact atJ (wkn Jg3 ⟨rfl, congrArg AV.bool (by first | rfl | (rw [hb4, hb5, hb6, hb7, hb8]; rfl) | (simp [hb4, hb5, hb6, hb7, hb8]; done) | simp_all), trivial⟩)
                  · skip
                    simp only [go_sem, Nat.reduceAdd, Nat.reduceLT, Nat.reduceLeDiff, Nat.reduceEqDiff, Nat.reduceBEq, Nat.reduceBNe]
                    exact atJ (wkn Jg3 ⟨rfl, congrArg AV.bool (by first | rfl | (rw [hb4, hb5, hb6, hb7]; rfl) | (simp [hb4, hb5, hb6, hb7]; done) | simp_all), trivial⟩)
                · skip
                  simp only [go_sem, Nat.reduceAdd, Nat.reduceLT, Nat.reduceLeDiff, Nat.reduceEqDiff, Nat.reduceBEq, Nat.reduceBNe]
                  exact atJ (wkn Jg3 ⟨rfl, congrArg AV.bool (by first | rfl | (rw [hb4, hb5, hb6]; rfl) | (simp [hb4, hb5, hb6]; done) | simp_all), trivial⟩)
              · skip
                simp only [go_sem, Nat.reduceAdd, Nat.reduceLT, Nat.reduceLeDiff, Nat.reduceEqDiff, Nat.reduceBEq, Nat.reduceBNe]
                exact atJ (wkn Jg3 ⟨rfl, congrArg AV.bool (by first | rfl | (rw [hb4, hb5]; rfl) | (simp [hb4, hb5]; done) | simp_all), trivial⟩)
            · skip
              simp only [go_sem, Nat.reduceAdd, Nat.reduceLT, Nat.reduceLeDiff, Nat.reduceEqDiff, Nat.reduceBEq, Nat.reduceBNe]
              exact atJ (wkn Jg3 ⟨rfl, congrArg AV.bool (by first | rfl | (rw [hb4]; rfl) | (simp [hb4]; done) | simp_all), trivial⟩)
      · skip
        simp only [go_sem, Nat.reduceAdd, Nat.reduceLT, Nat.reduceLeDiff, Nat.reduceEqDiff, Nat.reduceBEq, Nat.reduceBNe]
        refine grd_ (fun hb13 => ?_) (fun hb13 => ?_)
        · skip
          simp only [go_sem, Nat.reduceAdd, Nat.reduceLT, Nat.reduceLeDiff, Nat.reduceEqDiff, Nat.reduceBEq, Nat.reduceBNe]
          exact atJ (wkn Jg2 ⟨rfl, congrArg AV.bool (by first | rfl | (rw [hb13]; rfl) | (simp [hb13]; done) | simp_all), trivial⟩)
        · skip
          simp only [go_sem, Nat.reduceAdd, Nat.reduceLT, Nat.reduceLeDiff, Nat.reduceEqDiff, Nat.reduceBEq, Nat.reduceBNe]
          exact atJ (wkn Jg2 ⟨rfl, congrArg AV.bool (by first | rfl | (rw [hb13]; rfl) | (simp [hb13]; done) | simp_all), trivial⟩)
  · skip
    simp only [go_sem, Nat.reduceAdd, Nat.reduceLT, Nat.reduceLeDiff, Nat.reduceEqDiff, Nat.reduceBEq, Nat.reduceBNe]
    refine grd_ (fun hb14 => ?_) (fun hb14 => ?_)
    · skip
      simp only [go_sem, Nat.reduceAdd, Nat.reduceLT, Nat.reduceLeDiff, Nat.reduceEqDiff, Nat.reduceBEq, Nat.reduceBNe]
      refine grd_ (fun hb15 => ?_) (fun hb15 => ?_)
      · skip
        simp only [go_sem, Nat.reduceAdd, Nat.reduceLT, Nat.reduceLeDiff, Nat.reduceEqDiff, Nat.reduceBEq, Nat.reduceBNe]
        refine grd_ (fun hb16 => ?_) (fun hb16 => ?_)
        · skip
          simp only [go_sem, Nat.reduceAdd, Nat.reduceLT, Nat.reduceLeDiff, Nat.reduceEqDiff, Nat.reduceBEq, Nat.reduceBNe]
          exact atJ (wkn Jg1 ⟨rfl, congrArg AV.bool (by first | rfl | (rw [hb14, hb15, hb16]; rfl) | (simp [hb14, hb15, hb16]; done) | simp_all), trivial⟩)
        · skip
          simp only [go_sem, Nat.reduceAdd, Nat.reduceLT, Nat.reduceLeDiff, Nat.reduceEqDiff, Nat.reduceBEq, Nat.reduceBNe]
          exact atJ (wkn Jg1 ⟨rfl, congrArg AV.bool (by first | rfl | (rw [hb14, hb15, hb16]; rfl) | (simp [hb14, hb15, hb16]; done) | simp_all), trivial⟩)
      · skip
        simp only [go_sem, Nat.reduceAdd, Nat.reduceLT, Nat.reduceLeDiff, Nat.reduceEqDiff, Nat.reduceBEq, Nat.reduceBNe]
        exact atJ (wkn Jg1 ⟨rfl, congrArg AV.bool (by first | rfl | (rw [hb14, hb15]; rfl) | (simp [hb14, hb15]; done) | simp_all), trivial⟩)
    · skip
      simp only [go_sem, Nat.reduceAdd, Nat.reduceLT, Nat.reduceLeDiff, Nat.reduceEqDiff, Nat.reduceBEq, Nat.reduceBNe]
      refine grd_ (fun hb17 => ?_) (fun hb17 => ?_)
      · skip
        simp only [go_sem, Nat.reduceAdd, Nat.reduceLT, Nat.reduceLeDiff, Nat.reduceEqDiff, Nat.reduceBEq, Nat.reduceBNe]
        exact atJ (wkn Jg1 ⟨rfl, congrArg AV.bool (by first | rfl | (rw [hb14, hb17]; rfl) | (simp [hb14, hb17]; done) | simp_all), trivial⟩)
      · skip
        simp only [go_sem, Nat.reduceAdd, Nat.reduceLT, Nat.reduceLeDiff, Nat.reduceEqDiff, Nat.reduceBEq, Nat.reduceBNe]
        exact atJ (wkn Jg1 ⟨rfl, congrArg AV.bool (by first | rfl | (rw [hb14, hb17]; rfl) | (simp [hb14, hb17]; done) | simp_all), trivial⟩)
theorem w_ref13_all {s : Str} {a : Int} {p2_b : Int}   {r : Bool} (h : ref13_all s a p2_b = some r) : ACall Tryd.prog 27 [.str s, .int .u8 a, .int .u8 p2_b] [] (.bool r) [] := by
  refine acallX 10000 hf27 ok27 (by first | rfl | simp only [go_sem]) meek_bool ?_
  dsimp only [Tryd.f27, nums, Option.getD, List.append]
  unfold ref13_all at h
  simp only [go_sem, Nat.reduceAdd, Nat.reduceLT, Nat.reduceLeDiff, Nat.reduceEqDiff, Nat.reduceBEq, Nat.reduceBNe]
  refine letK_s h fun K2 hK2 h => ?_
  refine blkJ 28 10000 (fun w => K2 () = some r → w [] []) (fun  h => runX 10000 ?_) (fun JK2 => ?_)
  · subst hK2
    dsimp only at h
    simp only [go_sem, Nat.reduceAdd, Nat.reduceLT, Nat.reduceLeDiff, Nat.reduceEqDiff, Nat.reduceBEq, Nat.reduceBNe]
    refine ret_s (fun x => .bool x) h ?_
    first | rfl | simp only [go_sem, resAV, resAll, resOne]
  · clear hK2
    simp only [go_sem, Nat.reduceAdd, Nat.reduceLT, Nat.reduceLeDiff, Nat.reduceEqDiff, Nat.reduceBEq, Nat.reduceBNe]
    refine lpJ 28 fuel (fun q1 w => ∀ (v3 : Int), ref13_all_l1 s a p2_b K2 q1 v3 = some r → w [(0, .str s), (1, .int .u8 a), (2, .int .u8 p2_b), (7, .int .i64 v3)] []) (fun w _ h => nomatch h) (fun q1 ih1 v3 h => ?_) (fun L1 => ?_)
    · unfold ref13_all_l1 at h
      refine runL 10000 ?_
      simp only [go_sem, Nat.reduceAdd, Nat.reduceLT, Nat.reduceLeDiff, Nat.reduceEqDiff, Nat.reduceBEq, Nat.reduceBNe]
      refine cnd_s 10000 h (fun hb h => ?_) (fun hb h => ?_)
      · skip
        simp only [go_sem, Nat.reduceAdd, Nat.reduceLT, Nat.reduceLeDiff, Nat.reduceEqDiff, Nat.reduceBEq, Nat.reduceBNe]
        refine blk_ 10000 ?_
        simp only [go_sem, Nat.reduceAdd, Nat.reduceLT, Nat.reduceLeDiff, Nat.reduceEqDiff, Nat.reduceBEq, Nat.reduceBNe]
        refine bsome h fun y4 hy4 h => ?_
        refine rgJ 28 10000 (fun w => w [(0, .str s), (1, .int .u8 a), (2, .int .u8 p2_b), (7, .int .i64 v3), (27, .bool y4)] []) (runX 10000 ?_) (fun Jy4 => ?_)
        · clear hy4
          simp only [go_sem, Nat.reduceAdd, Nat.reduceLT, Nat.reduceLeDiff, Nat.reduceEqDiff, Nat.reduceBEq, Nat.reduceBNe]
          refine cnd_s 10000 h (fun hb h => ?_) (fun hb h => ?_)
          · skip
            simp only [go_sem, Nat.reduceAdd, Nat.reduceLT, Nat.reduceLeDiff, Nat.reduceEqDiff, Nat.reduceBEq, Nat.reduceBNe]
            refine ret_s (fun x => .bool x) h ?_
            first | rfl | simp only [go_sem, resAV, resAll, resOne]
          · skip
            refine add_s h fun v14 _ e13 h => ?_
            simp only [go_sem, Nat.reduceAdd, Nat.reduceLT, Nat.reduceLeDiff, Nat.reduceEqDiff, Nat.reduceBEq, Nat.reduceBNe, e13]
            exact lp_back (ih1 v14 h) ⟨rfl, rfl, rfl, rfl, trivial⟩
        · clear h
          have h := hy4
          refine sIdx_s .i64 h fun v8 _ b6 e7 h => ?_
          refine bsome h fun v9 hv9 h => ?_
          simp only [go_sem, Nat.reduceAdd, Nat.reduceLT, Nat.reduceLeDiff, Nat.reduceEqDiff, Nat.reduceBEq, Nat.reduceBNe, b6, e7]
          refine callX_ 10000 (w_ref13_class  hv9) (by first | rfl | simp only [go_sem]) ?_
          simp only [go_sem, Nat.reduceAdd, Nat.reduceLT, Nat.reduceLeDiff, Nat.reduceEqDiff, Nat.reduceBEq, Nat.reduceBNe]
          refine grd_ (fun hb10 => ?_) (fun hb10 => ?_)
          · skip
            have h := ite_t hb10 h
            simp only [go_sem, Nat.reduceAdd, Nat.reduceLT, Nat.reduceLeDiff, Nat.reduceEqDiff, Nat.reduceBEq, Nat.reduceBNe, b6, e7]
            refine callX_ 10000 (w_ref13_class  hv9) (by first | rfl | simp only [go_sem]) ?_
            simp only [go_sem, Nat.reduceAdd, Nat.reduceLT, Nat.reduceLeDiff, Nat.reduceEqDiff, Nat.reduceBEq, Nat.reduceBNe]
            obtain rfl := Option.some.inj h
            exact atJ (wkn (Jy4) ⟨rfl, rfl, rfl, rfl, rfl, trivial⟩)
          · skip
            have h := ite_f hb10 h
            simp only [go_sem, Nat.reduceAdd, Nat.reduceLT, Nat.reduceLeDiff, Nat.reduceEqDiff, Nat.reduceBEq, Nat.reduceBNe]
            obtain rfl := Option.some.inj h
            exact atJ (wkn (Jy4) ⟨rfl, rfl, rfl, rfl, rfl, trivial⟩)
      · skip
        simp only [go_sem, Nat.reduceAdd, Nat.reduceLT, Nat.reduceLeDiff, Nat.reduceEqDiff, Nat.reduceBEq, Nat.reduceBNe]
        exact atJ (wkn (JK2  h) trivial)
    · exact lp_back (L1 0 h) ⟨rfl, rfl, rfl, rfl, trivial⟩
theorem w_ref13_May {p0_w : ref13_Word}   {r : Bool} (h : ref13_May p0_w = some r) : ACall Tryd.prog 13 [enc_ref13_Word p0_w] [] (.bool r) [] := by
  refine acallX 10000 hf13 ok13 (by first | rfl | simp only [go_sem]) meek_bool ?_
  dsimp only [Tryd.f13, nums, Option.getD, List.append]
  unfold ref13_May at h
  simp only [go_sem, Nat.reduceAdd, Nat.reduceLT, Nat.reduceLeDiff, Nat.reduceEqDiff, Nat.reduceBEq, Nat.reduceBNe]
  refine rgJ 104 10000 (fun w => w [(1, .ptr 0 0), (10, .bool ((decide (p0_w.At < 0)) || (decide ((16 : Int) < p0_w.K))))] [some [.int .u8 p0_w.K, .str p0_w.S, .int .i64 p0_w.At]]) (runX 10000 ?_) (fun Jg1 => ?_)
  · skip
    simp only [go_sem, Nat.reduceAdd, Nat.reduceLT, Nat.reduceLeDiff, Nat.reduceEqDiff, Nat.reduceBEq, Nat.reduceBNe]
    refine cnd_s 10000 h (fun hb h => ?_) (fun hb h => ?_)
    · skip
      simp only [go_sem, Nat.reduceAdd, Nat.reduceLT, Nat.reduceLeDiff, Nat.reduceEqDiff, Nat.reduceBEq, Nat.reduceBNe]
      refine ret_s (fun x => .bool x) h ?_
      first | rfl | simp only [go_sem, resAV, resAll, resOne]
    · skip
      simp only [go_sem, Nat.reduceAdd, Nat.reduceLT, Nat.reduceLeDiff, Nat.reduceEqDiff, Nat.reduceBEq, Nat.reduceBNe]
      refine rgJ 104 10000 (fun w => w [(1, .ptr 0 0), (23, .bool (((decide (p0_w.K = 0)) || (decide (p0_w.K = 1))) || (decide (p0_w.K = 5))))] [some [.int .u8 p0_w.K, .str p0_w.S, .int .i64 p0_w.At]]) (runX 10000 ?_) (fun Jg2 => ?_)
      · skip
        simp only [go_sem, Nat.reduceAdd, Nat.reduceLT, Nat.reduceLeDiff, Nat.reduceEqDiff, Nat.reduceBEq, Nat.reduceBNe]
        refine cnd_s 10000 h (fun hb h => ?_) (fun hb h => ?_)
        · skip
          simp only [go_sem, Nat.reduceAdd, Nat.reduceLT, Nat.reduceLeDiff, Nat.reduceEqDiff, Nat.reduceBEq, Nat.reduceBNe]
          refine bsome h fun y3 hy3 h => ?_
          refine rgJ 104 10000 (fun w => w [(2, .bool y3)] [some [.int .u8 p0_w.K, .str p0_w.S, .int .i64 p0_w.At]]) (runX 10000 ?_) (fun Jy3 => ?_)
          · clear hy3
            simp only [go_sem, Nat.reduceAdd, Nat.reduceLT, Nat.reduceLeDiff, Nat.reduceEqDiff, Nat.reduceBEq, Nat.reduceBNe]
            refine ret_s (fun x => .bool x) h ?_
            first | rfl | simp only [go_sem, resAV, resAll, resOne]
          · clear h
            have h := hy3
            simp only [go_sem, Nat.reduceAdd, Nat.reduceLT, Nat.reduceLeDiff, Nat.reduceEqDiff, Nat.reduceBEq, Nat.reduceBNe]
            refine grd_ (fun hb5 => ?_) (fun hb5 => ?_)
            · skip
              have h := ite_t hb5 h
              simp only [go_sem, Nat.reduceAdd, Nat.reduceLT, Nat.reduceLeDiff, Nat.reduceEqDiff, Nat.reduceBEq, Nat.reduceBNe]
              refine grd_ (fun hb6 => ?_) (fun hb6 => ?_)
              · skip
                have h := ite_t hb6 h
                refine bsome h fun v7 hv7 h => ?_
                simp only [go_sem, Nat.reduceAdd, Nat.reduceLT, Nat.reduceLeDiff, Nat.reduceEqDiff, Nat.reduceBEq, Nat.reduceBNe]
                refine callX_ 10000 (w_ref13_all  hv7) (by first | rfl | simp only [go_sem]) ?_
                simp only [go_sem, Nat.reduceAdd, Nat.reduceLT, Nat.reduceLeDiff, Nat.reduceEqDiff, Nat.reduceBEq, Nat.reduceBNe]
                refine grd_ (fun hb8 => ?_) (fun hb8 => ?_)
                · skip
                  have h := ite_t hb8 h
                  refine sIdx_s .i64 h fun v11 _ b9 e10 h => ?_
                  refine bsome h fun v12 hv12 h => ?_
                  simp only [go_sem, Nat.reduceAdd, Nat.reduceLT, Nat.reduceLeDiff, Nat.reduceEqDiff, Nat.reduceBEq, Nat.reduceBNe, b9, e10]
                  refine callX_ 10000 (w_ref13_class  hv12) (by first | rfl | simp only [go_sem]) ?_
                  simp only [go_sem, Nat.reduceAdd, Nat.reduceLT, Nat.reduceLeDiff, Nat.reduceEqDiff, Nat.reduceBEq, Nat.reduceBNe]
                  obtain rfl := Option.some.inj h
                  exact atJ (wkn (Jy3) ⟨rfl, trivial⟩)
                · skip
                  have h := ite_f hb8 h
                  simp only [go_sem, Nat.reduceAdd, Nat.reduceLT, Nat.reduceLeDiff, Nat.reduceEqDiff, Nat.reduceBEq, Nat.reduceBNe]
                  obtain rfl := Option.some.inj h
                  exact atJ (wkn (Jy3) ⟨rfl, trivial⟩)
              · skip
                have h := ite_f hb6 h
                simp only [go_sem, Nat.reduceAdd, Nat.reduceLT, Nat.reduceLeDiff, Nat.reduceEqDiff, Nat.reduceBEq, Nat.reduceBNe]
                obtain rfl := Option.some.inj h
                exact atJ (wkn (Jy3) ⟨rfl, trivial⟩)
            · skip
              have h := ite_f hb5 h
              simp only [go_sem, Nat.reduceAdd, Nat.reduceLT, Nat.reduceLeDiff, Nat.reduceEqDiff, Nat.reduceBEq, Nat.reduceBNe]
              obtain rfl := Option.some.inj h
              exact atJ (wkn (Jy3) ⟨rfl, trivial⟩)
        · skip
          simp only [go_sem, Nat.reduceAdd, Nat.reduceLT, Nat.reduceLeDiff, Nat.reduceEqDiff, Nat.reduceBEq, Nat.reduceBNe]
          refine cnd_s 10000 h (fun hb h => ?_) (fun hb h => ?_)
          · skip
            simp only [go_sem, Nat.reduceAdd, Nat.reduceLT, Nat.reduceLeDiff, Nat.reduceEqDiff, Nat.reduceBEq, Nat.reduceBNe]
            refine bsome h fun y13 hy13 h => ?_
            refine rgJ 104 10000 (fun w => w [(2, .bool y13)] [some [.int .u8 p0_w.K, .str p0_w.S, .int .i64 p0_w.At]]) (runX 10000 ?_) (fun Jy13 => ?_)
            · clear hy13
              simp only [go_sem, Nat.reduceAdd, Nat.reduceLT, Nat.reduceLeDiff, Nat.reduceEqDiff, Nat.reduceBEq, Nat.reduceBNe]
              refine ret_s (fun x => .bool x) h ?_
              first | rfl | simp only [go_sem, resAV, resAll, resOne]
            · clear h
              have h := hy13
              simp only [go_sem, Nat.reduceAdd, Nat.reduceLT, Nat.reduceLeDiff, Nat.reduceEqDiff, Nat.reduceBEq, Nat.reduceBNe]
              refine grd_ (fun hb15 => ?_) (fun hb15 => ?_)
              · skip
                have h := ite_t hb15 h
                simp only [go_sem, Nat.reduceAdd, Nat.reduceLT, Nat.reduceLeDiff, Nat.reduceEqDiff, Nat.reduceBEq, Nat.reduceBNe]
                refine grd_ (fun hb16 => ?_) (fun hb16 => ?_)
                · skip
                  have h := ite_t hb16 h
                  refine bsome h fun v17 hv17 h => ?_
                  simp only [go_sem, Nat.reduceAdd, Nat.reduceLT, Nat.reduceLeDiff, Nat.reduceEqDiff, Nat.reduceBEq, Nat.reduceBNe]
                  refine callX_ 10000 (w_ref13_all  hv17) (by first | rfl | simp only [go_sem]) ?_
                  simp only [go_sem, Nat.reduceAdd, Nat.reduceLT, Nat.reduceLeDiff, Nat.reduceEqDiff, Nat.reduceBEq, Nat.reduceBNe]
                  obtain rfl := Option.some.inj h
                  exact atJ (wkn (Jy13) ⟨rfl, trivial⟩)
                · skip
                  have h := ite_f hb16 h
                  simp only [go_sem, Nat.reduceAdd, Nat.reduceLT, Nat.reduceLeDiff, Nat.reduceEqDiff, Nat.reduceBEq, Nat.reduceBNe]
                  obtain rfl := Option.some.inj h
                  exact atJ (wkn (Jy13) ⟨rfl, trivial⟩)
              · skip
                have h := ite_f hb15 h
                simp only [go_sem, Nat.reduceAdd, Nat.reduceLT, Nat.reduceLeDiff, Nat.reduceEqDiff, Nat.reduceBEq, Nat.reduceBNe]
                obtain rfl := Option.some.inj h
                exact atJ (wkn (Jy13) ⟨rfl, trivial⟩)
          · skip
            simp only [go_sem, Nat.reduceAdd, Nat.reduceLT, Nat.reduceLeDiff, Nat.reduceEqDiff, Nat.reduceBEq, Nat.reduceBNe]
            refine cnd_s 10000 h (fun hb h => ?_) (fun hb h => ?_)
            · skip
              simp only [go_sem, Nat.reduceAdd, Nat.reduceLT, Nat.reduceLeDiff, Nat.reduceEqDiff, Nat.reduceBEq, Nat.reduceBNe]
              refine bsome h fun y18 hy18 h => ?_
              refine rgJ 104 10000 (fun w => w [(2, .bool y18)] [some [.int .u8 p0_w.K, .str p0_w.S, .int .i64 p0_w.At]]) (runX 10000 ?_) (fun Jy18 => ?_)
              · clear hy18
                simp only [go_sem, Nat.reduceAdd, Nat.reduceLT, Nat.reduceLeDiff, Nat.reduceEqDiff, Nat.reduceBEq, Nat.reduceBNe]
                refine ret_s (fun x => .bool x) h ?_
                first | rfl | simp only [go_sem, resAV, resAll, resOne]
              · clear h
                have h := hy18
                simp only [go_sem, Nat.reduceAdd, Nat.reduceLT, Nat.reduceLeDiff, Nat.reduceEqDiff, Nat.reduceBEq, Nat.reduceBNe]
                refine grd_ (fun hb20 => ?_) (fun hb20 => ?_)
                · skip
                  have h := ite_t hb20 h
                  simp only [go_sem, Nat.reduceAdd, Nat.reduceLT, Nat.reduceLeDiff, Nat.reduceEqDiff, Nat.reduceBEq, Nat.reduceBNe]
                  refine grd_ (fun hb21 => ?_) (fun hb21 => ?_)
                  · skip
                    have h := ite_t hb21 h
                    refine bsome h fun v22 hv22 h => ?_
                    simp only [go_sem, Nat.reduceAdd, Nat.reduceLT, Nat.reduceLeDiff, Nat.reduceEqDiff, Nat.reduceBEq, Nat.reduceBNe]
                    refine callX_ 10000 (w_ref13_all  hv22) (by first | rfl | simp only [go_sem]) ?_
                    simp only [go_sem, Nat.reduceAdd, Nat.reduceLT, Nat.reduceLeDiff, Nat.reduceEqDiff, Nat.reduceBEq, Nat.reduceBNe]
                    refine grd_ (fun hb23 => ?_) (fun hb23 => ?_)
                    · skip
                      have h := ite_t hb23 h
                      simp only [go_sem, Nat.reduceAdd, Nat.reduceLT, Nat.reduceLeDiff, Nat.reduceEqDiff, Nat.reduceBEq, Nat.reduceBNe]
                      refine grd_ (fun hb24 => ?_) (fun hb24 => ?_)
                      · skip
                        have h := ite_f hb24 h
                        refine sIdx_s .i64 h fun v27 _ b25 e26 h => ?_
                        simp only [go_sem, Nat.reduceAdd, Nat.reduceLT, Nat.reduceLeDiff, Nat.reduceEqDiff, Nat.reduceBEq, Nat.reduceBNe, b25, e26]
                        obtain rfl := Option.some.inj h
                        exact atJ (wkn (Jy18) ⟨rfl, trivial⟩)
                      · skip
                        have h := ite_t hb24 h
                        simp only [go_sem, Nat.reduceAdd, Nat.reduceLT, Nat.reduceLeDiff, Nat.reduceEqDiff, Nat.reduceBEq, Nat.reduceBNe]
                        obtain rfl := Option.some.inj h
                        exact atJ (wkn (Jy18) ⟨rfl, trivial⟩)
                    · skip
                      have h := ite_f hb23 h
                      simp only [go_sem, Nat.reduceAdd, Nat.reduceLT, Nat.reduceLeDiff, Nat.reduceEqDiff, Nat.reduceBEq, Nat.reduceBNe]
                      obtain rfl := Option.some.inj h
                      exact atJ (wkn (Jy18) ⟨rfl, trivial⟩)
                  · skip
                    have h := ite_f hb21 h
                    simp only [go_sem, Nat.reduceAdd, Nat.reduceLT, Nat.reduceLeDiff, Nat.reduceEqDiff, Nat.reduceBEq, Nat.reduceBNe]
                    obtain rfl := Option.some.inj h
                    exact atJ (wkn (Jy18) ⟨rfl, trivial⟩)
                · skip
                  have h := ite_f hb20 h
                  simp only [go_sem, Nat.reduceAdd, Nat.reduceLT, Nat.reduceLeDiff, Nat.reduceEqDiff, Nat.reduceBEq, Nat.reduceBNe]
                  obtain rfl := Option.some.inj h
                  exact atJ (wkn (Jy18) ⟨rfl, trivial⟩)
            · skip
              simp only [go_sem, Nat.reduceAdd, Nat.reduceLT, Nat.reduceLeDiff, Nat.reduceEqDiff, Nat.reduceBEq, Nat.reduceBNe]
              refine cnd_s 10000 h (fun hb h => ?_) (fun hb h => ?_)
              · skip
                simp only [go_sem, Nat.reduceAdd, Nat.reduceLT, Nat.reduceLeDiff, Nat.reduceEqDiff, Nat.reduceBEq, Nat.reduceBNe]
                refine ret_s (fun x => .bool x) h ?_
                first | rfl | simp only [go_sem, resAV, resAll, resOne]
              · skip
                simp only [go_sem, Nat.reduceAdd, Nat.reduceLT, Nat.reduceLeDiff, Nat.reduceEqDiff, Nat.reduceBEq, Nat.reduceBNe]
                refine ret_s (fun x => .bool x) h ?_
                first | rfl | simp only [go_sem, resAV, resAll, resOne]
      · skip
        simp only [go_sem, Nat.reduceAdd, Nat.reduceLT, Nat.reduceLeDiff, Nat.reduceEqDiff, Nat.reduceBEq, Nat.reduceBNe]
        refine grd_ (fun hb28 => ?_) (fun hb28 => ?_)
        · skip
          simp only [go_sem, Nat.reduceAdd, Nat.reduceLT, Nat.reduceLeDiff, Nat.reduceEqDiff, Nat.reduceBEq, Nat.reduceBNe]
          refine grd_ (fun hb29 => ?_) (fun hb29 => ?_)
          · skip
            simp only [go_sem, Nat.reduceAdd, Nat.reduceLT, Nat.reduceLeDiff, Nat.reduceEqDiff, Nat.reduceBEq, Nat.reduceBNe]
            exact atJ (wkn Jg2 ⟨rfl, congrArg AV.bool (by first | rfl | (rw [hb28, hb29]; rfl) | (simp [hb28, hb29]; done) | simp_all), trivial⟩)
          · skip
            simp only [go_sem, Nat.reduceAdd, Nat.reduceLT, Nat.reduceLeDiff, Nat.reduceEqDiff, Nat.reduceBEq, Nat.reduceBNe]
            exact atJ (wkn Jg2 ⟨rfl, congrArg AV.bool (by first | rfl | (rw [hb28, hb29]; rfl) | (simp [hb28, hb29]; done) | simp_all), trivial⟩)
        · skip
          simp only [go_sem, Nat.reduceAdd, Nat.reduceLT, Nat.reduceLeDiff, Nat.reduceEqDiff, Nat.reduceBEq, Nat.reduceBNe]
          exact atJ (wkn Jg2 ⟨rfl, congrArg AV.bool (by first | rfl | (rw [hb28]; rfl) | (simp [hb28]; done) | simp_all), trivial⟩)
  · skip
    simp only [go_sem, Nat.reduceAdd, Nat.reduceLT, Nat.reduceLeDiff, Nat.reduceEqDiff, Nat.reduceBEq, Nat.reduceBNe]
    refine grd_ (fun hb30 => ?_) (fun hb30 => ?_)
    · skip
      simp only [go_sem, Nat.reduceAdd, Nat.reduceLT, Nat.reduceLeDiff, Nat.reduceEqDiff, Nat.reduceBEq, Nat.reduceBNe]
      exact atJ (wkn Jg1 ⟨rfl, congrArg AV.bool (by first | rfl | (rw [hb30]; rfl) | (simp [hb30]; done) | simp_all), trivial⟩)
    · skip
      simp only [go_sem, Nat.reduceAdd, Nat.reduceLT, Nat.reduceLeDiff, Nat.reduceEqDiff, Nat.reduceBEq, Nat.reduceBNe]
      exact atJ (wkn Jg1 ⟨rfl, congrArg AV.bool (by first | rfl | (rw [hb30]; rfl) | (simp [hb30]; done) | simp_all), trivial⟩)
theorem w_ref13_at {s : Str} {i : Int}   {r : Int} (h : ref13_at s i = some r) : ACall Tryd.prog 20 [.str s, .int .i64 i] [] (.int .u8 r) [] := by
  refine acallX 10000 hf20 ok20 (by first | rfl | simp only [go_sem]) meek_int ?_
  dsimp only [Tryd.f20, nums, Option.getD, List.append]
  unfold ref13_at at h
  simp only [go_sem, Nat.reduceAdd, Nat.reduceLT, Nat.reduceLeDiff, Nat.reduceEqDiff, Nat.reduceBEq, Nat.reduceBNe]
  refine cnd_s 10000 h (fun hb h => ?_) (fun hb h => ?_)
  · skip
    refine sIdx_s .i64 h fun v3 _ b1 e2 h => ?_
    refine bsome h fun v4 hv4 h => ?_
    simp only [go_sem, Nat.reduceAdd, Nat.reduceLT, Nat.reduceLeDiff, Nat.reduceEqDiff, Nat.reduceBEq, Nat.reduceBNe, b1, e2]
    refine callX_ 10000 (w_ref13_class  hv4) (by first | rfl | simp only [go_sem]) ?_
    simp only [go_sem, Nat.reduceAdd, Nat.reduceLT, Nat.reduceLeDiff, Nat.reduceEqDiff, Nat.reduceBEq, Nat.reduceBNe]
    refine ret_s (fun x => .int .u8 x) h ?_
    first | rfl | simp only [go_sem, resAV, resAll, resOne]
  · skip
    simp only [go_sem, Nat.reduceAdd, Nat.reduceLT, Nat.reduceLeDiff, Nat.reduceEqDiff, Nat.reduceBEq, Nat.reduceBNe]
    refine ret_s (fun x => .int .u8 x) h ?_
    first | rfl | simp only [go_sem, resAV, resAll, resOne]
theorem w_ref13_Mark {k : Int}   {r : Int} (h : ref13_Mark k = some r) : ACall Tryd.prog 21 [.int .i64 k] [] (.int .u8 r) [] := by
  refine acallX 10000 hf21 ok21 (by first | rfl | simp only [go_sem]) meek_int ?_
  dsimp only [Tryd.f21, nums, Option.getD, List.append]
  unfold ref13_Mark at h
  refine sub_s h fun v2 _ e1 h => ?_
  refine lAt_s (AV.int .u8) none .i64 ⟨5, 1, false, 1⟩ (fun _ => rfl) h fun v5 _ (b3 : iadC ⟨5, 1, false, 1⟩ (.sl none [.int .u8 94, .int .u8 59, .int .u8 46, .int .u8 40, .int .u8 41, .int .u8 91, .int .u8 93, .int .u8 124, .int .u8 123, .int .u8 125]) (.int .i64 v2)) (e4 : iadV (.sl none [.int .u8 94, .int .u8 59, .int .u8 46, .int .u8 40, .int .u8 41, .int .u8 91, .int .u8 93, .int .u8 124, .int .u8 123, .int .u8 125]) (.int .i64 v2) = .ip ((AV.int .u8) v5).cells) h => ?_
  simp only [go_sem, Nat.reduceAdd, Nat.reduceLT, Nat.reduceLeDiff, Nat.reduceEqDiff, Nat.reduceBEq, Nat.reduceBNe, e1, b3, e4]
  refine ret_s (fun x => .int .u8 x) h ?_
  first | rfl | simp only [go_sem, resAV, resAll, resOne]
theorem w_ref13_Words {s : Str}   {r : ((List ref13_Word) × Int × Int)} (h : ref13_Words s = some r) : ACall Tryd.prog 9 [.str s] [] (.tup [.sl none (List.map enc_ref13_Word r.1), .int .i64 r.2.1, .int .i64 r.2.2]) [] := by
  refine acallX 10000 hf9 ok9 (by first | rfl | simp only [go_sem]) meek_tup ?_
  dsimp only [Tryd.f9, nums, Option.getD, List.append]
  unfold ref13_Words at h
  simp only [go_sem, Nat.reduceAdd, Nat.reduceLT, Nat.reduceLeDiff, Nat.reduceEqDiff, Nat.reduceBEq, Nat.reduceBNe]
  refine cnd_s 10000 h (fun hb h => ?_) (fun hb h => ?_)
  · skip
    simp only [go_sem, Nat.reduceAdd, Nat.reduceLT, Nat.reduceLeDiff, Nat.reduceEqDiff, Nat.reduceBEq, Nat.reduceBNe]
    refine ret_s (fun x => .tup [.sl none (List.map enc_ref13_Word x.1), .int .i64 x.2.1, .int .i64 x.2.2]) h ?_
    first | rfl | simp only [go_sem, resAV, resAll, resOne]
  · skip
    simp only [go_sem, Nat.reduceAdd, Nat.reduceLT, Nat.reduceLeDiff, Nat.reduceEqDiff, Nat.reduceBEq, Nat.reduceBNe]
    refine letK_s h fun K2 hK2 h => ?_
    refine blkJ 239 10000 (fun w => ∀ (v161 : (List ref13_Word)), K2 v161 = some r → w [(5, .sl (some none) (List.map enc_ref13_Word v161))] []) (fun v161 h => runX 10000 ?_) (fun JK2 => ?_)
    · subst hK2
      dsimp only at h
      simp only [go_sem, Nat.reduceAdd, Nat.reduceLT, Nat.reduceLeDiff, Nat.reduceEqDiff, Nat.reduceBEq, Nat.reduceBNe]
      refine ret_s (fun x => .tup [.sl none (List.map enc_ref13_Word x.1), .int .i64 x.2.1, .int .i64 x.2.2]) h ?_
      first | rfl | simp only [go_sem, resAV, resAll, resOne]
    · clear hK2
      simp only [go_sem, Nat.reduceAdd, Nat.reduceLT, Nat.reduceLeDiff, Nat.reduceEqDiff, Nat.reduceBEq, Nat.reduceBNe]
      refine lpJ 239 fuel (fun q1 w => ∀ (v3 : (List ref13_Word)) (v4 : Int), ref13_Words_l1 s K2 q1 v3 v4 = some r → w [(0, .str s), (5, .sl (some none) (List.map enc_ref13_Word v3)), (6, .int .i64 v4)] []) (fun w _ _ h => nomatch h) (fun q1 ih1 v3 v4 h => ?_) (fun L1 => ?_)
      · unfold ref13_Words_l1 at h
        refine runL 10000 ?_
        simp only [go_sem, Nat.reduceAdd, Nat.reduceLT, Nat.reduceLeDiff, Nat.reduceEqDiff, Nat.reduceBEq, Nat.reduceBNe]
        refine cnd_s 10000 h (fun hb h => ?_) (fun hb h => ?_)
        · skip
          simp only [go_sem, Nat.reduceAdd, Nat.reduceLT, Nat.reduceLeDiff, Nat.reduceEqDiff, Nat.reduceBEq, Nat.reduceBNe]
          refine letK_s h fun K6 hK6 h => ?_
          refine blkJ 239 10000 (fun w => ∀ (v159 : (List ref13_Word)) (v160 : Int), K6 v159 v160 = some r → w [(0, .str s), (5, .sl (some none) (List.map enc_ref13_Word v159)), (6, .int .i64 v160)] []) (fun v159 v160 h => runX 10000 ?_) (fun JK6 => ?_)
          · subst hK6
            dsimp only at h
            simp only [go_sem, Nat.reduceAdd, Nat.reduceLT, Nat.reduceLeDiff, Nat.reduceEqDiff, Nat.reduceBEq, Nat.reduceBNe]
            exact lp_back (ih1 v159 v160 h) ⟨rfl, rfl, rfl, trivial⟩
          · clear hK6
            refine sIdx_s .i64 h fun v9 _ b7 e8 h => ?_
            refine bsome h fun v10 hv10 h => ?_
            simp only [go_sem, Nat.reduceAdd, Nat.reduceLT, Nat.reduceLeDiff, Nat.reduceEqDiff, Nat.reduceBEq, Nat.reduceBNe, b7, e8]
            refine callX_ 10000 (w_ref13_class  hv10) (by first | rfl | simp only [go_sem]) ?_
            refine add_s h fun v12 _ e11 h => ?_
            simp only [go_sem, Nat.reduceAdd, Nat.reduceLT, Nat.reduceLeDiff, Nat.reduceEqDiff, Nat.reduceBEq, Nat.reduceBNe, e11]
            refine rgJ 239 10000 (fun w => w [(0, .str s), (5, .sl (some none) (List.map enc_ref13_Word v3)), (6, .int .i64 v12), (7, .int .u8 v10), (8, .ptr 0 0), (9, .int .i64 v4), (41, .bool ((((decide (v10 = 32)) || (decide (v10 = 9))) || (decide (v10 = 10))) || (decide (v10 = 13))))] [some [.int .u8 99, .str [], .int .i64 v4]]) (runX 10000 ?_) (fun Jg13 => ?_)
            · skip
              simp only [go_sem, Nat.reduceAdd, Nat.reduceLT, Nat.reduceLeDiff, Nat.reduceEqDiff, Nat.reduceBEq, Nat.reduceBNe]
              refine cnd_s 10000 h (fun hb h => ?_) (fun hb h => ?_)
              · skip
                simp only [go_sem, Nat.reduceAdd, Nat.reduceLT, Nat.reduceLeDiff, Nat.reduceEqDiff, Nat.reduceBEq, Nat.reduceBNe]
                exact atJ (wknH 0 (JK6 v3 v12 h) ⟨rfl, rfl, rfl, trivial⟩ rfl rfl rfl (by first | rfl | simp only [go_sem, ltF]) (by first | rfl | simp only [go_sem, allLt]))
              · skip
                simp only [go_sem, Nat.reduceAdd, Nat.reduceLT, Nat.reduceLeDiff, Nat.reduceEqDiff, Nat.reduceBEq, Nat.reduceBNe]
                refine cnd_s 10000 h (fun hb h => ?_) (fun hb h => ?_)
                · skip
                  simp only [go_sem, Nat.reduceAdd, Nat.reduceLT, Nat.reduceLeDiff, Nat.reduceEqDiff, Nat.reduceBEq, Nat.reduceBNe]
                  refine bsome h fun y14 hy14 h => ?_
                  refine blkJ 239 10000 (fun w => w [(0, .str s), (5, .sl (some none) (List.map enc_ref13_Word v3)), (6, .int .i64 y14), (9, .int .i64 v4)] [some [.int .u8 99, .str [], .int .i64 v4]]) (runX 10000 ?_) (fun Jy14 => ?_)
                  · clear hy14
                    simp only [go_sem, Nat.reduceAdd, Nat.reduceLT, Nat.reduceLeDiff, Nat.reduceEqDiff, Nat.reduceBEq, Nat.reduceBNe]
                    refine cnd_s 10000 h (fun hb h => ?_) (fun hb h => ?_)
                    · skip
                      simp only [go_sem, Nat.reduceAdd, Nat.reduceLT, Nat.reduceLeDiff, Nat.reduceEqDiff, Nat.reduceBEq, Nat.reduceBNe]
                      refine ret_s (fun x => .tup [.sl none (List.map enc_ref13_Word x.1), .int .i64 x.2.1, .int .i64 x.2.2]) h ?_
                      first | rfl | simp only [go_sem, resAV, resAll, resOne]
                    · skip
                      refine add_s h fun v26 _ e25 h => ?_
                      simp only [go_sem, Nat.reduceAdd, Nat.reduceLT, Nat.reduceLeDiff, Nat.reduceEqDiff, Nat.reduceBEq, Nat.reduceBNe, e25]
                      exact atJ (wknH 0 (JK6 v3 v26 h) ⟨rfl, rfl, rfl, trivial⟩ rfl rfl rfl (by first | rfl | simp only [go_sem, ltF]) (by first | rfl | simp only [go_sem, allLt]))
                  · clear h
                    have h := hy14
                    simp only [go_sem, Nat.reduceAdd, Nat.reduceLT, Nat.reduceLeDiff, Nat.reduceEqDiff, Nat.reduceBEq, Nat.reduceBNe]
                    refine lpJ 239 fuel (fun q2 w => ∀ (v16 : Int), ref13_Words_l2 s q2 v16 = some y14 → w [(0, .str s), (5, .sl (some none) (List.map enc_ref13_Word v3)), (6, .int .i64 v16), (9, .int .i64 v4)] [some [.int .u8 99, .str [], .int .i64 v4]]) (fun w _ h => nomatch h) (fun q2 ih2 v16 h => ?_) (fun L2 => ?_)
                    · unfold ref13_Words_l2 at h
                      refine runL 10000 ?_
                      simp only [go_sem, Nat.reduceAdd, Nat.reduceLT, Nat.reduceLeDiff, Nat.reduceEqDiff, Nat.reduceBEq, Nat.reduceBNe]
                      refine bsome h fun y17 hy17 h => ?_
                      refine rgJ 239 10000 (fun w => w [(0, .str s), (5, .sl (some none) (List.map enc_ref13_Word v3)), (6, .int .i64 v16), (9, .int .i64 v4), (53, .bool y17)] [some [.int .u8 99, .str [], .int .i64 v4]]) (runX 10000 ?_) (fun Jy17 => ?_)
                      · clear hy17
                        simp only [go_sem, Nat.reduceAdd, Nat.reduceLT, Nat.reduceLeDiff, Nat.reduceEqDiff, Nat.reduceBEq, Nat.reduceBNe]
                        refine cnd_s 10000 h (fun hb h => ?_) (fun hb h => ?_)
                        · skip
                          simp only [go_sem, Nat.reduceAdd, Nat.reduceLT, Nat.reduceLeDiff, Nat.reduceEqDiff, Nat.reduceBEq, Nat.reduceBNe]
                          refine blk_ 10000 ?_
                          refine add_s h fun v24 _ e23 h => ?_
                          simp only [go_sem, Nat.reduceAdd, Nat.reduceLT, Nat.reduceLeDiff, Nat.reduceEqDiff, Nat.reduceBEq, Nat.reduceBNe, e23]
                          exact lp_back (ih2 v24 h) ⟨rfl, rfl, rfl, rfl, trivial⟩
                        · skip
                          simp only [go_sem, Nat.reduceAdd, Nat.reduceLT, Nat.reduceLeDiff, Nat.reduceEqDiff, Nat.reduceBEq, Nat.reduceBNe]
                          obtain rfl := Option.some.inj h
                          exact atJ (wkn (Jy14) ⟨rfl, rfl, rfl, rfl, trivial⟩)
                      · clear h
                        have h := hy17
                        simp only [go_sem, Nat.reduceAdd, Nat.reduceLT, Nat.reduceLeDiff, Nat.reduceEqDiff, Nat.reduceBEq, Nat.reduceBNe]
                        refine grd_ (fun hb19 => ?_) (fun hb19 => ?_)
                        · skip
                          have h := ite_t hb19 h
                          refine sIdx_s .i64 h fun v22 _ b20 e21 h => ?_
                          simp only [go_sem, Nat.reduceAdd, Nat.reduceLT, Nat.reduceLeDiff, Nat.reduceEqDiff, Nat.reduceBEq, Nat.reduceBNe, b20, e21]
                          obtain rfl := Option.some.inj h
                          exact atJ (wkn (Jy17) ⟨rfl, rfl, rfl, rfl, rfl, trivial⟩)
                        · skip
                          have h := ite_f hb19 h
                          simp only [go_sem, Nat.reduceAdd, Nat.reduceLT, Nat.reduceLeDiff, Nat.reduceEqDiff, Nat.reduceBEq, Nat.reduceBNe]
                          obtain rfl := Option.some.inj h
                          exact atJ (wkn (Jy17) ⟨rfl, rfl, rfl, rfl, rfl, trivial⟩)
                    · exact lp_back (L2 v12 h) ⟨rfl, rfl, rfl, rfl, trivial⟩
                · skip
                  simp only [go_sem, Nat.reduceAdd, Nat.reduceLT, Nat.reduceLeDiff, Nat.reduceEqDiff, Nat.reduceBEq, Nat.reduceBNe]
                  refine bsome h fun y27 hy27 h => ?_
                  refine rgJ 239 10000 (fun w => w [(0, .str s), (5, .sl (some none) (List.map enc_ref13_Word v3)), (6, .int .i64 v12), (7, .int .u8 v10), (8, .ptr 0 0), (9, .int .i64 v4), (74, .bool y27)] [some [.int .u8 99, .str [], .int .i64 v4]]) (runX 10000 ?_) (fun Jy27 => ?_)
                  · clear hy27
                    simp only [go_sem, Nat.reduceAdd, Nat.reduceLT, Nat.reduceLeDiff, Nat.reduceEqDiff, Nat.reduceBEq, Nat.reduceBNe]
                    refine bsome h fun y32 hy32 h => ?_
                    refine cndJ 239 10000 (fun w => w [(0, .str s), (5, .sl (some none) (List.map enc_ref13_Word v3)), (6, .int .i64 y32.1), (8, .ptr 0 0), (9, .int .i64 v4)] [some [.int .u8 y32.2.K, .str y32.2.S, .int .i64 y32.2.At]]) (runX 10000 ?_) (fun Jy32 => ?_)
                    · clear hy32
                      refine bsome h fun v152 hv152 h => ?_
                      simp only [go_sem, Nat.reduceAdd, Nat.reduceLT, Nat.reduceLeDiff, Nat.reduceEqDiff, Nat.reduceBEq, Nat.reduceBNe]
                      refine callX_ 10000 (w_ref13_May  hv152) (by first | rfl | simp only [go_sem]) ?_
                      simp only [go_sem, Nat.reduceAdd, Nat.reduceLT, Nat.reduceLeDiff, Nat.reduceEqDiff, Nat.reduceBEq, Nat.reduceBNe]
                      refine cnd_s 10000 h (fun hb h => ?_) (fun hb h => ?_)
                      · skip
                        simp only [go_sem, Nat.reduceAdd, Nat.reduceLT, Nat.reduceLeDiff, Nat.reduceEqDiff, Nat.reduceBEq, Nat.reduceBNe]
                        refine ret_s (fun x => .tup [.sl none (List.map enc_ref13_Word x.1), .int .i64 x.2.1, .int .i64 x.2.2]) h ?_
                        first | rfl | simp only [go_sem, resAV, resAll, resOne]
                      · skip
                        refine app_s enc_ref13_Word (some none) ⟨35, 3, true, 32⟩ (fun _ => rfl) (by decide) rfl h fun v155 _ (b153 : appc ⟨35, 3, true, 32⟩ (.sl (some none) (List.map enc_ref13_Word v3)) (.sl (some none) [.agg [.int .u8 y32.2.K, .str y32.2.S, .int .i64 y32.2.At]])) (e154 : appv (.sl (some none) (List.map enc_ref13_Word v3)) (.sl (some none) [.agg [.int .u8 y32.2.K, .str y32.2.S, .int .i64 y32.2.At]]) = .sl (some none) (List.map enc_ref13_Word v155)) h => ?_
                        simp only [go_sem, Nat.reduceAdd, Nat.reduceLT, Nat.reduceLeDiff, Nat.reduceEqDiff, Nat.reduceBEq, Nat.reduceBNe, b153, e154]
                        exact atJ (wknH 0 (JK6 v155 y32.1 h) ⟨rfl, rfl, rfl, trivial⟩ rfl rfl rfl (by first | rfl | simp only [go_sem, ltF]) (by first | rfl | simp only [go_sem, allLt]))
                    · clear h
                      have h := hy32
                      refine cnd_s 10000 h (fun hb h => ?_) (fun hb h => ?_)
                      · skip
                        simp only [go_sem, Nat.reduceAdd, Nat.reduceLT, Nat.reduceLeDiff, Nat.reduceEqDiff, Nat.reduceBEq, Nat.reduceBNe]
                        refine bsome h fun y34 hy34 h => ?_
                        refine blkJ 239 10000 (fun w => w [(0, .str s), (5, .sl (some none) (List.map enc_ref13_Word v3)), (6, .int .i64 y34), (7, .int .u8 v10), (8, .ptr 0 0), (9, .int .i64 v4)] [some [.int .u8 99, .str [], .int .i64 v4]]) (runX 10000 ?_) (fun Jy34 => ?_)
                        · clear hy34
                          refine subS_s (some (.int .i64 v4)) (some (.int .i64 y34)) rfl rfl h fun v45 _ b43 e44 h => ?_
                          simp only [go_sem, Nat.reduceAdd, Nat.reduceLT, Nat.reduceLeDiff, Nat.reduceEqDiff, Nat.reduceBEq, Nat.reduceBNe, b43, e44]
                          refine bsome h fun y46 hy46 h => ?_
                          refine cndJ 239 10000 (fun w => w [(0, .str s), (5, .sl (some none) (List.map enc_ref13_Word v3)), (6, .int .i64 y46.1), (8, .ptr 0 0), (9, .int .i64 v4)] [some [.int .u8 y46.2.K, .str y46.2.S, .int .i64 y46.2.At]]) (runX 10000 ?_) (fun Jy46 => ?_)
                          · clear hy46
                            simp only [go_sem, Nat.reduceAdd, Nat.reduceLT, Nat.reduceLeDiff, Nat.reduceEqDiff, Nat.reduceBEq, Nat.reduceBNe]
                            obtain rfl := Option.some.inj h
                            exact atJ (wkn (Jy32) ⟨rfl, rfl, rfl, rfl, rfl, trivial⟩)
                          · clear h
                            have h := hy46
                            refine cnd_s 10000 h (fun hb h => ?_) (fun hb h => ?_)
                            · skip
                              refine subS_s (some (.int .i64 v12)) (some (.int .i64 y34)) rfl rfl h fun v51 _ b49 e50 h => ?_
                              simp only [go_sem, Nat.reduceAdd, Nat.reduceLT, Nat.reduceLeDiff, Nat.reduceEqDiff, Nat.reduceBEq, Nat.reduceBNe, e11, b49, e50]
                              obtain rfl := Option.some.inj h
                              exact atJ (wkn (Jy46) ⟨rfl, rfl, rfl, rfl, rfl, trivial⟩)
                            · skip
                              simp only [go_sem, Nat.reduceAdd, Nat.reduceLT, Nat.reduceLeDiff, Nat.reduceEqDiff, Nat.reduceBEq, Nat.reduceBNe]
                              refine bsome h fun y52 hy52 h => ?_
                              refine rgJ 239 10000 (fun w => w [(0, .str s), (5, .sl (some none) (List.map enc_ref13_Word v3)), (6, .int .i64 y34), (8, .ptr 0 0), (9, .int .i64 v4), (120, .bool y52)] [some [.int .u8 0, .str v45, .int .i64 v4]]) (runX 10000 ?_) (fun Jy52 => ?_)
                              · clear hy52
                                simp only [go_sem, Nat.reduceAdd, Nat.reduceLT, Nat.reduceLeDiff, Nat.reduceEqDiff, Nat.reduceBEq, Nat.reduceBNe]
                                refine bsome h fun y63 hy63 h => ?_
                                refine cndJ 239 10000 (fun w => w [(0, .str s), (5, .sl (some none) (List.map enc_ref13_Word v3)), (6, .int .i64 y63.1), (8, .ptr 0 0), (9, .int .i64 v4)] [some [.int .u8 y63.2, .str v45, .int .i64 v4]]) (runX 10000 ?_) (fun Jy63 => ?_)
                                · clear hy63
                                  simp only [go_sem, Nat.reduceAdd, Nat.reduceLT, Nat.reduceLeDiff, Nat.reduceEqDiff, Nat.reduceBEq, Nat.reduceBNe]
                                  obtain rfl := Option.some.inj h
                                  exact atJ (wkn (Jy46) ⟨rfl, rfl, rfl, rfl, rfl, trivial⟩)
                                · clear h
                                  have h := hy63
                                  refine cnd_s 10000 h (fun hb h => ?_) (fun hb h => ?_)
                                  · skip
                                    refine add_s h fun v66 _ e65 h => ?_
                                    simp only [go_sem, Nat.reduceAdd, Nat.reduceLT, Nat.reduceLeDiff, Nat.reduceEqDiff, Nat.reduceBEq, Nat.reduceBNe, e65]
                                    obtain rfl := Option.some.inj h
                                    exact atJ (wkn (Jy63) ⟨rfl, rfl, rfl, rfl, rfl, trivial⟩)
                                  · skip
                                    simp only [go_sem, Nat.reduceAdd, Nat.reduceLT, Nat.reduceLeDiff, Nat.reduceEqDiff, Nat.reduceBEq, Nat.reduceBNe]
                                    obtain rfl := Option.some.inj h
                                    exact atJ (wkn (Jy63) ⟨rfl, rfl, rfl, rfl, rfl, trivial⟩)
                              · clear h
                                have h := hy52
                                refine bsome h fun v54 hv54 h => ?_
                                simp only [go_sem, Nat.reduceAdd, Nat.reduceLT, Nat.reduceLeDiff, Nat.reduceEqDiff, Nat.reduceBEq, Nat.reduceBNe]
                                refine callX_ 10000 (w_ref13_at  hv54) (by first | rfl | simp only [go_sem]) ?_
                                simp only [go_sem, Nat.reduceAdd, Nat.reduceLT, Nat.reduceLeDiff, Nat.reduceEqDiff, Nat.reduceBEq, Nat.reduceBNe]
                                refine grd_ (fun hb55 => ?_) (fun hb55 => ?_)
                                · skip
                                  have h := ite_t hb55 h
                                  refine add_s h fun v57 _ e56 h => ?_
                                  simp only [go_sem, Nat.reduceAdd, Nat.reduceLT, Nat.reduceLeDiff, Nat.reduceEqDiff, Nat.reduceBEq, Nat.reduceBNe, e56]
                                  refine grd_ (fun hb58 => ?_) (fun hb58 => ?_)
                                  · skip
                                    have h := ite_t hb58 h
                                    refine sIdx_s .i64 h fun v62 _ b60 e61 h => ?_
                                    simp only [go_sem, Nat.reduceAdd, Nat.reduceLT, Nat.reduceLeDiff, Nat.reduceEqDiff, Nat.reduceBEq, Nat.reduceBNe, e56, b60, e61]
                                    obtain rfl := Option.some.inj h
                                    exact atJ (wkn (Jy52) ⟨rfl, rfl, rfl, rfl, rfl, rfl, trivial⟩)
                                  · skip
                                    have h := ite_f hb58 h
                                    simp only [go_sem, Nat.reduceAdd, Nat.reduceLT, Nat.reduceLeDiff, Nat.reduceEqDiff, Nat.reduceBEq, Nat.reduceBNe]
                                    obtain rfl := Option.some.inj h
                                    exact atJ (wkn (Jy52) ⟨rfl, rfl, rfl, rfl, rfl, rfl, trivial⟩)
                                · skip
                                  have h := ite_f hb55 h
                                  simp only [go_sem, Nat.reduceAdd, Nat.reduceLT, Nat.reduceLeDiff, Nat.reduceEqDiff, Nat.reduceBEq, Nat.reduceBNe]
                                  obtain rfl := Option.some.inj h
                                  exact atJ (wkn (Jy52) ⟨rfl, rfl, rfl, rfl, rfl, rfl, trivial⟩)
                        · clear h
                          have h := hy34
                          simp only [go_sem, Nat.reduceAdd, Nat.reduceLT, Nat.reduceLeDiff, Nat.reduceEqDiff, Nat.reduceBEq, Nat.reduceBNe]
                          refine lpJ 239 fuel (fun q3 w => ∀ (v36 : Int), ref13_Words_l3 s q3 v36 = some y34 → w [(0, .str s), (5, .sl (some none) (List.map enc_ref13_Word v3)), (6, .int .i64 v36), (7, .int .u8 v10), (8, .ptr 0 0), (9, .int .i64 v4)] [some [.int .u8 99, .str [], .int .i64 v4]]) (fun w _ h => nomatch h) (fun q3 ih3 v36 h => ?_) (fun L3 => ?_)
                          · unfold ref13_Words_l3 at h
                            refine runL 10000 ?_
                            simp only [go_sem, Nat.reduceAdd, Nat.reduceLT, Nat.reduceLeDiff, Nat.reduceEqDiff, Nat.reduceBEq, Nat.reduceBNe]
                            refine bsome h fun y37 hy37 h => ?_
                            refine rgJ 239 10000 (fun w => w [(0, .str s), (5, .sl (some none) (List.map enc_ref13_Word v3)), (6, .int .i64 v36), (7, .int .u8 v10), (8, .ptr 0 0), (9, .int .i64 v4), (84, .bool y37)] [some [.int .u8 99, .str [], .int .i64 v4]]) (runX 10000 ?_) (fun Jy37 => ?_)
                            · clear hy37
                              simp only [go_sem, Nat.reduceAdd, Nat.reduceLT, Nat.reduceLeDiff, Nat.reduceEqDiff, Nat.reduceBEq, Nat.reduceBNe]
                              refine cnd_s 10000 h (fun hb h => ?_) (fun hb h => ?_)
                              · skip
                                simp only [go_sem, Nat.reduceAdd, Nat.reduceLT, Nat.reduceLeDiff, Nat.reduceEqDiff, Nat.reduceBEq, Nat.reduceBNe]
                                refine blk_ 10000 ?_
                                refine add_s h fun v42 _ e41 h => ?_
                                simp only [go_sem, Nat.reduceAdd, Nat.reduceLT, Nat.reduceLeDiff, Nat.reduceEqDiff, Nat.reduceBEq, Nat.reduceBNe, e41]
                                exact lp_back (ih3 v42 h) ⟨rfl, rfl, rfl, rfl, rfl, rfl, trivial⟩
                              · skip
                                simp only [go_sem, Nat.reduceAdd, Nat.reduceLT, Nat.reduceLeDiff, Nat.reduceEqDiff, Nat.reduceBEq, Nat.reduceBNe]
                                obtain rfl := Option.some.inj h
                                exact atJ (wkn (Jy34) ⟨rfl, rfl, rfl, rfl, rfl, rfl, trivial⟩)
                            · clear h
                              have h := hy37
                              refine bsome h fun v39 hv39 h => ?_
                              simp only [go_sem, Nat.reduceAdd, Nat.reduceLT, Nat.reduceLeDiff, Nat.reduceEqDiff, Nat.reduceBEq, Nat.reduceBNe]
                              refine callX_ 10000 (w_ref13_at  hv39) (by first | rfl | simp only [go_sem]) ?_
                              simp only [go_sem, Nat.reduceAdd, Nat.reduceLT, Nat.reduceLeDiff, Nat.reduceEqDiff, Nat.reduceBEq, Nat.reduceBNe]
                              refine grd_ (fun hb40 => ?_) (fun hb40 => ?_)
                              · skip
                                have h := ite_f hb40 h
                                simp only [go_sem, Nat.reduceAdd, Nat.reduceLT, Nat.reduceLeDiff, Nat.reduceEqDiff, Nat.reduceBEq, Nat.reduceBNe]
                                refine callX_ 10000 (w_ref13_at  hv39) (by first | rfl | simp only [go_sem]) ?_
                                simp only [go_sem, Nat.reduceAdd, Nat.reduceLT, Nat.reduceLeDiff, Nat.reduceEqDiff, Nat.reduceBEq, Nat.reduceBNe]
                                obtain rfl := Option.some.inj h
                                exact atJ (wkn (Jy37) ⟨rfl, rfl, rfl, rfl, rfl, rfl, rfl, trivial⟩)
                              · skip
                                have h := ite_t hb40 h
                                simp only [go_sem, Nat.reduceAdd, Nat.reduceLT, Nat.reduceLeDiff, Nat.reduceEqDiff, Nat.reduceBEq, Nat.reduceBNe]
                                obtain rfl := Option.some.inj h
                                exact atJ (wkn (Jy37) ⟨rfl, rfl, rfl, rfl, rfl, rfl, rfl, trivial⟩)
                          · exact lp_back (L3 v12 h) ⟨rfl, rfl, rfl, rfl, rfl, rfl, trivial⟩
                      · skip
                        simp only [go_sem, Nat.reduceAdd, Nat.reduceLT, Nat.reduceLeDiff, Nat.reduceEqDiff, Nat.reduceBEq, Nat.reduceBNe]
                        refine bsome h fun y67 hy67 h => ?_
                        refine rgJ 239 10000 (fun w => w [(0, .str s), (5, .sl (some none) (List.map enc_ref13_Word v3)), (6, .int .i64 v12), (7, .int .u8 v10), (8, .ptr 0 0), (9, .int .i64 v4), (137, .bool y67)] [some [.int .u8 99, .str [], .int .i64 v4]]) (runX 10000 ?_) (fun Jy67 => ?_)
                        · clear hy67
                          simp only [go_sem, Nat.reduceAdd, Nat.reduceLT, Nat.reduceLeDiff, Nat.reduceEqDiff, Nat.reduceBEq, Nat.reduceBNe]
                          refine bsome h fun y74 hy74 h => ?_
                          refine cndJ 239 10000 (fun w => w [(0, .str s), (5, .sl (some none) (List.map enc_ref13_Word v3)), (6, .int .i64 y74.1), (8, .ptr 0 0), (9, .int .i64 v4)] [some [.int .u8 y74.2.K, .str y74.2.S, .int .i64 y74.2.At]]) (runX 10000 ?_) (fun Jy74 => ?_)
                          · clear hy74
                            simp only [go_sem, Nat.reduceAdd, Nat.reduceLT, Nat.reduceLeDiff, Nat.reduceEqDiff, Nat.reduceBEq, Nat.reduceBNe]
                            obtain rfl := Option.some.inj h
                            exact atJ (wkn (Jy32) ⟨rfl, rfl, rfl, rfl, rfl, trivial⟩)
                          · clear h
                            have h := hy74
                            refine cnd_s 10000 h (fun hb h => ?_) (fun hb h => ?_)
                            · skip
                              refine add_s h fun v77 _ e76 h => ?_
                              simp only [go_sem, Nat.reduceAdd, Nat.reduceLT, Nat.reduceLeDiff, Nat.reduceEqDiff, Nat.reduceBEq, Nat.reduceBNe, e76]
                              obtain rfl := Option.some.inj h
                              exact atJ (wkn (Jy74) ⟨rfl, rfl, rfl, rfl, rfl, trivial⟩)
                            · skip
                              simp only [go_sem, Nat.reduceAdd, Nat.reduceLT, Nat.reduceLeDiff, Nat.reduceEqDiff, Nat.reduceBEq, Nat.reduceBNe]
                              refine bsome h fun y78 hy78 h => ?_
                              refine cndJ 239 10000 (fun w => w [(0, .str s), (5, .sl (some none) (List.map enc_ref13_Word v3)), (6, .int .i64 y78.1), (8, .ptr 0 0), (9, .int .i64 v4)] [some [.int .u8 y78.2.K, .str y78.2.S, .int .i64 y78.2.At]]) (runX 10000 ?_) (fun Jy78 => ?_)
                              · clear hy78
                                simp only [go_sem, Nat.reduceAdd, Nat.reduceLT, Nat.reduceLeDiff, Nat.reduceEqDiff, Nat.reduceBEq, Nat.reduceBNe]
                                obtain rfl := Option.some.inj h
                                exact atJ (wkn (Jy74) ⟨rfl, rfl, rfl, rfl, rfl, trivial⟩)
                              · clear h
                                have h := hy78
                                refine cnd_s 10000 h (fun hb h => ?_) (fun hb h => ?_)
                                · skip
                                  simp only [go_sem, Nat.reduceAdd, Nat.reduceLT, Nat.reduceLeDiff, Nat.reduceEqDiff, Nat.reduceBEq, Nat.reduceBNe]
                                  refine bsome h fun y80 hy80 h => ?_
                                  refine blkJ 239 10000 (fun w => w [(0, .str s), (5, .sl (some none) (List.map enc_ref13_Word v3)), (6, .int .i64 y80), (8, .ptr 0 0), (9, .int .i64 v4)] [some [.int .u8 99, .str [], .int .i64 v4]]) (runX 10000 ?_) (fun Jy80 => ?_)
                                  · clear hy80
                                    refine subS_s (some (.int .i64 v4)) (some (.int .i64 y80)) rfl rfl h fun v88 _ b86 e87 h => ?_
                                    simp only [go_sem, Nat.reduceAdd, Nat.reduceLT, Nat.reduceLeDiff, Nat.reduceEqDiff, Nat.reduceBEq, Nat.reduceBNe, b86, e87]
                                    obtain rfl := Option.some.inj h
                                    exact atJ (wkn (Jy78) ⟨rfl, rfl, rfl, rfl, rfl, trivial⟩)
                                  · clear h
                                    have h := hy80
                                    simp only [go_sem, Nat.reduceAdd, Nat.reduceLT, Nat.reduceLeDiff, Nat.reduceEqDiff, Nat.reduceBEq, Nat.reduceBNe]
                                    refine lpJ 239 fuel (fun q4 w => ∀ (v82 : Int), ref13_Words_l4 s q4 v82 = some y80 → w [(0, .str s), (5, .sl (some none) (List.map enc_ref13_Word v3)), (6, .int .i64 v82), (8, .ptr 0 0), (9, .int .i64 v4)] [some [.int .u8 99, .str [], .int .i64 v4]]) (fun w _ h => nomatch h) (fun q4 ih4 v82 h => ?_) (fun L4 => ?_)
                                    · unfold ref13_Words_l4 at h
                                      refine runL 10000 ?_
                                      refine bsome h fun v83 hv83 h => ?_
                                      simp only [go_sem, Nat.reduceAdd, Nat.reduceLT, Nat.reduceLeDiff, Nat.reduceEqDiff, Nat.reduceBEq, Nat.reduceBNe]
                                      refine callX_ 10000 (w_ref13_at  hv83) (by first | rfl | simp only [go_sem]) ?_
                                      simp only [go_sem, Nat.reduceAdd, Nat.reduceLT, Nat.reduceLeDiff, Nat.reduceEqDiff, Nat.reduceBEq, Nat.reduceBNe]
                                      refine cnd_s 10000 h (fun hb h => ?_) (fun hb h => ?_)
                                      · skip
                                        simp only [go_sem, Nat.reduceAdd, Nat.reduceLT, Nat.reduceLeDiff, Nat.reduceEqDiff, Nat.reduceBEq, Nat.reduceBNe]
                                        refine blk_ 10000 ?_
                                        refine add_s h fun v85 _ e84 h => ?_
                                        simp only [go_sem, Nat.reduceAdd, Nat.reduceLT, Nat.reduceLeDiff, Nat.reduceEqDiff, Nat.reduceBEq, Nat.reduceBNe, e84]
                                        exact lp_back (ih4 v85 h) ⟨rfl, rfl, rfl, rfl, rfl, trivial⟩
                                      · skip
                                        simp only [go_sem, Nat.reduceAdd, Nat.reduceLT, Nat.reduceLeDiff, Nat.reduceEqDiff, Nat.reduceBEq, Nat.reduceBNe]
                                        obtain rfl := Option.some.inj h
                                        exact atJ (wkn (Jy80) ⟨rfl, rfl, rfl, rfl, rfl, trivial⟩)
                                    · exact lp_back (L4 v12 h) ⟨rfl, rfl, rfl, rfl, rfl, trivial⟩
                                · skip
                                  simp only [go_sem, Nat.reduceAdd, Nat.reduceLT, Nat.reduceLeDiff, Nat.reduceEqDiff, Nat.reduceBEq, Nat.reduceBNe]
                                  refine bsome h fun y89 hy89 h => ?_
                                  refine cndJ 239 10000 (fun w => w [(0, .str s), (5, .sl (some none) (List.map enc_ref13_Word v3)), (6, .int .i64 y89.1), (8, .ptr 0 0), (9, .int .i64 v4)] [some [.int .u8 y89.2.K, .str y89.2.S, .int .i64 y89.2.At]]) (runX 10000 ?_) (fun Jy89 => ?_)
                                  · clear hy89
                                    simp only [go_sem, Nat.reduceAdd, Nat.reduceLT, Nat.reduceLeDiff, Nat.reduceEqDiff, Nat.reduceBEq, Nat.reduceBNe]
                                    obtain rfl := Option.some.inj h
                                    exact atJ (wkn (Jy78) ⟨rfl, rfl, rfl, rfl, rfl, trivial⟩)
                                  · clear h
                                    have h := hy89
                                    refine cnd_s 10000 h (fun hb h => ?_) (fun hb h => ?_)
                                    · skip
                                      refine bsome h fun v91 hv91 h => ?_
                                      simp only [go_sem, Nat.reduceAdd, Nat.reduceLT, Nat.reduceLeDiff, Nat.reduceEqDiff, Nat.reduceBEq, Nat.reduceBNe]
                                      refine callX_ 10000 (w_ref13_at  hv91) (by first | rfl | simp only [go_sem]) ?_
                                      simp only [go_sem, Nat.reduceAdd, Nat.reduceLT, Nat.reduceLeDiff, Nat.reduceEqDiff, Nat.reduceBEq, Nat.reduceBNe]
                                      refine bsome h fun y92 hy92 h => ?_
                                      refine cndJ 239 10000 (fun w => w [(0, .str s), (5, .sl (some none) (List.map enc_ref13_Word v3)), (6, .int .i64 y92), (8, .ptr 0 0), (9, .int .i64 v4)] [some [.int .u8 99, .str [], .int .i64 v4]]) (runX 10000 ?_) (fun Jy92 => ?_)
                                      · clear hy92
                                        refine subS_s (some (.int .i64 v4)) (some (.int .i64 y92)) rfl rfl h fun v98 _ b96 e97 h => ?_
                                        simp only [go_sem, Nat.reduceAdd, Nat.reduceLT, Nat.reduceLeDiff, Nat.reduceEqDiff, Nat.reduceBEq, Nat.reduceBNe, b96, e97]
                                        obtain rfl := Option.some.inj h
                                        exact atJ (wkn (Jy89) ⟨rfl, rfl, rfl, rfl, rfl, trivial⟩)
                                      · clear h
                                        have h := hy92
                                        refine cnd_s 10000 h (fun hb h => ?_) (fun hb h => ?_)
                                        · skip
                                          refine add_s h fun v95 _ e94 h => ?_
                                          simp only [go_sem, Nat.reduceAdd, Nat.reduceLT, Nat.reduceLeDiff, Nat.reduceEqDiff, Nat.reduceBEq, Nat.reduceBNe, e94]
                                          obtain rfl := Option.some.inj h
                                          exact atJ (wkn (Jy92) ⟨rfl, rfl, rfl, rfl, rfl, trivial⟩)
                                        · skip
                                          simp only [go_sem, Nat.reduceAdd, Nat.reduceLT, Nat.reduceLeDiff, Nat.reduceEqDiff, Nat.reduceBEq, Nat.reduceBNe]
                                          obtain rfl := Option.some.inj h
                                          exact atJ (wkn (Jy92) ⟨rfl, rfl, rfl, rfl, rfl, trivial⟩)
                                    · skip
                                      simp only [go_sem, Nat.reduceAdd, Nat.reduceLT, Nat.reduceLeDiff, Nat.reduceEqDiff, Nat.reduceBEq, Nat.reduceBNe]
                                      refine bsome h fun y99 hy99 h => ?_
                                      refine cndJ 239 10000 (fun w => w [(0, .str s), (5, .sl (some none) (List.map enc_ref13_Word v3)), (6, .int .i64 y99.1), (8, .ptr 0 0), (9, .int .i64 v4)] [some [.int .u8 y99.2.K, .str y99.2.S, .int .i64 y99.2.At]]) (runX 10000 ?_) (fun Jy99 => ?_)
                                      · clear hy99
                                        simp only [go_sem, Nat.reduceAdd, Nat.reduceLT, Nat.reduceLeDiff, Nat.reduceEqDiff, Nat.reduceBEq, Nat.reduceBNe]
                                        obtain rfl := Option.some.inj h
                                        exact atJ (wkn (Jy89) ⟨rfl, rfl, rfl, rfl, rfl, trivial⟩)
                                      · clear h
                                        have h := hy99
                                        refine cnd_s 10000 h (fun hb h => ?_) (fun hb h => ?_)
                                        · skip
                                          simp only [go_sem, Nat.reduceAdd, Nat.reduceLT, Nat.reduceLeDiff, Nat.reduceEqDiff, Nat.reduceBEq, Nat.reduceBNe]
                                          refine bsome h fun y101 hy101 h => ?_
                                          refine blkJ 239 10000 (fun w => w [(0, .str s), (5, .sl (some none) (List.map enc_ref13_Word v3)), (6, .int .i64 y101.1), (8, .ptr 0 0), (9, .int .i64 v4), (10, .sl (some none) (List.map (AV.int .u8) y101.2))] [some [.int .u8 99, .str [], .int .i64 v4]]) (runX 10000 ?_) (fun Jy101 => ?_)
                                          · clear hy101
                                            simp only [go_sem, Nat.reduceAdd, Nat.reduceLT, Nat.reduceLeDiff, Nat.reduceEqDiff, Nat.reduceBEq, Nat.reduceBNe]
                                            refine bsome h fun y133 hy133 h => ?_
                                            refine cndJ 239 10000 (fun w => w [(0, .str s), (5, .sl (some none) (List.map enc_ref13_Word v3)), (6, .int .i64 y101.1), (8, .ptr 0 0), (9, .int .i64 v4)] [some [.int .u8 y133.K, .str y133.S, .int .i64 y133.At]]) (runX 10000 ?_) (fun Jy133 => ?_)
                                            · clear hy133
                                              refine add_s h fun v136 _ e135 h => ?_
                                              simp only [go_sem, Nat.reduceAdd, Nat.reduceLT, Nat.reduceLeDiff, Nat.reduceEqDiff, Nat.reduceBEq, Nat.reduceBNe, e135]
                                              obtain rfl := Option.some.inj h
                                              exact atJ (wkn (Jy99) ⟨rfl, rfl, rfl, rfl, rfl, trivial⟩)
                                            · clear h
                                              have h := hy133
                                              refine cnd_s 10000 h (fun hb h => ?_) (fun hb h => ?_)
                                              · skip
                                                simp only [go_sem, Nat.reduceAdd, Nat.reduceLT, Nat.reduceLeDiff, Nat.reduceEqDiff, Nat.reduceBEq, Nat.reduceBNe, (text_e (P := Tryd.prog) (s := 53) (d := 9) (by rw [kd9]; rfl) none y101.2), (isBytes_e y101.2)]
                                                obtain rfl := Option.some.inj h
                                                exact atJ (wkn (Jy133) ⟨rfl, rfl, rfl, rfl, rfl, trivial⟩)
                                              · skip
                                                simp only [go_sem, Nat.reduceAdd, Nat.reduceLT, Nat.reduceLeDiff, Nat.reduceEqDiff, Nat.reduceBEq, Nat.reduceBNe]
                                                obtain rfl := Option.some.inj h
                                                exact atJ (wkn (Jy133) ⟨rfl, rfl, rfl, rfl, rfl, trivial⟩)
                                          · clear h
                                            have h := hy101
                                            simp only [go_sem, Nat.reduceAdd, Nat.reduceLT, Nat.reduceLeDiff, Nat.reduceEqDiff, Nat.reduceBEq, Nat.reduceBNe]
                                            refine lpJ 239 fuel (fun q5 w => ∀ (v103 : Int) (v104 : (List Int)), ref13_Words_l5 s q5 v103 v104 = some y101 → w [(0, .str s), (5, .sl (some none) (List.map enc_ref13_Word v3)), (6, .int .i64 v103), (8, .ptr 0 0), (9, .int .i64 v4), (10, .sl (some none) (List.map (AV.int .u8) v104))] [some [.int .u8 99, .str [], .int .i64 v4]]) (fun w _ _ h => nomatch h) (fun q5 ih5 v103 v104 h => ?_) (fun L5 => ?_)
                                            · unfold ref13_Words_l5 at h
                                              refine runL 10000 ?_
                                              simp only [go_sem, Nat.reduceAdd, Nat.reduceLT, Nat.reduceLeDiff, Nat.reduceEqDiff, Nat.reduceBEq, Nat.reduceBNe]
                                              refine bsome h fun y105 hy105 h => ?_
                                              refine rgJ 239 10000 (fun w => w [(0, .str s), (5, .sl (some none) (List.map enc_ref13_Word v3)), (6, .int .i64 v103), (8, .ptr 0 0), (9, .int .i64 v4), (10, .sl (some none) (List.map (AV.int .u8) v104)), (194, .bool y105)] [some [.int .u8 99, .str [], .int .i64 v4]]) (runX 10000 ?_) (fun Jy105 => ?_)
                                              · clear hy105
                                                simp only [go_sem, Nat.reduceAdd, Nat.reduceLT, Nat.reduceLeDiff, Nat.reduceEqDiff, Nat.reduceBEq, Nat.reduceBNe]
                                                refine cnd_s 10000 h (fun hb h => ?_) (fun hb h => ?_)
                                                · skip
                                                  simp only [go_sem, Nat.reduceAdd, Nat.reduceLT, Nat.reduceLeDiff, Nat.reduceEqDiff, Nat.reduceBEq, Nat.reduceBNe]
                                                  refine blk_ 10000 ?_
                                                  refine sIdx_s .i64 h fun v121 _ b119 e120 h => ?_
                                                  refine app_s (AV.int .u8) (some none) ⟨5, 1, false, 1⟩ (fun _ => rfl) (by decide) rfl h fun v124 _ (b122 : appc ⟨5, 1, false, 1⟩ (.sl (some none) (List.map (AV.int .u8) v104)) (.sl (some none) [.int .u8 v121])) (e123 : appv (.sl (some none) (List.map (AV.int .u8) v104)) (.sl (some none) [.int .u8 v121]) = .sl (some none) (List.map (AV.int .u8) v124)) h => ?_
                                                  simp only [go_sem, Nat.reduceAdd, Nat.reduceLT, Nat.reduceLeDiff, Nat.reduceEqDiff, Nat.reduceBEq, Nat.reduceBNe, b119, e120, b122, e123]
                                                  refine bsome h fun y127 hy127 h => ?_
                                                  refine cndJ 239 10000 (fun w => w [(0, .str s), (5, .sl (some none) (List.map enc_ref13_Word v3)), (6, .int .i64 y127), (8, .ptr 0 0), (9, .int .i64 v4), (10, .sl (some none) (List.map (AV.int .u8) v124))] [some [.int .u8 99, .str [], .int .i64 v4]]) (runX 10000 ?_) (fun Jy127 => ?_)
                                                  · clear hy127
                                                    refine add_s h fun v132 _ e131 h => ?_
                                                    simp only [go_sem, Nat.reduceAdd, Nat.reduceLT, Nat.reduceLeDiff, Nat.reduceEqDiff, Nat.reduceBEq, Nat.reduceBNe, e131]
                                                    exact lp_back (ih5 v132 v124 h) ⟨rfl, rfl, rfl, rfl, rfl, rfl, trivial⟩
                                                  · clear h
                                                    have h := hy127
                                                    refine cnd_s 10000 h (fun hb h => ?_) (fun hb h => ?_)
                                                    · skip
                                                      refine add_s h fun v130 _ e129 h => ?_
                                                      simp only [go_sem, Nat.reduceAdd, Nat.reduceLT, Nat.reduceLeDiff, Nat.reduceEqDiff, Nat.reduceBEq, Nat.reduceBNe, e129]
                                                      obtain rfl := Option.some.inj h
                                                      exact atJ (wkn (Jy127) ⟨rfl, rfl, rfl, rfl, rfl, rfl, trivial⟩)
                                                    · skip
                                                      simp only [go_sem, Nat.reduceAdd, Nat.reduceLT, Nat.reduceLeDiff, Nat.reduceEqDiff, Nat.reduceBEq, Nat.reduceBNe]
                                                      obtain rfl := Option.some.inj h
                                                      exact atJ (wkn (Jy127) ⟨rfl, rfl, rfl, rfl, rfl, rfl, trivial⟩)
                                                · skip
                                                  simp only [go_sem, Nat.reduceAdd, Nat.reduceLT, Nat.reduceLeDiff, Nat.reduceEqDiff, Nat.reduceBEq, Nat.reduceBNe]
                                                  obtain rfl := Option.some.inj h
                                                  exact atJ (wkn (Jy101) ⟨rfl, rfl, rfl, rfl, rfl, rfl, trivial⟩)
                                              · clear h
                                                have h := hy105
                                                simp only [go_sem, Nat.reduceAdd, Nat.reduceLT, Nat.reduceLeDiff, Nat.reduceEqDiff, Nat.reduceBEq, Nat.reduceBNe]
                                                refine grd_ (fun hb107 => ?_) (fun hb107 => ?_)
                                                · skip
                                                  have h := ite_t hb107 h
                                                  refine sIdx_s .i64 h fun v110 _ b108 e109 h => ?_
                                                  simp only [go_sem, Nat.reduceAdd, Nat.reduceLT, Nat.reduceLeDiff, Nat.reduceEqDiff, Nat.reduceBEq, Nat.reduceBNe, b108, e109]
                                                  refine grd_ (fun hb111 => ?_) (fun hb111 => ?_)
                                                  · skip
                                                    have h := ite_f hb111 h
                                                    refine add_s h fun v113 _ e112 h => ?_
                                                    simp only [go_sem, Nat.reduceAdd, Nat.reduceLT, Nat.reduceLeDiff, Nat.reduceEqDiff, Nat.reduceBEq, Nat.reduceBNe, e112]
                                                    refine grd_ (fun hb114 => ?_) (fun hb114 => ?_)
                                                    · skip
                                                      have h := ite_t hb114 h
                                                      refine sIdx_s .i64 h fun v118 _ b116 e117 h => ?_
                                                      simp only [go_sem, Nat.reduceAdd, Nat.reduceLT, Nat.reduceLeDiff, Nat.reduceEqDiff, Nat.reduceBEq, Nat.reduceBNe, e112, b116, e117]
                                                      obtain rfl := Option.some.inj h
                                                      exact atJ (wkn (Jy105) ⟨rfl, rfl, rfl, rfl, rfl, rfl, rfl, trivial⟩)
                                                    · skip
                                                      have h := ite_f hb114 h
                                                      simp only [go_sem, Nat.reduceAdd, Nat.reduceLT, Nat.reduceLeDiff, Nat.reduceEqDiff, Nat.reduceBEq, Nat.reduceBNe]
                                                      obtain rfl := Option.some.inj h
                                                      exact atJ (wkn (Jy105) ⟨rfl, rfl, rfl, rfl, rfl, rfl, rfl, trivial⟩)
                                                  · skip
                                                    have h := ite_t hb111 h
                                                    simp only [go_sem, Nat.reduceAdd, Nat.reduceLT, Nat.reduceLeDiff, Nat.reduceEqDiff, Nat.reduceBEq, Nat.reduceBNe]
                                                    obtain rfl := Option.some.inj h
                                                    exact atJ (wkn (Jy105) ⟨rfl, rfl, rfl, rfl, rfl, rfl, rfl, trivial⟩)
                                                · skip
                                                  have h := ite_f hb107 h
                                                  simp only [go_sem, Nat.reduceAdd, Nat.reduceLT, Nat.reduceLeDiff, Nat.reduceEqDiff, Nat.reduceBEq, Nat.reduceBNe]
                                                  obtain rfl := Option.some.inj h
                                                  exact atJ (wkn (Jy105) ⟨rfl, rfl, rfl, rfl, rfl, rfl, rfl, trivial⟩)
                                            · exact lp_back (L5 v12 [] h) ⟨rfl, rfl, rfl, rfl, rfl, rfl, trivial⟩
                                        · skip
                                          simp only [go_sem, Nat.reduceAdd, Nat.reduceLT, Nat.reduceLeDiff, Nat.reduceEqDiff, Nat.reduceBEq, Nat.reduceBNe]
                                          refine bsome h fun y137 hy137 h => ?_
                                          refine blkJ 239 10000 (fun w => w [(0, .str s), (5, .sl (some none) (List.map enc_ref13_Word v3)), (6, .int .i64 v12), (8, .ptr 0 0), (9, .int .i64 v4)] [some [.int .u8 y137, .str [], .int .i64 v4]]) (runX 10000 ?_) (fun Jy137 => ?_)
                                          · clear hy137
                                            simp only [go_sem, Nat.reduceAdd, Nat.reduceLT, Nat.reduceLeDiff, Nat.reduceEqDiff, Nat.reduceBEq, Nat.reduceBNe]
                                            obtain rfl := Option.some.inj h
                                            exact atJ (wkn (Jy99) ⟨rfl, rfl, rfl, rfl, rfl, trivial⟩)
                                          · clear h
                                            have h := hy137
                                            simp only [go_sem, Nat.reduceAdd, Nat.reduceLT, Nat.reduceLeDiff, Nat.reduceEqDiff, Nat.reduceBEq, Nat.reduceBNe]
                                            refine lpJ 239 fuel (fun q6 w => ∀ (v145 : Int) (v146 : Int), ref13_Words_l6 v10 q6 v145 v146 = some y137 → w [(0, .str s), (5, .sl (some none) (List.map enc_ref13_Word v3)), (6, .int .i64 v12), (7, .int .u8 v10), (8, .ptr 0 0), (9, .int .i64 v4), (11, .int .i64 v145)] [some [.int .u8 v146, .str [], .int .i64 v4]]) (fun w _ _ h => nomatch h) (fun q6 ih6 v145 v146 h => ?_) (fun L6 => ?_)
                                            · unfold ref13_Words_l6 at h
                                              refine runL 10000 ?_
                                              simp only [go_sem, Nat.reduceAdd, Nat.reduceLT, Nat.reduceLeDiff, Nat.reduceEqDiff, Nat.reduceBEq, Nat.reduceBNe]
                                              refine cnd_s 10000 h (fun hb h => ?_) (fun hb h => ?_)
                                              · skip
                                                simp only [go_sem, Nat.reduceAdd, Nat.reduceLT, Nat.reduceLeDiff, Nat.reduceEqDiff, Nat.reduceBEq, Nat.reduceBNe]
                                                refine blk_ 10000 ?_
                                                refine bsome h fun v147 hv147 h => ?_
                                                simp only [go_sem, Nat.reduceAdd, Nat.reduceLT, Nat.reduceLeDiff, Nat.reduceEqDiff, Nat.reduceBEq, Nat.reduceBNe]
                                                refine callX_ 10000 (w_ref13_Mark  hv147) (by first | rfl | simp only [go_sem]) ?_
                                                simp only [go_sem, Nat.reduceAdd, Nat.reduceLT, Nat.reduceLeDiff, Nat.reduceEqDiff, Nat.reduceBEq, Nat.reduceBNe]
                                                refine bsome h fun y148 hy148 h => ?_
                                                refine cndJ 239 10000 (fun w => w [(0, .str s), (5, .sl (some none) (List.map enc_ref13_Word v3)), (6, .int .i64 v12), (7, .int .u8 v10), (8, .ptr 0 0), (9, .int .i64 v4), (11, .int .i64 v145)] [some [.int .u8 y148, .str [], .int .i64 v4]]) (runX 10000 ?_) (fun Jy148 => ?_)
                                                · clear hy148
                                                  refine add_s h fun v151 _ e150 h => ?_
                                                  simp only [go_sem, Nat.reduceAdd, Nat.reduceLT, Nat.reduceLeDiff, Nat.reduceEqDiff, Nat.reduceBEq, Nat.reduceBNe, e150]
                                                  exact lp_back (ih6 v151 y148 h) ⟨rfl, rfl, rfl, rfl, rfl, rfl, rfl, trivial⟩
                                                · clear h
                                                  have h := hy148
                                                  refine cnd_s 10000 h (fun hb h => ?_) (fun hb h => ?_)
                                                  · skip
                                                    simp only [go_sem, Nat.reduceAdd, Nat.reduceLT, Nat.reduceLeDiff, Nat.reduceEqDiff, Nat.reduceBEq, Nat.reduceBNe, (cvw_e (s := 3) (k := .i64) io5 v145)]
                                                    obtain rfl := Option.some.inj h
                                                    exact atJ (wkn (Jy148) ⟨rfl, rfl, rfl, rfl, rfl, rfl, rfl, trivial⟩)
                                                  · skip
                                                    simp only [go_sem, Nat.reduceAdd, Nat.reduceLT, Nat.reduceLeDiff, Nat.reduceEqDiff, Nat.reduceBEq, Nat.reduceBNe]
                                                    obtain rfl := Option.some.inj h
                                                    exact atJ (wkn (Jy148) ⟨rfl, rfl, rfl, rfl, rfl, rfl, rfl, trivial⟩)
                                              · skip
                                                simp only [go_sem, Nat.reduceAdd, Nat.reduceLT, Nat.reduceLeDiff, Nat.reduceEqDiff, Nat.reduceBEq, Nat.reduceBNe]
                                                obtain rfl := Option.some.inj h
                                                exact atJ (wkn (Jy137) ⟨rfl, rfl, rfl, rfl, rfl, trivial⟩)
                                            · exact lp_back (L6 7 99 h) ⟨rfl, rfl, rfl, rfl, rfl, rfl, rfl, trivial⟩
                        · clear h
                          have h := hy67
                          simp only [go_sem, Nat.reduceAdd, Nat.reduceLT, Nat.reduceLeDiff, Nat.reduceEqDiff, Nat.reduceBEq, Nat.reduceBNe]
                          refine grd_ (fun hb69 => ?_) (fun hb69 => ?_)
                          · skip
                            have h := ite_t hb69 h
                            simp only [go_sem, Nat.reduceAdd, Nat.reduceLT, Nat.reduceLeDiff, Nat.reduceEqDiff, Nat.reduceBEq, Nat.reduceBNe]
                            refine grd_ (fun hb70 => ?_) (fun hb70 => ?_)
                            · skip
                              have h := ite_t hb70 h
                              refine sIdx_s .i64 h fun v73 _ b71 e72 h => ?_
                              simp only [go_sem, Nat.reduceAdd, Nat.reduceLT, Nat.reduceLeDiff, Nat.reduceEqDiff, Nat.reduceBEq, Nat.reduceBNe, b71, e72]
                              obtain rfl := Option.some.inj h
                              exact atJ (wkn (Jy67) ⟨rfl, rfl, rfl, rfl, rfl, rfl, rfl, trivial⟩)
                            · skip
                              have h := ite_f hb70 h
                              simp only [go_sem, Nat.reduceAdd, Nat.reduceLT, Nat.reduceLeDiff, Nat.reduceEqDiff, Nat.reduceBEq, Nat.reduceBNe]
                              obtain rfl := Option.some.inj h
                              exact atJ (wkn (Jy67) ⟨rfl, rfl, rfl, rfl, rfl, rfl, rfl, trivial⟩)
                          · skip
                            have h := ite_f hb69 h
                            simp only [go_sem, Nat.reduceAdd, Nat.reduceLT, Nat.reduceLeDiff, Nat.reduceEqDiff, Nat.reduceBEq, Nat.reduceBNe]
                            obtain rfl := Option.some.inj h
                            exact atJ (wkn (Jy67) ⟨rfl, rfl, rfl, rfl, rfl, rfl, rfl, trivial⟩)
                  · clear h
                    have h := hy27
                    simp only [go_sem, Nat.reduceAdd, Nat.reduceLT, Nat.reduceLeDiff, Nat.reduceEqDiff, Nat.reduceBEq, Nat.reduceBNe]
                    refine grd_ (fun hb29 => ?_) (fun hb29 => ?_)
                    · skip
                      have h := ite_f hb29 h
                      simp only [go_sem, Nat.reduceAdd, Nat.reduceLT, Nat.reduceLeDiff, Nat.reduceEqDiff, Nat.reduceBEq, Nat.reduceBNe]
                      refine grd_ (fun hb30 => ?_) (fun hb30 => ?_)
                      · skip
                        have h := ite_t hb30 h
                        refine bsome h fun v31 hv31 h => ?_
                        simp only [go_sem, Nat.reduceAdd, Nat.reduceLT, Nat.reduceLeDiff, Nat.reduceEqDiff, Nat.reduceBEq, Nat.reduceBNe]
                        refine callX_ 10000 (w_ref13_at  hv31) (by first | rfl | simp only [go_sem]) ?_
                        simp only [go_sem, Nat.reduceAdd, Nat.reduceLT, Nat.reduceLeDiff, Nat.reduceEqDiff, Nat.reduceBEq, Nat.reduceBNe]
                        obtain rfl := Option.some.inj h
                        exact atJ (wkn (Jy27) ⟨rfl, rfl, rfl, rfl, rfl, rfl, rfl, trivial⟩)
                      · skip
                        have h := ite_f hb30 h
                        simp only [go_sem, Nat.reduceAdd, Nat.reduceLT, Nat.reduceLeDiff, Nat.reduceEqDiff, Nat.reduceBEq, Nat.reduceBNe]
                        obtain rfl := Option.some.inj h
                        exact atJ (wkn (Jy27) ⟨rfl, rfl, rfl, rfl, rfl, rfl, rfl, trivial⟩)
                    · skip
                      have h := ite_t hb29 h
                      simp only [go_sem, Nat.reduceAdd, Nat.reduceLT, Nat.reduceLeDiff, Nat.reduceEqDiff, Nat.reduceBEq, Nat.reduceBNe]
                      obtain rfl := Option.some.inj h
                      exact atJ (wkn (Jy27) ⟨rfl, rfl, rfl, rfl, rfl, rfl, rfl, trivial⟩)
            · skip
              simp only [go_sem, Nat.reduceAdd, Nat.reduceLT, Nat.reduceLeDiff, Nat.reduceEqDiff, Nat.reduceBEq, Nat.reduceBNe]
              refine grd_ (fun hb156 => ?_) (fun hb156 => ?_)
              · skip
                simp only [go_sem, Nat.reduceAdd, Nat.reduceLT, Nat.reduceLeDiff, Nat.reduceEqDiff, Nat.reduceBEq, Nat.reduceBNe]
                refine grd_ (fun hb157 => ?_) (fun hb157 => ?_)
                · skip
                  simp only [go_sem, Nat.reduceAdd, Nat.reduceLT, Nat.reduceLeDiff, Nat.reduceEqDiff, Nat.reduceBEq, Nat.reduceBNe]
                  refine grd_ (fun hb158 => ?_) (fun hb158 => ?_)
                  · skip
                    simp only [go_sem, Nat.reduceAdd, Nat.reduceLT, Nat.reduceLeDiff, Nat.reduceEqDiff, Nat.reduceBEq, Nat.reduceBNe]
                    exact atJ (wkn Jg13 ⟨rfl, rfl, rfl, rfl, rfl, rfl, congrArg AV.bool (by first | rfl | (rw [hb156, hb157, hb158]; rfl) | (simp [hb156, hb157, hb158]; done) | simp_all), trivial⟩)
                  · skip
                    simp only [go_sem, Nat.reduceAdd, Nat.reduceLT, Nat.reduceLeDiff, Nat.reduceEqDiff, Nat.reduceBEq, Nat.reduceBNe]
                    exact atJ (wkn Jg13 ⟨rfl, rfl, rfl, rfl, rfl, rfl, congrArg AV.bool (by first | rfl | (rw [hb156, hb157, hb158]; rfl) | (simp [hb156, hb157, hb158]; done) | simp_all), trivial⟩)
                · skip
                  simp only [go_sem, Nat.reduceAdd, Nat.reduceLT, Nat.reduceLeDiff, Nat.reduceEqDiff, Nat.reduceBEq, Nat.reduceBNe]
                  exact atJ (wkn Jg13 ⟨rfl, rfl, rfl, rfl, rfl, rfl, congrArg AV.bool (by first | rfl | (rw [hb156, hb157]; rfl) | (simp [hb156, hb157]; done) | simp_all), trivial⟩)
              · skip
                simp only [go_sem, Nat.reduceAdd, Nat.reduceLT, Nat.reduceLeDiff, Nat.reduceEqDiff, Nat.reduceBEq, Nat.reduceBNe]
                exact atJ (wkn Jg13 ⟨rfl, rfl, rfl, rfl, rfl, rfl, congrArg AV.bool (by first | rfl | (rw [hb156]; rfl) | (simp [hb156]; done) | simp_all), trivial⟩)
        · skip
          simp only [go_sem, Nat.reduceAdd, Nat.reduceLT, Nat.reduceLeDiff, Nat.reduceEqDiff, Nat.reduceBEq, Nat.reduceBNe]
          exact atJ (wkn (JK2 v3 h) ⟨rfl, trivial⟩)
      · exact lp_back (L1 [] 0 h) ⟨rfl, rfl, rfl, trivial⟩
theorem w_ref13_One {p0_w : ref13_Word}   {r : (List Int)} (h : ref13_One p0_w = some r) : ACall Tryd.prog 30 [enc_ref13_Word p0_w] [] (.sl none (List.map (AV.int .u8) r)) [] := by
  refine acallX 10000 hf30 ok30 (by first | rfl | simp only [go_sem]) meek_sl ?_
  dsimp only [Tryd.f30, nums, Option.getD, List.append]
  unfold ref13_One at h
  simp only [go_sem, Nat.reduceAdd, Nat.reduceLT, Nat.reduceLeDiff, Nat.reduceEqDiff, Nat.reduceBEq, Nat.reduceBNe]
  refine cnd_s 10000 h (fun hb h => ?_) (fun hb h => ?_)
  · skip
    refine bytesO_s h fun v3 b1 e2 h => ?_
    refine app_s (AV.int .u8) (some none) ⟨5, 1, false, 1⟩ (fun _ => rfl) (by decide) rfl h fun v6 _ (b4 : appc ⟨5, 1, false, 1⟩ (.sl (some none) (List.map (AV.int .u8) v3)) (.sl (some none) [.int .u8 58])) (e5 : appv (.sl (some none) (List.map (AV.int .u8) v3)) (.sl (some none) [.int .u8 58]) = .sl (some none) (List.map (AV.int .u8) v6)) h => ?_
    simp only [go_sem, Nat.reduceAdd, Nat.reduceLT, Nat.reduceLeDiff, Nat.reduceEqDiff, Nat.reduceBEq, Nat.reduceBNe, (bytes_e (P := Tryd.prog) (s := 9) (d := 53) (by rw [kd53]; rfl) (by rw [kd53]; rfl) p0_w.S), b1, e2, ne_eq, not_false_eq_true, b4, e5]
    refine ret_s (fun x => .sl none (List.map (AV.int .u8) x)) h ?_
    first | rfl | simp only [go_sem, resAV, resAll, resOne]
  · skip
    simp only [go_sem, Nat.reduceAdd, Nat.reduceLT, Nat.reduceLeDiff, Nat.reduceEqDiff, Nat.reduceBEq, Nat.reduceBNe]
    refine cnd_s 10000 h (fun hb h => ?_) (fun hb h => ?_)
    · skip
      refine app_s (AV.int .u8) none ⟨5, 1, false, 1⟩ (fun _ => rfl) (by decide) rfl h fun v9 _ (b7 : appc ⟨5, 1, false, 1⟩ (.sl (some none) [.int .u8 58]) (.sl none (List.map (AV.int .u8) (toInts p0_w.S)))) (e8 : appv (.sl (some none) [.int .u8 58]) (.sl none (List.map (AV.int .u8) (toInts p0_w.S))) = .sl (some none) (List.map (AV.int .u8) v9)) h => ?_
      simp only [go_sem, Nat.reduceAdd, Nat.reduceLT, Nat.reduceLeDiff, Nat.reduceEqDiff, Nat.reduceBEq, Nat.reduceBNe, (bytes_e (P := Tryd.prog) (s := 9) (d := 53) (by rw [kd53]; rfl) (by rw [kd53]; rfl) p0_w.S), b7, e8]
      refine ret_s (fun x => .sl none (List.map (AV.int .u8) x)) h ?_
      first | rfl | simp only [go_sem, resAV, resAll, resOne]
    · skip
      simp only [go_sem, Nat.reduceAdd, Nat.reduceLT, Nat.reduceLeDiff, Nat.reduceEqDiff, Nat.reduceBEq, Nat.reduceBNe]
      refine cnd_s 10000 h (fun hb h => ?_) (fun hb h => ?_)
      · skip
        simp only [go_sem, Nat.reduceAdd, Nat.reduceLT, Nat.reduceLeDiff, Nat.reduceEqDiff, Nat.reduceBEq, Nat.reduceBNe]
        refine ret_s (fun x => .sl none (List.map (AV.int .u8) x)) h ?_
        first | rfl | simp only [go_sem, resAV, resAll, resOne]
      · skip
        simp only [go_sem, Nat.reduceAdd, Nat.reduceLT, Nat.reduceLeDiff, Nat.reduceEqDiff, Nat.reduceBEq, Nat.reduceBNe]
        refine cnd_s 10000 h (fun hb h => ?_) (fun hb h => ?_)
        · skip
          refine cvt_s (s := 5) (k := .u8) io3 h fun v11 _ e10 h => ?_
          refine bsome h fun v12 hv12 h => ?_
          simp only [go_sem, Nat.reduceAdd, Nat.reduceLT, Nat.reduceLeDiff, Nat.reduceEqDiff, Nat.reduceBEq, Nat.reduceBNe, e10]
          refine callX_ 10000 (w_ref13_Mark  hv12) (by first | rfl | simp only [go_sem]) ?_
          simp only [go_sem, Nat.reduceAdd, Nat.reduceLT, Nat.reduceLeDiff, Nat.reduceEqDiff, Nat.reduceBEq, Nat.reduceBNe]
          refine ret_s (fun x => .sl none (List.map (AV.int .u8) x)) h ?_
          first | rfl | simp only [go_sem, resAV, resAll, resOne]
        · skip
          simp only [go_sem, Nat.reduceAdd, Nat.reduceLT, Nat.reduceLeDiff, Nat.reduceEqDiff, Nat.reduceBEq, Nat.reduceBNe]
          refine cnd_s 10000 h (fun hb h => ?_) (fun hb h => ?_)
          · skip
            simp only [go_sem, Nat.reduceAdd, Nat.reduceLT, Nat.reduceLeDiff, Nat.reduceEqDiff, Nat.reduceBEq, Nat.reduceBNe]
            refine bsome h fun y13 hy13 h => ?_
            refine blkJ 65 10000 (fun w => w [(3, .sl (some none) (List.map (AV.int .u8) y13))] [some [.int .u8 p0_w.K, .str p0_w.S, .int .i64 p0_w.At]]) (runX 10000 ?_) (fun Jy13 => ?_)
            · clear hy13
              refine app_s (AV.int .u8) (some none) ⟨5, 1, false, 1⟩ (fun _ => rfl) (by decide) rfl h fun v34 _ (b32 : appc ⟨5, 1, false, 1⟩ (.sl (some none) (List.map (AV.int .u8) y13)) (.sl (some none) [.int .u8 39])) (e33 : appv (.sl (some none) (List.map (AV.int .u8) y13)) (.sl (some none) [.int .u8 39]) = .sl (some none) (List.map (AV.int .u8) v34)) h => ?_
              simp only [go_sem, Nat.reduceAdd, Nat.reduceLT, Nat.reduceLeDiff, Nat.reduceEqDiff, Nat.reduceBEq, Nat.reduceBNe, b32, e33]
              refine ret_s (fun x => .sl none (List.map (AV.int .u8) x)) h ?_
              first | rfl | simp only [go_sem, resAV, resAll, resOne]
            · clear h
              have h := hy13
              simp only [go_sem, Nat.reduceAdd, Nat.reduceLT, Nat.reduceLeDiff, Nat.reduceEqDiff, Nat.reduceBEq, Nat.reduceBNe]
              refine lpJ 65 fuel (fun q1 w => ∀ (v15 : (List Int)) (v16 : Int), ref13_One_l1 p0_w q1 v15 v16 = some y13 → w [(1, .ptr 0 0), (3, .sl (some none) (List.map (AV.int .u8) v15)), (4, .int .i64 v16)] [some [.int .u8 p0_w.K, .str p0_w.S, .int .i64 p0_w.At]]) (fun w _ _ h => nomatch h) (fun q1 ih1 v15 v16 h => ?_) (fun L1 => ?_)
              · unfold ref13_One_l1 at h
                refine runL 10000 ?_
                simp only [go_sem, Nat.reduceAdd, Nat.reduceLT, Nat.reduceLeDiff, Nat.reduceEqDiff, Nat.reduceBEq, Nat.reduceBNe]
                refine cnd_s 10000 h (fun hb h => ?_) (fun hb h => ?_)
                · skip
                  simp only [go_sem, Nat.reduceAdd, Nat.reduceLT, Nat.reduceLeDiff, Nat.reduceEqDiff, Nat.reduceBEq, Nat.reduceBNe]
                  refine blk_ 10000 ?_
                  refine sIdx_s .i64 h fun v19 _ b17 e18 h => ?_
                  refine app_s (AV.int .u8) (some none) ⟨5, 1, false, 1⟩ (fun _ => rfl) (by decide) rfl h fun v22 _ (b20 : appc ⟨5, 1, false, 1⟩ (.sl (some none) (List.map (AV.int .u8) v15)) (.sl (some none) [.int .u8 v19])) (e21 : appv (.sl (some none) (List.map (AV.int .u8) v15)) (.sl (some none) [.int .u8 v19]) = .sl (some none) (List.map (AV.int .u8) v22)) h => ?_
                  simp only [go_sem, Nat.reduceAdd, Nat.reduceLT, Nat.reduceLeDiff, Nat.reduceEqDiff, Nat.reduceBEq, Nat.reduceBNe, b17, e18, b20, e21]
                  refine bsome h fun y25 hy25 h => ?_
                  refine cndJ 65 10000 (fun w => w [(1, .ptr 0 0), (3, .sl (some none) (List.map (AV.int .u8) y25)), (4, .int .i64 v16)] [some [.int .u8 p0_w.K, .str p0_w.S, .int .i64 p0_w.At]]) (runX 10000 ?_) (fun Jy25 => ?_)
                  · clear hy25
                    refine add_s h fun v31 _ e30 h => ?_
                    simp only [go_sem, Nat.reduceAdd, Nat.reduceLT, Nat.reduceLeDiff, Nat.reduceEqDiff, Nat.reduceBEq, Nat.reduceBNe, e30]
                    exact lp_back (ih1 y25 v31 h) ⟨rfl, rfl, rfl, trivial⟩
                  · clear h
                    have h := hy25
                    refine cnd_s 10000 h (fun hb h => ?_) (fun hb h => ?_)
                    · skip
                      refine app_s (AV.int .u8) (some none) ⟨5, 1, false, 1⟩ (fun _ => rfl) (by decide) rfl h fun v29 _ (b27 : appc ⟨5, 1, false, 1⟩ (.sl (some none) (List.map (AV.int .u8) v22)) (.sl (some none) [.int .u8 39])) (e28 : appv (.sl (some none) (List.map (AV.int .u8) v22)) (.sl (some none) [.int .u8 39]) = .sl (some none) (List.map (AV.int .u8) v29)) h => ?_
                      simp only [go_sem, Nat.reduceAdd, Nat.reduceLT, Nat.reduceLeDiff, Nat.reduceEqDiff, Nat.reduceBEq, Nat.reduceBNe, b27, e28]
                      obtain rfl := Option.some.inj h
                      exact atJ (wkn (Jy25) ⟨rfl, rfl, rfl, trivial⟩)
                    · skip
                      simp only [go_sem, Nat.reduceAdd, Nat.reduceLT, Nat.reduceLeDiff, Nat.reduceEqDiff, Nat.reduceBEq, Nat.reduceBNe]
                      obtain rfl := Option.some.inj h
                      exact atJ (wkn (Jy25) ⟨rfl, rfl, rfl, trivial⟩)
                · skip
                  simp only [go_sem, Nat.reduceAdd, Nat.reduceLT, Nat.reduceLeDiff, Nat.reduceEqDiff, Nat.reduceBEq, Nat.reduceBNe]
                  obtain rfl := Option.some.inj h
                  exact atJ (wkn (Jy13) ⟨rfl, trivial⟩)
              · exact lp_back (L1 ([39] : List Int) 0 h) ⟨rfl, rfl, rfl, trivial⟩
          · skip
            simp only [go_sem, Nat.reduceAdd, Nat.reduceLT, Nat.reduceLeDiff, Nat.reduceEqDiff, Nat.reduceBEq, Nat.reduceBNe, (bytes_e (P := Tryd.prog) (s := 9) (d := 53) (by rw [kd53]; rfl) (by rw [kd53]; rfl) p0_w.S)]
            refine ret_s (fun x => .sl none (List.map (AV.int .u8) x)) h ?_
            first | rfl | simp only [go_sem, resAV, resAll, resOne]
theorem w_ref13_Text {l : (List ref13_Word)}   {r : (Str × Int)} (h : ref13_Text l = some r) : ACall Tryd.prog 16 [.sl none (List.map enc_ref13_Word l)] [] (.tup [.str r.1, .int .i64 r.2]) [] := by
  refine acallX 10000 hf16 ok16 (by first | rfl | simp only [go_sem]) meek_tup ?_
  dsimp only [Tryd.f16, nums, Option.getD, List.append]
  unfold ref13_Text at h
  simp only [go_sem, Nat.reduceAdd, Nat.reduceLT, Nat.reduceLeDiff, Nat.reduceEqDiff, Nat.reduceBEq, Nat.reduceBNe]
  refine letK_s h fun K2 hK2 h => ?_
  refine blkJ 47 10000 (fun w => K2 () = some r → w [(0, .sl none (List.map enc_ref13_Word l))] []) (fun  h => runX 10000 ?_) (fun JK2 => ?_)
  · subst hK2
    dsimp only at h
    simp only [go_sem, Nat.reduceAdd, Nat.reduceLT, Nat.reduceLeDiff, Nat.reduceEqDiff, Nat.reduceBEq, Nat.reduceBNe]
    refine bsome h fun y10 hy10 h => ?_
    refine blkJ 47 10000 (fun w => w [(5, .sl (some none) (List.map (AV.int .u8) y10))] []) (runX 10000 ?_) (fun Jy10 => ?_)
    · clear hy10
      simp only [go_sem, Nat.reduceAdd, Nat.reduceLT, Nat.reduceLeDiff, Nat.reduceEqDiff, Nat.reduceBEq, Nat.reduceBNe]
      refine cnd_s 10000 h (fun hb h => ?_) (fun hb h => ?_)
      · skip
        simp only [go_sem, Nat.reduceAdd, Nat.reduceLT, Nat.reduceLeDiff, Nat.reduceEqDiff, Nat.reduceBEq, Nat.reduceBNe]
        refine ret_s (fun x => .tup [.str x.1, .int .i64 x.2]) h ?_
        first | rfl | simp only [go_sem, resAV, resAll, resOne]
      · skip
        simp only [go_sem, Nat.reduceAdd, Nat.reduceLT, Nat.reduceLeDiff, Nat.reduceEqDiff, Nat.reduceBEq, Nat.reduceBNe, (text_e (P := Tryd.prog) (s := 53) (d := 9) (by rw [kd9]; rfl) none y10), (isBytes_e y10)]
        refine ret_s (fun x => .tup [.str x.1, .int .i64 x.2]) h ?_
        first | rfl | simp only [go_sem, resAV, resAll, resOne]
    · clear h
      have h := hy10
      simp only [go_sem, Nat.reduceAdd, Nat.reduceLT, Nat.reduceLeDiff, Nat.reduceEqDiff, Nat.reduceBEq, Nat.reduceBNe]
      refine lpJ 47 fuel (fun q2 w => ∀ (v12 : (List Int)) (v13 : Int), ref13_Text_l2 l q2 v12 v13 = some y10 → w [(0, .sl none (List.map enc_ref13_Word l)), (5, .sl (some none) (List.map (AV.int .u8) v12)), (6, .int .i64 v13)] []) (fun w _ _ h => nomatch h) (fun q2 ih2 v12 v13 h => ?_) (fun L2 => ?_)
      · unfold ref13_Text_l2 at h
        refine runL 10000 ?_
        simp only [go_sem, Nat.reduceAdd, Nat.reduceLT, Nat.reduceLeDiff, Nat.reduceEqDiff, Nat.reduceBEq, Nat.reduceBNe]
        refine rgJ 47 10000 (fun w => w [(0, .sl none (List.map enc_ref13_Word l)), (5, .sl (some none) (List.map (AV.int .u8) v12)), (6, .int .i64 v13), (27, .bool ((decide (v13 < (l.length : Int))) && (decide ((v12.length : Int) ≤ 65536))))] []) (runX 10000 ?_) (fun Jg14 => ?_)
        · skip
          simp only [go_sem, Nat.reduceAdd, Nat.reduceLT, Nat.reduceLeDiff, Nat.reduceEqDiff, Nat.reduceBEq, Nat.reduceBNe]
          refine cnd_s 10000 h (fun hb h => ?_) (fun hb h => ?_)
          · skip
            simp only [go_sem, Nat.reduceAdd, Nat.reduceLT, Nat.reduceLeDiff, Nat.reduceEqDiff, Nat.reduceBEq, Nat.reduceBNe]
            refine blk_ 10000 ?_
            simp only [go_sem, Nat.reduceAdd, Nat.reduceLT, Nat.reduceLeDiff, Nat.reduceEqDiff, Nat.reduceBEq, Nat.reduceBNe]
            refine bsome h fun y15 hy15 h => ?_
            refine cndJ 47 10000 (fun w => w [(0, .sl none (List.map enc_ref13_Word l)), (5, .sl (some none) (List.map (AV.int .u8) y15)), (6, .int .i64 v13)] []) (runX 10000 ?_) (fun Jy15 => ?_)
            · clear hy15
              refine lAt_s enc_ref13_Word none .i64 ⟨35, 3, true, 32⟩ (fun _ => rfl) h fun v22 _ b20 e21 h => ?_
              refine bsome h fun v23 hv23 h => ?_
              simp only [go_sem, Nat.reduceAdd, Nat.reduceLT, Nat.reduceLeDiff, Nat.reduceEqDiff, Nat.reduceBEq, Nat.reduceBNe, b20, e21]
              refine callX_ 10000 (w_ref13_One  hv23) (by first | rfl | simp only [go_sem]) ?_
              refine app_s (AV.int .u8) none ⟨5, 1, false, 1⟩ (fun _ => rfl) (by decide) rfl h fun v26 _ b24 e25 h => ?_
              refine add_s h fun v28 _ e27 h => ?_
              simp only [go_sem, Nat.reduceAdd, Nat.reduceLT, Nat.reduceLeDiff, Nat.reduceEqDiff, Nat.reduceBEq, Nat.reduceBNe, b24, e25, e27]
              exact lp_back (ih2 v26 v28 h) ⟨rfl, rfl, rfl, trivial⟩
            · clear h
              have h := hy15
              refine cnd_s 10000 h (fun hb h => ?_) (fun hb h => ?_)
              · skip
                refine app_s (AV.int .u8) (some none) ⟨5, 1, false, 1⟩ (fun _ => rfl) (by decide) rfl h fun v19 _ (b17 : appc ⟨5, 1, false, 1⟩ (.sl (some none) (List.map (AV.int .u8) v12)) (.sl (some none) [.int .u8 32])) (e18 : appv (.sl (some none) (List.map (AV.int .u8) v12)) (.sl (some none) [.int .u8 32]) = .sl (some none) (List.map (AV.int .u8) v19)) h => ?_
                simp only [go_sem, Nat.reduceAdd, Nat.reduceLT, Nat.reduceLeDiff, Nat.reduceEqDiff, Nat.reduceBEq, Nat.reduceBNe, b17, e18]
                obtain rfl := Option.some.inj h
                exact atJ (wkn (Jy15) ⟨rfl, rfl, rfl, trivial⟩)
              · skip
                simp only [go_sem, Nat.reduceAdd, Nat.reduceLT, Nat.reduceLeDiff, Nat.reduceEqDiff, Nat.reduceBEq, Nat.reduceBNe]
                obtain rfl := Option.some.inj h
                exact atJ (wkn (Jy15) ⟨rfl, rfl, rfl, trivial⟩)
          · skip
            simp only [go_sem, Nat.reduceAdd, Nat.reduceLT, Nat.reduceLeDiff, Nat.reduceEqDiff, Nat.reduceBEq, Nat.reduceBNe]
            obtain rfl := Option.some.inj h
            exact atJ (wkn (Jy10) ⟨rfl, trivial⟩)
        · skip
          simp only [go_sem, Nat.reduceAdd, Nat.reduceLT, Nat.reduceLeDiff, Nat.reduceEqDiff, Nat.reduceBEq, Nat.reduceBNe]
          refine grd_ (fun hb29 => ?_) (fun hb29 => ?_)
          · skip
            simp only [go_sem, Nat.reduceAdd, Nat.reduceLT, Nat.reduceLeDiff, Nat.reduceEqDiff, Nat.reduceBEq, Nat.reduceBNe]
            exact atJ (wkn Jg14 ⟨rfl, rfl, rfl, congrArg AV.bool (by first | rfl | (rw [hb29]; rfl) | (simp [hb29]; done) | simp_all), trivial⟩)
          · skip
            simp only [go_sem, Nat.reduceAdd, Nat.reduceLT, Nat.reduceLeDiff, Nat.reduceEqDiff, Nat.reduceBEq, Nat.reduceBNe]
            exact atJ (wkn Jg14 ⟨rfl, rfl, rfl, congrArg AV.bool (by first | rfl | (rw [hb29]; rfl) | (simp [hb29]; done) | simp_all), trivial⟩)
      · exact lp_back (L2 [] 0 h) ⟨rfl, rfl, rfl, trivial⟩
  · clear hK2
    simp only [go_sem, Nat.reduceAdd, Nat.reduceLT, Nat.reduceLeDiff, Nat.reduceEqDiff, Nat.reduceBEq, Nat.reduceBNe]
    refine lpJ 47 fuel (fun q1 w => ∀ (v3 : Int), ref13_Text_l1 l K2 q1 v3 = some r → w [(0, .sl none (List.map enc_ref13_Word l)), (4, .int .i64 v3)] []) (fun w _ h => nomatch h) (fun q1 ih1 v3 h => ?_) (fun L1 => ?_)
    · unfold ref13_Text_l1 at h
      refine runL 10000 ?_
      simp only [go_sem, Nat.reduceAdd, Nat.reduceLT, Nat.reduceLeDiff, Nat.reduceEqDiff, Nat.reduceBEq, Nat.reduceBNe]
      refine cnd_s 10000 h (fun hb h => ?_) (fun hb h => ?_)
      · skip
        simp only [go_sem, Nat.reduceAdd, Nat.reduceLT, Nat.reduceLeDiff, Nat.reduceEqDiff, Nat.reduceBEq, Nat.reduceBNe]
        refine blk_ 10000 ?_
        refine lAt_s enc_ref13_Word none .i64 ⟨35, 3, true, 32⟩ (fun _ => rfl) h fun v6 _ b4 e5 h => ?_
        refine bsome h fun v7 hv7 h => ?_
        simp only [go_sem, Nat.reduceAdd, Nat.reduceLT, Nat.reduceLeDiff, Nat.reduceEqDiff, Nat.reduceBEq, Nat.reduceBNe, b4, e5]
        refine callX_ 10000 (w_ref13_May  hv7) (by first | rfl | simp only [go_sem]) ?_
        simp only [go_sem, Nat.reduceAdd, Nat.reduceLT, Nat.reduceLeDiff, Nat.reduceEqDiff, Nat.reduceBEq, Nat.reduceBNe]
        refine cnd_s 10000 h (fun hb h => ?_) (fun hb h => ?_)
        · skip
          simp only [go_sem, Nat.reduceAdd, Nat.reduceLT, Nat.reduceLeDiff, Nat.reduceEqDiff, Nat.reduceBEq, Nat.reduceBNe]
          refine ret_s (fun x => .tup [.str x.1, .int .i64 x.2]) h ?_
          first | rfl | simp only [go_sem, resAV, resAll, resOne]
        · skip
          refine add_s h fun v9 _ e8 h => ?_
          simp only [go_sem, Nat.reduceAdd, Nat.reduceLT, Nat.reduceLeDiff, Nat.reduceEqDiff, Nat.reduceBEq, Nat.reduceBNe, e8]
          exact lp_back (ih1 v9 h) ⟨rfl, rfl, trivial⟩
      · skip
        simp only [go_sem, Nat.reduceAdd, Nat.reduceLT, Nat.reduceLeDiff, Nat.reduceEqDiff, Nat.reduceBEq, Nat.reduceBNe]
        exact atJ (wkn (JK2  h) ⟨rfl, trivial⟩)
    · exact lp_back (L1 0 h) ⟨rfl, rfl, trivial⟩
theorem w_law13_sure    {r : Bool} (h : law13_sure  = some r) : ACall Tryd.prog 7 [] [] (.bool r) [] := by
  refine acallX 10000 hf7 ok7 (by first | rfl | simp only [go_sem]) meek_bool ?_
  dsimp only [Tryd.f7, nums, Option.getD, List.append]
  unfold law13_sure at h
  refine bsome h fun v1 hv1 h => ?_
  simp only [go_sem, Nat.reduceAdd, Nat.reduceLT, Nat.reduceLeDiff, Nat.reduceEqDiff, Nat.reduceBEq, Nat.reduceBNe]
  refine callX_ 10000 (w_lex_Words  hv1) (by first | rfl | simp only [go_sem]) ?_
  refine bsome h fun v2 hv2 h => ?_
  simp only [go_sem, Nat.reduceAdd, Nat.reduceLT, Nat.reduceLeDiff, Nat.reduceEqDiff, Nat.reduceBEq, Nat.reduceBNe]
  refine callX_ 10000 (w_lex_Words  hv2) (by first | rfl | simp only [go_sem]) ?_
  refine bsome h fun v3 hv3 h => ?_
  simp only [go_sem, Nat.reduceAdd, Nat.reduceLT, Nat.reduceLeDiff, Nat.reduceEqDiff, Nat.reduceBEq, Nat.reduceBNe]
  refine callX_ 10000 (w_lex_Text  hv3) (by first | rfl | simp only [go_sem]) ?_
  refine bsome h fun v4 hv4 h => ?_
  simp only [go_sem, Nat.reduceAdd, Nat.reduceLT, Nat.reduceLeDiff, Nat.reduceEqDiff, Nat.reduceBEq, Nat.reduceBNe]
  refine callX_ 10000 (w_lex_Text  hv4) (by first | rfl | simp only [go_sem]) ?_
  simp only [go_sem, Nat.reduceAdd, Nat.reduceLT, Nat.reduceLeDiff, Nat.reduceEqDiff, Nat.reduceBEq, Nat.reduceBNe]
  refine bsome h fun y5 hy5 h => ?_
  refine rgJ 128 10000 (fun w => w [(0, .bool y5)] []) (runX 10000 ?_) (fun Jy5 => ?_)
  · clear hy5
    simp only [go_sem, Nat.reduceAdd, Nat.reduceLT, Nat.reduceLeDiff, Nat.reduceEqDiff, Nat.reduceBEq, Nat.reduceBNe]
    refine ret_s (fun x => .bool x) h ?_
    first | rfl | simp only [go_sem, resAV, resAll, resOne]
  · clear h
    have h := hy5
    simp only [go_sem, Nat.reduceAdd, Nat.reduceLT, Nat.reduceLeDiff, Nat.reduceEqDiff, Nat.reduceBEq, Nat.reduceBNe]
    refine grd_ (fun hb7 => ?_) (fun hb7 => ?_)
    · skip
      have h := ite_t hb7 h
      simp only [go_sem, Nat.reduceAdd, Nat.reduceLT, Nat.reduceLeDiff, Nat.reduceEqDiff, Nat.reduceBEq, Nat.reduceBNe]
      refine grd_ (fun hb8 => ?_) (fun hb8 => ?_)
      · skip
        have h := ite_t hb8 h
        simp only [go_sem, Nat.reduceAdd, Nat.reduceLT, Nat.reduceLeDiff, Nat.reduceEqDiff, Nat.reduceBEq, Nat.reduceBNe]
        refine grd_ (fun hb9 => ?_) (fun hb9 => ?_)
        · skip
          have h := ite_t hb9 h
          refine lAt_s enc_lex_Word none .i64 ⟨37, 3, true, 32⟩ (fun _ => rfl) h fun v12 _ b10 e11 h => ?_
          simp only [go_sem, Nat.reduceAdd, Nat.reduceLT, Nat.reduceLeDiff, Nat.reduceEqDiff, Nat.reduceBEq, Nat.reduceBNe, b10, e11]
          refine grd_ (fun hb13 => ?_) (fun hb13 => ?_)
          · skip
            have h := ite_t hb13 h
            refine lAt_s enc_lex_Word none .i64 ⟨37, 3, true, 32⟩ (fun _ => rfl) h fun v16 _ b14 e15 h => ?_
            simp only [go_sem, Nat.reduceAdd, Nat.reduceLT, Nat.reduceLeDiff, Nat.reduceEqDiff, Nat.reduceBEq, Nat.reduceBNe, b14, e15]
            refine grd_ (fun hb17 => ?_) (fun hb17 => ?_)
            · skip
              have h := ite_t hb17 h
              refine lAt_s enc_lex_Word none .i64 ⟨37, 3, true, 32⟩ (fun _ => rfl) h fun v20 _ b18 e19 h => ?_
              simp only [go_sem, Nat.reduceAdd, Nat.reduceLT, Nat.reduceLeDiff, Nat.reduceEqDiff, Nat.reduceBEq, Nat.reduceBNe, b18, e19]
              refine grd_ (fun hb21 => ?_) (fun hb21 => ?_)
              · skip
                have h := ite_t hb21 h
                refine lAt_s enc_lex_Word none .i64 ⟨37, 3, true, 32⟩ (fun _ => rfl) h fun v24 _ b22 e23 h => ?_
                simp only [go_sem, Nat.reduceAdd, Nat.reduceLT, Nat.reduceLeDiff, Nat.reduceEqDiff, Nat.reduceBEq, Nat.reduceBNe, b22, e23]
                refine grd_ (fun hb25 => ?_) (fun hb25 => ?_)
                · skip
                  have h := ite_t hb25 h
                  refine lAt_s enc_lex_Word none .i64 ⟨37, 3, true, 32⟩ (fun _ => rfl) h fun v28 _ b26 e27 h => ?_
                  simp only [go_sem, Nat.reduceAdd, Nat.reduceLT, Nat.reduceLeDiff, Nat.reduceEqDiff, Nat.reduceBEq, Nat.reduceBNe, b26, e27]
                  refine grd_ (fun hb29 => ?_) (fun hb29 => ?_)
                  · skip
                    have h := ite_t hb29 h
                    refine lAt_s enc_lex_Word none .i64 ⟨37, 3, true, 32⟩ (fun _ => rfl) h fun v32 _ b30 e31 h => ?_
                    simp only [go_sem, Nat.reduceAdd, Nat.reduceLT, Nat.reduceLeDiff, Nat.reduceEqDiff, Nat.reduceBEq, Nat.reduceBNe, b30, e31]
                    refine grd_ (fun hb33 => ?_) (fun hb33 => ?_)
                    · skip
                      have h := ite_t hb33 h
                      refine lAt_s enc_lex_Word none .i64 ⟨37, 3, true, 32⟩ (fun _ => rfl) h fun v36 _ b34 e35 h => ?_
                      simp only [go_sem, Nat.reduceAdd, Nat.reduceLT, Nat.reduceLeDiff, Nat.reduceEqDiff, Nat.reduceBEq, Nat.reduceBNe, b34, e35]
                      refine grd_ (fun hb37 => ?_) (fun hb37 => ?_)
                      · skip
                        have h := ite_t hb37 h
                        refine bsome h fun v38 hv38 h => ?_
                        simp only [go_sem, Nat.reduceAdd, Nat.reduceLT, Nat.reduceLeDiff, Nat.reduceEqDiff, Nat.reduceBEq, Nat.reduceBNe]
                        refine callX_ 10000 (w_law_num  hv38) (by first | rfl | simp only [go_sem]) ?_
                        simp only [go_sem, Nat.reduceAdd, Nat.reduceLT, Nat.reduceLeDiff, Nat.reduceEqDiff, Nat.reduceBEq, Nat.reduceBNe]
                        refine grd_ (fun hb39 => ?_) (fun hb39 => ?_)
                        · skip
                          have h := ite_t hb39 h
                          simp only [go_sem, Nat.reduceAdd, Nat.reduceLT, Nat.reduceLeDiff, Nat.reduceEqDiff, Nat.reduceBEq, Nat.reduceBNe]
                          refine grd_ (fun hb40 => ?_) (fun hb40 => ?_)
                          · skip
                            have h := ite_t hb40 h
                            simp only [go_sem, Nat.reduceAdd, Nat.reduceLT, Nat.reduceLeDiff, Nat.reduceEqDiff, Nat.reduceBEq, Nat.reduceBNe]
                            refine grd_ (fun hb41 => ?_) (fun hb41 => ?_)
                            · skip
                              have h := ite_t hb41 h
                              simp only [go_sem, Nat.reduceAdd, Nat.reduceLT, Nat.reduceLeDiff, Nat.reduceEqDiff, Nat.reduceBEq, Nat.reduceBNe]
                              refine grd_ (fun hb42 => ?_) (fun hb42 => ?_)
                              · skip
                                have h := ite_t hb42 h
                                refine bsome h fun v43 hv43 h => ?_
                                simp only [go_sem, Nat.reduceAdd, Nat.reduceLT, Nat.reduceLeDiff, Nat.reduceEqDiff, Nat.reduceBEq, Nat.reduceBNe]
                                refine callX_ 10000 (w_law_num  hv43) (by first | rfl | simp only [go_sem]) ?_
                                simp only [go_sem, Nat.reduceAdd, Nat.reduceLT, Nat.reduceLeDiff, Nat.reduceEqDiff, Nat.reduceBEq, Nat.reduceBNe]
                                refine grd_ (fun hb44 => ?_) (fun hb44 => ?_)
                                · skip
                                  have h := ite_t hb44 h
                                  refine bsome h fun v47 hv47 h => ?_
                                  simp only [go_sem, Nat.reduceAdd, Nat.reduceLT, Nat.reduceLeDiff, Nat.reduceEqDiff, Nat.reduceBEq, Nat.reduceBNe, b10, e11]
                                  refine callX_ 10000 (w_lex_May  hv47) (by first | rfl | simp only [go_sem]) ?_
                                  simp only [go_sem, Nat.reduceAdd, Nat.reduceLT, Nat.reduceLeDiff, Nat.reduceEqDiff, Nat.reduceBEq, Nat.reduceBNe]
                                  refine grd_ (fun hb48 => ?_) (fun hb48 => ?_)
                                  · skip
                                    have h := ite_t hb48 h
                                    refine bsome h fun v49 hv49 h => ?_
                                    simp only [go_sem, Nat.reduceAdd, Nat.reduceLT, Nat.reduceLeDiff, Nat.reduceEqDiff, Nat.reduceBEq, Nat.reduceBNe]
                                    refine callX_ 10000 (w_lex_May  hv49) (by first | rfl | simp only [go_sem]) ?_
                                    simp only [go_sem, Nat.reduceAdd, Nat.reduceLT, Nat.reduceLeDiff, Nat.reduceEqDiff, Nat.reduceBEq, Nat.reduceBNe]
                                    obtain rfl := Option.some.inj h
                                    exact atJ (wkn (Jy5) ⟨rfl, trivial⟩)
                                  · skip
                                    have h := ite_f hb48 h
                                    simp only [go_sem, Nat.reduceAdd, Nat.reduceLT, Nat.reduceLeDiff, Nat.reduceEqDiff, Nat.reduceBEq, Nat.reduceBNe]
                                    obtain rfl := Option.some.inj h
                                    exact atJ (wkn (Jy5) ⟨rfl, trivial⟩)
                                · skip
                                  have h := ite_f hb44 h
                                  simp only [go_sem, Nat.reduceAdd, Nat.reduceLT, Nat.reduceLeDiff, Nat.reduceEqDiff, Nat.reduceBEq, Nat.reduceBNe]
                                  obtain rfl := Option.some.inj h
                                  exact atJ (wkn (Jy5) ⟨rfl, trivial⟩)
                              · skip
                                have h := ite_f hb42 h
                                simp only [go_sem, Nat.reduceAdd, Nat.reduceLT, Nat.reduceLeDiff, Nat.reduceEqDiff, Nat.reduceBEq, Nat.reduceBNe]
                                obtain rfl := Option.some.inj h
                                exact atJ (wkn (Jy5) ⟨rfl, trivial⟩)
                            · skip
                              have h := ite_f hb41 h
                              simp only [go_sem, Nat.reduceAdd, Nat.reduceLT, Nat.reduceLeDiff, Nat.reduceEqDiff, Nat.reduceBEq, Nat.reduceBNe]
                              obtain rfl := Option.some.inj h
                              exact atJ (wkn (Jy5) ⟨rfl, trivial⟩)
                          · skip
                            have h := ite_f hb40 h
                            simp only [go_sem, Nat.reduceAdd, Nat.reduceLT, Nat.reduceLeDiff, Nat.reduceEqDiff, Nat.reduceBEq, Nat.reduceBNe]
                            obtain rfl := Option.some.inj h
                            exact atJ (wkn (Jy5) ⟨rfl, trivial⟩)
                        · skip
                          have h := ite_f hb39 h
                          simp only [go_sem, Nat.reduceAdd, Nat.reduceLT, Nat.reduceLeDiff, Nat.reduceEqDiff, Nat.reduceBEq, Nat.reduceBNe]
                          obtain rfl := Option.some.inj h
                          exact atJ (wkn (Jy5) ⟨rfl, trivial⟩)
                      · skip
                        have h := ite_f hb37 h
                        simp only [go_sem, Nat.reduceAdd, Nat.reduceLT, Nat.reduceLeDiff, Nat.reduceEqDiff, Nat.reduceBEq, Nat.reduceBNe]
                        obtain rfl := Option.some.inj h
                        exact atJ (wkn (Jy5) ⟨rfl, trivial⟩)
                    · skip
                      have h := ite_f hb33 h
                      simp only [go_sem, Nat.reduceAdd, Nat.reduceLT, Nat.reduceLeDiff, Nat.reduceEqDiff, Nat.reduceBEq, Nat.reduceBNe]
                      obtain rfl := Option.some.inj h
                      exact atJ (wkn (Jy5) ⟨rfl, trivial⟩)
                  · skip
                    have h := ite_f hb29 h
                    simp only [go_sem, Nat.reduceAdd, Nat.reduceLT, Nat.reduceLeDiff, Nat.reduceEqDiff, Nat.reduceBEq, Nat.reduceBNe]
                    obtain rfl := Option.some.inj h
                    exact atJ (wkn (Jy5) ⟨rfl, trivial⟩)
                · skip
                  have h := ite_f hb25 h
                  simp only [go_sem, Nat.reduceAdd, Nat.reduceLT, Nat.reduceLeDiff, Nat.reduceEqDiff, Nat.reduceBEq, Nat.reduceBNe]
                  obtain rfl := Option.some.inj h
                  exact atJ (wkn (Jy5) ⟨rfl, trivial⟩)
              · skip
                have h := ite_f hb21 h
                simp only [go_sem, Nat.reduceAdd, Nat.reduceLT, Nat.reduceLeDiff, Nat.reduceEqDiff, Nat.reduceBEq, Nat.reduceBNe]
                obtain rfl := Option.some.inj h
                exact atJ (wkn (Jy5) ⟨rfl, trivial⟩)
            · skip
              have h := ite_f hb17 h
              simp only [go_sem, Nat.reduceAdd, Nat.reduceLT, Nat.reduceLeDiff, Nat.reduceEqDiff, Nat.reduceBEq, Nat.reduceBNe]
              obtain rfl := Option.some.inj h
              exact atJ (wkn (Jy5) ⟨rfl, trivial⟩)
          · skip
            have h := ite_f hb13 h
            simp only [go_sem, Nat.reduceAdd, Nat.reduceLT, Nat.reduceLeDiff, Nat.reduceEqDiff, Nat.reduceBEq, Nat.reduceBNe]
            obtain rfl := Option.some.inj h
            exact atJ (wkn (Jy5) ⟨rfl, trivial⟩)
        · skip
          have h := ite_f hb9 h
          simp only [go_sem, Nat.reduceAdd, Nat.reduceLT, Nat.reduceLeDiff, Nat.reduceEqDiff, Nat.reduceBEq, Nat.reduceBNe]
          obtain rfl := Option.some.inj h
          exact atJ (wkn (Jy5) ⟨rfl, trivial⟩)
      · skip
        have h := ite_f hb8 h
        simp only [go_sem, Nat.reduceAdd, Nat.reduceLT, Nat.reduceLeDiff, Nat.reduceEqDiff, Nat.reduceBEq, Nat.reduceBNe]
        obtain rfl := Option.some.inj h
        exact atJ (wkn (Jy5) ⟨rfl, trivial⟩)
    · skip
      have h := ite_f hb7 h
      simp only [go_sem, Nat.reduceAdd, Nat.reduceLT, Nat.reduceLeDiff, Nat.reduceEqDiff, Nat.reduceBEq, Nat.reduceBNe]
      obtain rfl := Option.some.inj h
      exact atJ (wkn (Jy5) ⟨rfl, trivial⟩)
theorem w_law13_areWords {a : (List lex_Word)} {p1_b : (List ref13_Word)}   {r : Bool} (h : law13_areWords a p1_b = some r) : ACall Tryd.prog 11 [.sl none (List.map enc_lex_Word a), .sl none (List.map enc_ref13_Word p1_b)] [] (.bool r) [] := by
  refine acallX 10000 hf11 ok11 (by first | rfl | simp only [go_sem]) meek_bool ?_
  dsimp only [Tryd.f11, nums, Option.getD, List.append]
  unfold law13_areWords at h
  simp only [go_sem, Nat.reduceAdd, Nat.reduceLT, Nat.reduceLeDiff, Nat.reduceEqDiff, Nat.reduceBEq, Nat.reduceBNe]
  refine cnd_s 10000 h (fun hb h => ?_) (fun hb h => ?_)
  · skip
    simp only [go_sem, Nat.reduceAdd, Nat.reduceLT, Nat.reduceLeDiff, Nat.reduceEqDiff, Nat.reduceBEq, Nat.reduceBNe]
    refine ret_s (fun x => .bool x) h ?_
    first | rfl | simp only [go_sem, resAV, resAll, resOne]
  · skip
    simp only [go_sem, Nat.reduceAdd, Nat.reduceLT, Nat.reduceLeDiff, Nat.reduceEqDiff, Nat.reduceBEq, Nat.reduceBNe]
    refine letK_s h fun K2 hK2 h => ?_
    refine blkJ 26 10000 (fun w => K2 () = some r → w [] []) (fun  h => runX 10000 ?_) (fun JK2 => ?_)
    · subst hK2
      dsimp only at h
      simp only [go_sem, Nat.reduceAdd, Nat.reduceLT, Nat.reduceLeDiff, Nat.reduceEqDiff, Nat.reduceBEq, Nat.reduceBNe]
      refine ret_s (fun x => .bool x) h ?_
      first | rfl | simp only [go_sem, resAV, resAll, resOne]
    · clear hK2
      simp only [go_sem, Nat.reduceAdd, Nat.reduceLT, Nat.reduceLeDiff, Nat.reduceEqDiff, Nat.reduceBEq, Nat.reduceBNe]
      refine lpJ 26 fuel (fun q1 w => ∀ (v3 : Int), law13_areWords_l1 a p1_b K2 q1 v3 = some r → w [(0, .sl none (List.map enc_lex_Word a)), (1, .sl none (List.map enc_ref13_Word p1_b)), (5, .int .i64 v3)] []) (fun w _ h => nomatch h) (fun q1 ih1 v3 h => ?_) (fun L1 => ?_)
      · unfold law13_areWords_l1 at h
        refine runL 10000 ?_
        simp only [go_sem, Nat.reduceAdd, Nat.reduceLT, Nat.reduceLeDiff, Nat.reduceEqDiff, Nat.reduceBEq, Nat.reduceBNe]
        refine cnd_s 10000 h (fun hb h => ?_) (fun hb h => ?_)
        · skip
          simp only [go_sem, Nat.reduceAdd, Nat.reduceLT, Nat.reduceLeDiff, Nat.reduceEqDiff, Nat.reduceBEq, Nat.reduceBNe]
          refine blk_ 10000 ?_
          refine lAt_s enc_lex_Word none .i64 ⟨37, 3, true, 32⟩ (fun _ => rfl) h fun v6 _ b4 e5 h => ?_
          refine lAt_s enc_ref13_Word none .i64 ⟨35, 3, true, 32⟩ (fun _ => rfl) h fun v9 _ b7 e8 h => ?_
          simp only [go_sem, Nat.reduceAdd, Nat.reduceLT, Nat.reduceLeDiff, Nat.reduceEqDiff, Nat.reduceBEq, Nat.reduceBNe, b4, e5, b7, e8]
          refine cnd_s 10000 h (fun hb h => ?_) (fun hb h => ?_)
          · skip
            simp only [go_sem, Nat.reduceAdd, Nat.reduceLT, Nat.reduceLeDiff, Nat.reduceEqDiff, Nat.reduceBEq, Nat.reduceBNe]
            refine ret_s (fun x => .bool x) h ?_
            first | rfl | simp only [go_sem, resAV, resAll, resOne]
          · skip
            refine add_s h fun v11 _ e10 h => ?_
            simp only [go_sem, Nat.reduceAdd, Nat.reduceLT, Nat.reduceLeDiff, Nat.reduceEqDiff, Nat.reduceBEq, Nat.reduceBNe, e10]
            exact lp_back (ih1 v11 h) ⟨rfl, rfl, rfl, trivial⟩
        · skip
          simp only [go_sem, Nat.reduceAdd, Nat.reduceLT, Nat.reduceLeDiff, Nat.reduceEqDiff, Nat.reduceBEq, Nat.reduceBNe]
          exact atJ (wkn (JK2  h) trivial)
      · exact lp_back (L1 0 h) ⟨rfl, rfl, rfl, trivial⟩
theorem w_law13_LexReads {s : Str}   {r : Bool} (h : law13_LexReads s = some r) : ACall Tryd.prog 3 [.str s] [] (.bool r) [] := by
  refine acallX 10000 hf3 ok3 (by first | rfl | simp only [go_sem]) meek_bool ?_
  dsimp only [Tryd.f3, nums, Option.getD, List.append]
  unfold law13_LexReads at h
  simp only [go_sem, Nat.reduceAdd, Nat.reduceLT, Nat.reduceLeDiff, Nat.reduceEqDiff, Nat.reduceBEq, Nat.reduceBNe]
  refine cnd_s 10000 h (fun hb h => ?_) (fun hb h => ?_)
  · skip
    refine bsome h fun v1 hv1 h => ?_
    simp only [go_sem, Nat.reduceAdd, Nat.reduceLT, Nat.reduceLeDiff, Nat.reduceEqDiff, Nat.reduceBEq, Nat.reduceBNe]
    refine callX_ 10000 (w_law13_sure  hv1) (by first | rfl | simp only [go_sem]) ?_
    simp only [go_sem, Nat.reduceAdd, Nat.reduceLT, Nat.reduceLeDiff, Nat.reduceEqDiff, Nat.reduceBEq, Nat.reduceBNe]
    refine ret_s (fun x => .bool x) h ?_
    first | rfl | simp only [go_sem, resAV, resAll, resOne]
  · skip
    refine bsome h fun v2 hv2 h => ?_
    simp only [go_sem, Nat.reduceAdd, Nat.reduceLT, Nat.reduceLeDiff, Nat.reduceEqDiff, Nat.reduceBEq, Nat.reduceBNe]
    refine callX_ 10000 (w_lex_Words  hv2) (by first | rfl | simp only [go_sem]) ?_
    refine bsome h fun v3 hv3 h => ?_
    simp only [go_sem, Nat.reduceAdd, Nat.reduceLT, Nat.reduceLeDiff, Nat.reduceEqDiff, Nat.reduceBEq, Nat.reduceBNe]
    refine callX_ 10000 (w_ref13_Words  hv3) (by first | rfl | simp only [go_sem]) ?_
    simp only [go_sem, Nat.reduceAdd, Nat.reduceLT, Nat.reduceLeDiff, Nat.reduceEqDiff, Nat.reduceBEq, Nat.reduceBNe]
    refine bsome h fun y4 hy4 h => ?_
    refine rgJ 42 10000 (fun w => w [(2, .bool y4)] []) (runX 10000 ?_) (fun Jy4 => ?_)
    · clear hy4
      simp only [go_sem, Nat.reduceAdd, Nat.reduceLT, Nat.reduceLeDiff, Nat.reduceEqDiff, Nat.reduceBEq, Nat.reduceBNe]
      refine ret_s (fun x => .bool x) h ?_
      first | rfl | simp only [go_sem, resAV, resAll, resOne]
    · clear h
      have h := hy4
      refine bsome h fun v6 hv6 h => ?_
      simp only [go_sem, Nat.reduceAdd, Nat.reduceLT, Nat.reduceLeDiff, Nat.reduceEqDiff, Nat.reduceBEq, Nat.reduceBNe]
      refine callX_ 10000 (w_law_num  hv6) (by first | rfl | simp only [go_sem]) ?_
      simp only [go_sem, Nat.reduceAdd, Nat.reduceLT, Nat.reduceLeDiff, Nat.reduceEqDiff, Nat.reduceBEq, Nat.reduceBNe]
      refine grd_ (fun hb7 => ?_) (fun hb7 => ?_)
      · skip
        have h := ite_t hb7 h
        simp only [go_sem, Nat.reduceAdd, Nat.reduceLT, Nat.reduceLeDiff, Nat.reduceEqDiff, Nat.reduceBEq, Nat.reduceBNe]
        refine grd_ (fun hb8 => ?_) (fun hb8 => ?_)
        · skip
          have h := ite_t hb8 h
          refine bsome h fun v9 hv9 h => ?_
          simp only [go_sem, Nat.reduceAdd, Nat.reduceLT, Nat.reduceLeDiff, Nat.reduceEqDiff, Nat.reduceBEq, Nat.reduceBNe]
          refine callX_ 10000 (w_law13_areWords  hv9) (by first | rfl | simp only [go_sem]) ?_
          simp only [go_sem, Nat.reduceAdd, Nat.reduceLT, Nat.reduceLeDiff, Nat.reduceEqDiff, Nat.reduceBEq, Nat.reduceBNe]
          refine grd_ (fun hb10 => ?_) (fun hb10 => ?_)
          · skip
            have h := ite_t hb10 h
            refine bsome h fun v11 hv11 h => ?_
            simp only [go_sem, Nat.reduceAdd, Nat.reduceLT, Nat.reduceLeDiff, Nat.reduceEqDiff, Nat.reduceBEq, Nat.reduceBNe]
            refine callX_ 10000 (w_law13_sure  hv11) (by first | rfl | simp only [go_sem]) ?_
            simp only [go_sem, Nat.reduceAdd, Nat.reduceLT, Nat.reduceLeDiff, Nat.reduceEqDiff, Nat.reduceBEq, Nat.reduceBNe]
            obtain rfl := Option.some.inj h
            exact atJ (wkn (Jy4) ⟨rfl, trivial⟩)
          · skip
            have h := ite_f hb10 h
            simp only [go_sem, Nat.reduceAdd, Nat.reduceLT, Nat.reduceLeDiff, Nat.reduceEqDiff, Nat.reduceBEq, Nat.reduceBNe]
            obtain rfl := Option.some.inj h
            exact atJ (wkn (Jy4) ⟨rfl, trivial⟩)
        · skip
          have h := ite_f hb8 h
          simp only [go_sem, Nat.reduceAdd, Nat.reduceLT, Nat.reduceLeDiff, Nat.reduceEqDiff, Nat.reduceBEq, Nat.reduceBNe]
          obtain rfl := Option.some.inj h
          exact atJ (wkn (Jy4) ⟨rfl, trivial⟩)
      · skip
        have h := ite_f hb7 h
        simp only [go_sem, Nat.reduceAdd, Nat.reduceLT, Nat.reduceLeDiff, Nat.reduceEqDiff, Nat.reduceBEq, Nat.reduceBNe]
        obtain rfl := Option.some.inj h
        exact atJ (wkn (Jy4) ⟨rfl, trivial⟩)
theorem w_law13_giveWords {l : (List ref13_Word)}   {r : (List lex_Word)} (h : law13_giveWords l = some r) : ACall Tryd.prog 15 [.sl none (List.map enc_ref13_Word l)] [] (.sl none (List.map enc_lex_Word r)) [] := by
  refine acallX 10000 hf15 ok15 (by first | rfl | simp only [go_sem]) meek_sl ?_
  dsimp only [Tryd.f15, nums, Option.getD, List.append]
  unfold law13_giveWords at h
  simp only [go_sem, Nat.reduceAdd, Nat.reduceLT, Nat.reduceLeDiff, Nat.reduceEqDiff, Nat.reduceBEq, Nat.reduceBNe]
  refine bsome h fun y1 hy1 h => ?_
  refine blkJ 19 10000 (fun w => w [(3, .sl (some none) (List.map enc_lex_Word y1))] []) (runX 10000 ?_) (fun Jy1 => ?_)
  · clear hy1
    simp only [go_sem, Nat.reduceAdd, Nat.reduceLT, Nat.reduceLeDiff, Nat.reduceEqDiff, Nat.reduceBEq, Nat.reduceBNe]
    refine ret_s (fun x => .sl none (List.map enc_lex_Word x)) h ?_
    first | rfl | simp only [go_sem, resAV, resAll, resOne]
  · clear h
    have h := hy1
    simp only [go_sem, Nat.reduceAdd, Nat.reduceLT, Nat.reduceLeDiff, Nat.reduceEqDiff, Nat.reduceBEq, Nat.reduceBNe]
    refine lpJ 19 fuel (fun q1 w => ∀ (v3 : (List lex_Word)) (v4 : Int), law13_giveWords_l1 l q1 v3 v4 = some y1 → w [(0, .sl none (List.map enc_ref13_Word l)), (3, .sl (some none) (List.map enc_lex_Word v3)), (4, .int .i64 v4)] []) (fun w _ _ h => nomatch h) (fun q1 ih1 v3 v4 h => ?_) (fun L1 => ?_)
    · unfold law13_giveWords_l1 at h
      refine runL 10000 ?_
      simp only [go_sem, Nat.reduceAdd, Nat.reduceLT, Nat.reduceLeDiff, Nat.reduceEqDiff, Nat.reduceBEq, Nat.reduceBNe]
      refine cnd_s 10000 h (fun hb h => ?_) (fun hb h => ?_)
      · skip
        simp only [go_sem, Nat.reduceAdd, Nat.reduceLT, Nat.reduceLeDiff, Nat.reduceEqDiff, Nat.reduceBEq, Nat.reduceBNe]
        refine blk_ 10000 ?_
        refine lAt_s enc_ref13_Word none .i64 ⟨35, 3, true, 32⟩ (fun _ => rfl) h fun v7 _ b5 e6 h => ?_
        refine app_s enc_lex_Word (some none) ⟨37, 3, true, 32⟩ (fun _ => rfl) (by decide) rfl h fun v10 _ (b8 : appc ⟨37, 3, true, 32⟩ (.sl (some none) (List.map enc_lex_Word v3)) (.sl (some none) [.agg [.int .u8 v7.K, .str v7.S, .int .i64 v7.At]])) (e9 : appv (.sl (some none) (List.map enc_lex_Word v3)) (.sl (some none) [.agg [.int .u8 v7.K, .str v7.S, .int .i64 v7.At]]) = .sl (some none) (List.map enc_lex_Word v10)) h => ?_
        refine add_s h fun v12 _ e11 h => ?_
        simp only [go_sem, Nat.reduceAdd, Nat.reduceLT, Nat.reduceLeDiff, Nat.reduceEqDiff, Nat.reduceBEq, Nat.reduceBNe, b5, e6, b8, e9, e11]
        exact lp_back (ih1 v10 v12 h) ⟨rfl, rfl, rfl, trivial⟩
      · skip
        simp only [go_sem, Nat.reduceAdd, Nat.reduceLT, Nat.reduceLeDiff, Nat.reduceEqDiff, Nat.reduceBEq, Nat.reduceBNe]
        obtain rfl := Option.some.inj h
        exact atJ (wkn (Jy1) ⟨rfl, trivial⟩)
    · exact lp_back (L1 [] 0 h) ⟨rfl, rfl, rfl, trivial⟩
theorem w_law13_LexWrites {l : (List ref13_Word)}   {r : Bool} (h : law13_LexWrites l = some r) : ACall Tryd.prog 4 [.sl none (List.map enc_ref13_Word l)] [] (.bool r) [] := by
  refine acallX 10000 hf4 ok4 (by first | rfl | simp only [go_sem]) meek_bool ?_
  dsimp only [Tryd.f4, nums, Option.getD, List.append]
  unfold law13_LexWrites at h
  simp only [go_sem, Nat.reduceAdd, Nat.reduceLT, Nat.reduceLeDiff, Nat.reduceEqDiff, Nat.reduceBEq, Nat.reduceBNe]
  refine letK_s h fun K2 hK2 h => ?_
  refine blkJ 65 10000 (fun w => K2 () = some r → w [(0, .sl none (List.map enc_ref13_Word l))] []) (fun  h => runX 10000 ?_) (fun JK2 => ?_)
  · subst hK2
    dsimp only at h
    refine bsome h fun v21 hv21 h => ?_
    simp only [go_sem, Nat.reduceAdd, Nat.reduceLT, Nat.reduceLeDiff, Nat.reduceEqDiff, Nat.reduceBEq, Nat.reduceBNe]
    refine callX_ 10000 (w_law13_giveWords  hv21) (by first | rfl | simp only [go_sem]) ?_
    refine bsome h fun v22 hv22 h => ?_
    simp only [go_sem, Nat.reduceAdd, Nat.reduceLT, Nat.reduceLeDiff, Nat.reduceEqDiff, Nat.reduceBEq, Nat.reduceBNe]
    refine callX_ 10000 (w_lex_Text  hv22) (by first | rfl | simp only [go_sem]) ?_
    refine bsome h fun v23 hv23 h => ?_
    simp only [go_sem, Nat.reduceAdd, Nat.reduceLT, Nat.reduceLeDiff, Nat.reduceEqDiff, Nat.reduceBEq, Nat.reduceBNe]
    refine callX_ 10000 (w_ref13_Text  hv23) (by first | rfl | simp only [go_sem]) ?_
    simp only [go_sem, Nat.reduceAdd, Nat.reduceLT, Nat.reduceLeDiff, Nat.reduceEqDiff, Nat.reduceBEq, Nat.reduceBNe]
    refine bsome h fun y24 hy24 h => ?_
    refine rgJ 65 10000 (fun w => w [(2, .bool y24)] []) (runX 10000 ?_) (fun Jy24 => ?_)
    · clear hy24
      simp only [go_sem, Nat.reduceAdd, Nat.reduceLT, Nat.reduceLeDiff, Nat.reduceEqDiff, Nat.reduceBEq, Nat.reduceBNe]
      refine ret_s (fun x => .bool x) h ?_
      first | rfl | simp only [go_sem, resAV, resAll, resOne]
    · clear h
      have h := hy24
      refine bsome h fun v26 hv26 h => ?_
      simp only [go_sem, Nat.reduceAdd, Nat.reduceLT, Nat.reduceLeDiff, Nat.reduceEqDiff, Nat.reduceBEq, Nat.reduceBNe]
      refine callX_ 10000 (w_law_num  hv26) (by first | rfl | simp only [go_sem]) ?_
      simp only [go_sem, Nat.reduceAdd, Nat.reduceLT, Nat.reduceLeDiff, Nat.reduceEqDiff, Nat.reduceBEq, Nat.reduceBNe]
      refine grd_ (fun hb27 => ?_) (fun hb27 => ?_)
      · skip
        have h := ite_t hb27 h
        simp only [go_sem, Nat.reduceAdd, Nat.reduceLT, Nat.reduceLeDiff, Nat.reduceEqDiff, Nat.reduceBEq, Nat.reduceBNe]
        refine grd_ (fun hb28 => ?_) (fun hb28 => ?_)
        · skip
          have h := ite_t hb28 h
          refine bsome h fun v29 hv29 h => ?_
          simp only [go_sem, Nat.reduceAdd, Nat.reduceLT, Nat.reduceLeDiff, Nat.reduceEqDiff, Nat.reduceBEq, Nat.reduceBNe]
          refine callX_ 10000 (w_law13_sure  hv29) (by first | rfl | simp only [go_sem]) ?_
          simp only [go_sem, Nat.reduceAdd, Nat.reduceLT, Nat.reduceLeDiff, Nat.reduceEqDiff, Nat.reduceBEq, Nat.reduceBNe]
          obtain rfl := Option.some.inj h
          exact atJ (wkn (Jy24) ⟨rfl, trivial⟩)
        · skip
          have h := ite_f hb28 h
          simp only [go_sem, Nat.reduceAdd, Nat.reduceLT, Nat.reduceLeDiff, Nat.reduceEqDiff, Nat.reduceBEq, Nat.reduceBNe]
          obtain rfl := Option.some.inj h
          exact atJ (wkn (Jy24) ⟨rfl, trivial⟩)
      · skip
        have h := ite_f hb27 h
        simp only [go_sem, Nat.reduceAdd, Nat.reduceLT, Nat.reduceLeDiff, Nat.reduceEqDiff, Nat.reduceBEq, Nat.reduceBNe]
        obtain rfl := Option.some.inj h
        exact atJ (wkn (Jy24) ⟨rfl, trivial⟩)
  · clear hK2
    simp only [go_sem, Nat.reduceAdd, Nat.reduceLT, Nat.reduceLeDiff, Nat.reduceEqDiff, Nat.reduceBEq, Nat.reduceBNe]
    refine lpJ 65 fuel (fun q1 w => ∀ (v3 : Int) (v4 : Int), law13_LexWrites_l1 l K2 q1 v3 v4 = some r → w [(0, .sl none (List.map enc_ref13_Word l)), (3, .int .i64 v3), (4, .int .i64 v4)] []) (fun w _ _ h => nomatch h) (fun q1 ih1 v3 v4 h => ?_) (fun L1 => ?_)
    · unfold law13_LexWrites_l1 at h
      refine runL 10000 ?_
      simp only [go_sem, Nat.reduceAdd, Nat.reduceLT, Nat.reduceLeDiff, Nat.reduceEqDiff, Nat.reduceBEq, Nat.reduceBNe]
      refine cnd_s 10000 h (fun hb h => ?_) (fun hb h => ?_)
      · skip
        simp only [go_sem, Nat.reduceAdd, Nat.reduceLT, Nat.reduceLeDiff, Nat.reduceEqDiff, Nat.reduceBEq, Nat.reduceBNe]
        refine blk_ 10000 ?_
        refine lAt_s enc_ref13_Word none .i64 ⟨35, 3, true, 32⟩ (fun _ => rfl) h fun v7 _ b5 e6 h => ?_
        refine add_s h fun v9 _ e8 h => ?_
        simp only [go_sem, Nat.reduceAdd, Nat.reduceLT, Nat.reduceLeDiff, Nat.reduceEqDiff, Nat.reduceBEq, Nat.reduceBNe, b5, e6, (mnv_e .i64 (v7.S.length : Int) 1048576), e8]
        refine rgJ 65 10000 (fun w => w [(0, .sl none (List.map enc_ref13_Word l)), (3, .int .i64 v9), (4, .int .i64 v4), (29, .bool ((decide ((262144 : Int) < v9)) || (decide ((65536 : Int) < v4))))] []) (runX 10000 ?_) (fun Jg10 => ?_)
        · skip
          simp only [go_sem, Nat.reduceAdd, Nat.reduceLT, Nat.reduceLeDiff, Nat.reduceEqDiff, Nat.reduceBEq, Nat.reduceBNe]
          refine cnd_s 10000 h (fun hb h => ?_) (fun hb h => ?_)
          · skip
            refine bsome h fun v11 hv11 h => ?_
            simp only [go_sem, Nat.reduceAdd, Nat.reduceLT, Nat.reduceLeDiff, Nat.reduceEqDiff, Nat.reduceBEq, Nat.reduceBNe]
            refine callX_ 10000 (w_law13_sure  hv11) (by first | rfl | simp only [go_sem]) ?_
            simp only [go_sem, Nat.reduceAdd, Nat.reduceLT, Nat.reduceLeDiff, Nat.reduceEqDiff, Nat.reduceBEq, Nat.reduceBNe]
            refine ret_s (fun x => .bool x) h ?_
            first | rfl | simp only [go_sem, resAV, resAll, resOne]
          · skip
            refine bsome h fun v14 hv14 h => ?_
            simp only [go_sem, Nat.reduceAdd, Nat.reduceLT, Nat.reduceLeDiff, Nat.reduceEqDiff, Nat.reduceBEq, Nat.reduceBNe, b5, e6]
            refine callX_ 10000 (w_lex_May  hv14) (by first | rfl | simp only [go_sem]) ?_
            refine bsome h fun v17 hv17 h => ?_
            simp only [go_sem, Nat.reduceAdd, Nat.reduceLT, Nat.reduceLeDiff, Nat.reduceEqDiff, Nat.reduceBEq, Nat.reduceBNe, b5, e6]
            refine callX_ 10000 (w_ref13_May  hv17) (by first | rfl | simp only [go_sem]) ?_
            simp only [go_sem, Nat.reduceAdd, Nat.reduceLT, Nat.reduceLeDiff, Nat.reduceEqDiff, Nat.reduceBEq, Nat.reduceBNe]
            refine cnd_s 10000 h (fun hb h => ?_) (fun hb h => ?_)
            · skip
              simp only [go_sem, Nat.reduceAdd, Nat.reduceLT, Nat.reduceLeDiff, Nat.reduceEqDiff, Nat.reduceBEq, Nat.reduceBNe]
              refine ret_s (fun x => .bool x) h ?_
              first | rfl | simp only [go_sem, resAV, resAll, resOne]
            · skip
              refine add_s h fun v19 _ e18 h => ?_
              simp only [go_sem, Nat.reduceAdd, Nat.reduceLT, Nat.reduceLeDiff, Nat.reduceEqDiff, Nat.reduceBEq, Nat.reduceBNe, e18]
              exact lp_back (ih1 v9 v19 h) ⟨rfl, rfl, rfl, trivial⟩
        · skip
          simp only [go_sem, Nat.reduceAdd, Nat.reduceLT, Nat.reduceLeDiff, Nat.reduceEqDiff, Nat.reduceBEq, Nat.reduceBNe]
          refine grd_ (fun hb20 => ?_) (fun hb20 => ?_)
          · skip
            simp only [go_sem, Nat.reduceAdd, Nat.reduceLT, Nat.reduceLeDiff, Nat.reduceEqDiff, Nat.reduceBEq, Nat.reduceBNe]
            exact atJ (wkn Jg10 ⟨rfl, rfl, rfl, congrArg AV.bool (by first | rfl | (rw [hb20]; rfl) | (simp [hb20]; done) | simp_all), trivial⟩)
          · skip
            simp only [go_sem, Nat.reduceAdd, Nat.reduceLT, Nat.reduceLeDiff, Nat.reduceEqDiff, Nat.reduceBEq, Nat.reduceBNe]
            exact atJ (wkn Jg10 ⟨rfl, rfl, rfl, congrArg AV.bool (by first | rfl | (rw [hb20]; rfl) | (simp [hb20]; done) | simp_all), trivial⟩)
      · skip
        simp only [go_sem, Nat.reduceAdd, Nat.reduceLT, Nat.reduceLeDiff, Nat.reduceEqDiff, Nat.reduceBEq, Nat.reduceBNe]
        exact atJ (wkn (JK2  h) ⟨rfl, trivial⟩)
    · exact lp_back (L1 0 0 h) ⟨rfl, rfl, rfl, trivial⟩
theorem w_law13_LexBack {l : (List ref13_Word)}   {r : Bool} (h : law13_LexBack l = some r) : ACall Tryd.prog 5 [.sl none (List.map enc_ref13_Word l)] [] (.bool r) [] := by
  refine acallX 10000 hf5 ok5 (by first | rfl | simp only [go_sem]) meek_bool ?_
  dsimp only [Tryd.f5, nums, Option.getD, List.append]
  unfold law13_LexBack at h
  simp only [go_sem, Nat.reduceAdd, Nat.reduceLT, Nat.reduceLeDiff, Nat.reduceEqDiff, Nat.reduceBEq, Nat.reduceBNe]
  refine letK_s h fun K2 hK2 h => ?_
  refine blkJ 166 10000 (fun w => K2 () = some r → w [(0, .sl none (List.map enc_ref13_Word l))] []) (fun  h => runX 10000 ?_) (fun JK2 => ?_)
  · subst hK2
    dsimp only at h
    refine bsome h fun v15 hv15 h => ?_
    simp only [go_sem, Nat.reduceAdd, Nat.reduceLT, Nat.reduceLeDiff, Nat.reduceEqDiff, Nat.reduceBEq, Nat.reduceBNe]
    refine callX_ 10000 (w_law13_giveWords  hv15) (by first | rfl | simp only [go_sem]) ?_
    refine bsome h fun v16 hv16 h => ?_
    simp only [go_sem, Nat.reduceAdd, Nat.reduceLT, Nat.reduceLeDiff, Nat.reduceEqDiff, Nat.reduceBEq, Nat.reduceBNe]
    refine callX_ 10000 (w_lex_Text  hv16) (by first | rfl | simp only [go_sem]) ?_
    simp only [go_sem, Nat.reduceAdd, Nat.reduceLT, Nat.reduceLeDiff, Nat.reduceEqDiff, Nat.reduceBEq, Nat.reduceBNe]
    refine cnd_s 10000 h (fun hb h => ?_) (fun hb h => ?_)
    · skip
      refine bsome h fun v17 hv17 h => ?_
      simp only [go_sem, Nat.reduceAdd, Nat.reduceLT, Nat.reduceLeDiff, Nat.reduceEqDiff, Nat.reduceBEq, Nat.reduceBNe]
      refine callX_ 10000 (w_law13_sure  hv17) (by first | rfl | simp only [go_sem]) ?_
      simp only [go_sem, Nat.reduceAdd, Nat.reduceLT, Nat.reduceLeDiff, Nat.reduceEqDiff, Nat.reduceBEq, Nat.reduceBNe]
      refine ret_s (fun x => .bool x) h ?_
      first | rfl | simp only [go_sem, resAV, resAll, resOne]
    · skip
      refine bsome h fun v18 hv18 h => ?_
      simp only [go_sem, Nat.reduceAdd, Nat.reduceLT, Nat.reduceLeDiff, Nat.reduceEqDiff, Nat.reduceBEq, Nat.reduceBNe]
      refine callX_ 10000 (w_lex_Words  hv18) (by first | rfl | simp only [go_sem]) ?_
      simp only [go_sem, Nat.reduceAdd, Nat.reduceLT, Nat.reduceLeDiff, Nat.reduceEqDiff, Nat.reduceBEq, Nat.reduceBNe]
      refine rgJ 166 10000 (fun w => w [(5, .sl none (List.map enc_lex_Word v15)), (6, .str v16.1), (8, .sl none (List.map enc_lex_Word v18.1)), (64, .bool ((v18.2.2.isSome || (!decide (v18.2.1 = 0))) || (!decide ((v18.1.length : Int) = (v15.length : Int)))))] []) (runX 10000 ?_) (fun Jg19 => ?_)
      · skip
        simp only [go_sem, Nat.reduceAdd, Nat.reduceLT, Nat.reduceLeDiff, Nat.reduceEqDiff, Nat.reduceBEq, Nat.reduceBNe]
        refine cnd_s 10000 h (fun hb h => ?_) (fun hb h => ?_)
        · skip
          simp only [go_sem, Nat.reduceAdd, Nat.reduceLT, Nat.reduceLeDiff, Nat.reduceEqDiff, Nat.reduceBEq, Nat.reduceBNe]
          refine ret_s (fun x => .bool x) h ?_
          first | rfl | simp only [go_sem, resAV, resAll, resOne]
        · skip
          simp only [go_sem, Nat.reduceAdd, Nat.reduceLT, Nat.reduceLeDiff, Nat.reduceEqDiff, Nat.reduceBEq, Nat.reduceBNe]
          refine letK_s h fun K21 hK21 h => ?_
          refine blkJ 166 10000 (fun w => K21 () = some r → w [] []) (fun  h => runX 10000 ?_) (fun JK21 => ?_)
          · subst hK21
            dsimp only at h
            refine bsome h fun v82 hv82 h => ?_
            simp only [go_sem, Nat.reduceAdd, Nat.reduceLT, Nat.reduceLeDiff, Nat.reduceEqDiff, Nat.reduceBEq, Nat.reduceBNe]
            refine callX_ 10000 (w_law13_sure  hv82) (by first | rfl | simp only [go_sem]) ?_
            simp only [go_sem, Nat.reduceAdd, Nat.reduceLT, Nat.reduceLeDiff, Nat.reduceEqDiff, Nat.reduceBEq, Nat.reduceBNe]
            refine ret_s (fun x => .bool x) h ?_
            first | rfl | simp only [go_sem, resAV, resAll, resOne]
          · clear hK21
            simp only [go_sem, Nat.reduceAdd, Nat.reduceLT, Nat.reduceLeDiff, Nat.reduceEqDiff, Nat.reduceBEq, Nat.reduceBNe]
            refine lpJ 166 fuel (fun q2 w => ∀ (v22 : Int), law13_LexBack_l2 v15 v16 v18 K21 q2 v22 = some r → w [(5, .sl none (List.map enc_lex_Word v15)), (6, .str v16.1), (8, .sl none (List.map enc_lex_Word v18.1)), (11, .int .i64 v22)] []) (fun w _ h => nomatch h) (fun q2 ih2 v22 h => ?_) (fun L2 => ?_)
            · unfold law13_LexBack_l2 at h
              refine runL 10000 ?_
              simp only [go_sem, Nat.reduceAdd, Nat.reduceLT, Nat.reduceLeDiff, Nat.reduceEqDiff, Nat.reduceBEq, Nat.reduceBNe]
              refine cnd_s 10000 h (fun hb h => ?_) (fun hb h => ?_)
              · skip
                simp only [go_sem, Nat.reduceAdd, Nat.reduceLT, Nat.reduceLeDiff, Nat.reduceEqDiff, Nat.reduceBEq, Nat.reduceBNe]
                refine blk_ 10000 ?_
                simp only [go_sem, Nat.reduceAdd, Nat.reduceLT, Nat.reduceLeDiff, Nat.reduceEqDiff, Nat.reduceBEq, Nat.reduceBNe]
                refine bsome h fun y23 hy23 h => ?_
                refine rgJ 166 10000 (fun w => w [(5, .sl none (List.map enc_lex_Word v15)), (6, .str v16.1), (8, .sl none (List.map enc_lex_Word v18.1)), (11, .int .i64 v22), (121, .bool y23)] []) (runX 10000 ?_) (fun Jy23 => ?_)
                · clear hy23
                  simp only [go_sem, Nat.reduceAdd, Nat.reduceLT, Nat.reduceLeDiff, Nat.reduceEqDiff, Nat.reduceBEq, Nat.reduceBNe]
                  refine cnd_s 10000 h (fun hb h => ?_) (fun hb h => ?_)
                  · skip
                    simp only [go_sem, Nat.reduceAdd, Nat.reduceLT, Nat.reduceLeDiff, Nat.reduceEqDiff, Nat.reduceBEq, Nat.reduceBNe]
                    refine ret_s (fun x => .bool x) h ?_
                    first | rfl | simp only [go_sem, resAV, resAll, resOne]
                  · skip
                    refine add_s h fun v58 _ e57 h => ?_
                    refine subL_s enc_lex_Word none ⟨37, 3, true, 32⟩ (fun _ => rfl) (some (.int .i64 v22)) (some (.int .i64 v58)) rfl rfl h fun v61 _ b59 e60 h => ?_
                    refine bsome h fun v62 hv62 h => ?_
                    simp only [go_sem, Nat.reduceAdd, Nat.reduceLT, Nat.reduceLeDiff, Nat.reduceEqDiff, Nat.reduceBEq, Nat.reduceBNe, e57, b59, e60]
                    refine callX_ 10000 (w_lex_Text  hv62) (by first | rfl | simp only [go_sem]) ?_
                    simp only [go_sem, Nat.reduceAdd, Nat.reduceLT, Nat.reduceLeDiff, Nat.reduceEqDiff, Nat.reduceBEq, Nat.reduceBNe]
                    refine bsome h fun y63 hy63 h => ?_
                    refine rgJ 166 10000 (fun w => w [(5, .sl none (List.map enc_lex_Word v15)), (6, .str v16.1), (8, .sl none (List.map enc_lex_Word v18.1)), (11, .int .i64 v22), (164, .bool y63)] []) (runX 10000 ?_) (fun Jy63 => ?_)
                    · clear hy63
                      simp only [go_sem, Nat.reduceAdd, Nat.reduceLT, Nat.reduceLeDiff, Nat.reduceEqDiff, Nat.reduceBEq, Nat.reduceBNe]
                      refine cnd_s 10000 h (fun hb h => ?_) (fun hb h => ?_)
                      · skip
                        simp only [go_sem, Nat.reduceAdd, Nat.reduceLT, Nat.reduceLeDiff, Nat.reduceEqDiff, Nat.reduceBEq, Nat.reduceBNe]
                        refine ret_s (fun x => .bool x) h ?_
                        first | rfl | simp only [go_sem, resAV, resAll, resOne]
                      · skip
                        simp only [go_sem, Nat.reduceAdd, Nat.reduceLT, Nat.reduceLeDiff, Nat.reduceEqDiff, Nat.reduceBEq, Nat.reduceBNe, e57]
                        exact lp_back (ih2 v58 h) ⟨rfl, rfl, rfl, rfl, trivial⟩
                    · clear h
                      have h := hy63
                      simp only [go_sem, Nat.reduceAdd, Nat.reduceLT, Nat.reduceLeDiff, Nat.reduceEqDiff, Nat.reduceBEq, Nat.reduceBNe]
                      refine grd_ (fun hb65 => ?_) (fun hb65 => ?_)
                      · skip
                        have h := ite_f hb65 h
                        refine lAt_s enc_lex_Word none .i64 ⟨37, 3, true, 32⟩ (fun _ => rfl) h fun v68 _ b66 e67 h => ?_
                        refine sub_s h fun v70 _ e69 h => ?_
                        simp only [go_sem, Nat.reduceAdd, Nat.reduceLT, Nat.reduceLeDiff, Nat.reduceEqDiff, Nat.reduceBEq, Nat.reduceBNe, b66, e67, e69]
                        refine grd_ (fun hb71 => ?_) (fun hb71 => ?_)
                        · skip
                          have h := ite_f hb71 h
                          refine add_s h fun v77 _ e76 h => ?_
                          refine subS_s (some (.int .i64 v68.At)) (some (.int .i64 v77)) rfl rfl h fun v80 _ b78 e79 h => ?_
                          simp only [go_sem, Nat.reduceAdd, Nat.reduceLT, Nat.reduceLeDiff, Nat.reduceEqDiff, Nat.reduceBEq, Nat.reduceBNe, b66, e67, e76, b78, e79]
                          obtain rfl := Option.some.inj h
                          exact atJ (wkn (Jy63) ⟨rfl, rfl, rfl, rfl, rfl, trivial⟩)
                        · skip
                          have h := ite_t hb71 h
                          simp only [go_sem, Nat.reduceAdd, Nat.reduceLT, Nat.reduceLeDiff, Nat.reduceEqDiff, Nat.reduceBEq, Nat.reduceBNe]
                          obtain rfl := Option.some.inj h
                          exact atJ (wkn (Jy63) ⟨rfl, rfl, rfl, rfl, rfl, trivial⟩)
                      · skip
                        have h := ite_t hb65 h
                        simp only [go_sem, Nat.reduceAdd, Nat.reduceLT, Nat.reduceLeDiff, Nat.reduceEqDiff, Nat.reduceBEq, Nat.reduceBNe]
                        obtain rfl := Option.some.inj h
                        exact atJ (wkn (Jy63) ⟨rfl, rfl, rfl, rfl, rfl, trivial⟩)
                · clear h
                  have h := hy23
                  refine lAt_s enc_lex_Word none .i64 ⟨37, 3, true, 32⟩ (fun _ => rfl) h fun v27 _ b25 e26 h => ?_
                  refine lAt_s enc_lex_Word none .i64 ⟨37, 3, true, 32⟩ (fun _ => rfl) h fun v30 _ b28 e29 h => ?_
                  simp only [go_sem, Nat.reduceAdd, Nat.reduceLT, Nat.reduceLeDiff, Nat.reduceEqDiff, Nat.reduceBEq, Nat.reduceBNe, b25, e26, b28, e29]
                  refine grd_ (fun hb31 => ?_) (fun hb31 => ?_)
                  · skip
                    have h := ite_f hb31 h
                    simp only [go_sem, Nat.reduceAdd, Nat.reduceLT, Nat.reduceLeDiff, Nat.reduceEqDiff, Nat.reduceBEq, Nat.reduceBNe, b25, e26, b28, e29]
                    refine grd_ (fun hb36 => ?_) (fun hb36 => ?_)
                    · skip
                      have h := ite_f hb36 h
                      simp only [go_sem, Nat.reduceAdd, Nat.reduceLT, Nat.reduceLeDiff, Nat.reduceEqDiff, Nat.reduceBEq, Nat.reduceBNe]
                      refine grd_ (fun hb37 => ?_) (fun hb37 => ?_)
                      · skip
                        have h := ite_t hb37 h
                        simp only [go_sem, Nat.reduceAdd, Nat.reduceLT, Nat.reduceLeDiff, Nat.reduceEqDiff, Nat.reduceBEq, Nat.reduceBNe, b25, e26]
                        refine grd_ (fun hb40 => ?_) (fun hb40 => ?_)
                        · skip
                          have h := ite_f hb40 h
                          simp only [go_sem, Nat.reduceAdd, Nat.reduceLT, Nat.reduceLeDiff, Nat.reduceEqDiff, Nat.reduceBEq, Nat.reduceBNe]
                          refine grd_ (fun hb41 => ?_) (fun hb41 => ?_)
                          · skip
                            have h := ite_t hb41 h
                            refine sub_s h fun v45 _ e44 h => ?_
                            refine sIdx_s .i64 h fun v48 _ b46 e47 h => ?_
                            simp only [go_sem, Nat.reduceAdd, Nat.reduceLT, Nat.reduceLeDiff, Nat.reduceEqDiff, Nat.reduceBEq, Nat.reduceBNe, b25, e26, e44, b46, e47]
                            obtain rfl := Option.some.inj h
                            exact atJ (wkn (Jy23) ⟨rfl, rfl, rfl, rfl, rfl, trivial⟩)
                          · skip
                            have h := ite_f hb41 h
                            simp only [go_sem, Nat.reduceAdd, Nat.reduceLT, Nat.reduceLeDiff, Nat.reduceEqDiff, Nat.reduceBEq, Nat.reduceBNe]
                            obtain rfl := Option.some.inj h
                            exact atJ (wkn (Jy23) ⟨rfl, rfl, rfl, rfl, rfl, trivial⟩)
                        · skip
                          have h := ite_t hb40 h
                          simp only [go_sem, Nat.reduceAdd, Nat.reduceLT, Nat.reduceLeDiff, Nat.reduceEqDiff, Nat.reduceBEq, Nat.reduceBNe]
                          obtain rfl := Option.some.inj h
                          exact atJ (wkn (Jy23) ⟨rfl, rfl, rfl, rfl, rfl, trivial⟩)
                      · skip
                        have h := ite_f hb37 h
                        simp only [go_sem, Nat.reduceAdd, Nat.reduceLT, Nat.reduceLeDiff, Nat.reduceEqDiff, Nat.reduceBEq, Nat.reduceBNe]
                        refine grd_ (fun hb49 => ?_) (fun hb49 => ?_)
                        · skip
                          have h := ite_t hb49 h
                          refine sub_s h fun v53 _ e52 h => ?_
                          refine sIdx_s .i64 h fun v56 _ b54 e55 h => ?_
                          simp only [go_sem, Nat.reduceAdd, Nat.reduceLT, Nat.reduceLeDiff, Nat.reduceEqDiff, Nat.reduceBEq, Nat.reduceBNe, b25, e26, e52, b54, e55]
                          obtain rfl := Option.some.inj h
                          exact atJ (wkn (Jy23) ⟨rfl, rfl, rfl, rfl, rfl, trivial⟩)
                        · skip
                          have h := ite_f hb49 h
                          simp only [go_sem, Nat.reduceAdd, Nat.reduceLT, Nat.reduceLeDiff, Nat.reduceEqDiff, Nat.reduceBEq, Nat.reduceBNe]
                          obtain rfl := Option.some.inj h
                          exact atJ (wkn (Jy23) ⟨rfl, rfl, rfl, rfl, rfl, trivial⟩)
                    · skip
                      have h := ite_t hb36 h
                      simp only [go_sem, Nat.reduceAdd, Nat.reduceLT, Nat.reduceLeDiff, Nat.reduceEqDiff, Nat.reduceBEq, Nat.reduceBNe]
                      obtain rfl := Option.some.inj h
                      exact atJ (wkn (Jy23) ⟨rfl, rfl, rfl, rfl, rfl, trivial⟩)
                  · skip
                    have h := ite_t hb31 h
                    simp only [go_sem, Nat.reduceAdd, Nat.reduceLT, Nat.reduceLeDiff, Nat.reduceEqDiff, Nat.reduceBEq, Nat.reduceBNe]
                    obtain rfl := Option.some.inj h
                    exact atJ (wkn (Jy23) ⟨rfl, rfl, rfl, rfl, rfl, trivial⟩)
              · skip
                simp only [go_sem, Nat.reduceAdd, Nat.reduceLT, Nat.reduceLeDiff, Nat.reduceEqDiff, Nat.reduceBEq, Nat.reduceBNe]
                exact atJ (wkn (JK21  h) trivial)
            · exact lp_back (L2 0 h) ⟨rfl, rfl, rfl, rfl, trivial⟩
      · skip
        simp only [go_sem, Nat.reduceAdd, Nat.reduceLT, Nat.reduceLeDiff, Nat.reduceEqDiff, Nat.reduceBEq, Nat.reduceBNe]
        refine grd_ (fun hb83 => ?_) (fun hb83 => ?_)
        · skip
          simp only [go_sem, Nat.reduceAdd, Nat.reduceLT, Nat.reduceLeDiff, Nat.reduceEqDiff, Nat.reduceBEq, Nat.reduceBNe]
          refine grd_ (fun hb84 => ?_) (fun hb84 => ?_)
          · skip
            simp only [go_sem, Nat.reduceAdd, Nat.reduceLT, Nat.reduceLeDiff, Nat.reduceEqDiff, Nat.reduceBEq, Nat.reduceBNe]
            exact atJ (wkn Jg19 ⟨rfl, rfl, rfl, congrArg AV.bool (by first | rfl | (rw [hb83, hb84]; rfl) | (simp [hb83, hb84]; done) | simp_all), trivial⟩)
          · skip
            simp only [go_sem, Nat.reduceAdd, Nat.reduceLT, Nat.reduceLeDiff, Nat.reduceEqDiff, Nat.reduceBEq, Nat.reduceBNe]
            exact atJ (wkn Jg19 ⟨rfl, rfl, rfl, congrArg AV.bool (by first | rfl | (rw [hb83, hb84]; rfl) | (simp [hb83, hb84]; done) | simp_all), trivial⟩)
        · skip
          simp only [go_sem, Nat.reduceAdd, Nat.reduceLT, Nat.reduceLeDiff, Nat.reduceEqDiff, Nat.reduceBEq, Nat.reduceBNe]
          exact atJ (wkn Jg19 ⟨rfl, rfl, rfl, congrArg AV.bool (by first | rfl | (rw [hb83]; rfl) | (simp [hb83]; done) | simp_all), trivial⟩)
  · clear hK2
    simp only [go_sem, Nat.reduceAdd, Nat.reduceLT, Nat.reduceLeDiff, Nat.reduceEqDiff, Nat.reduceBEq, Nat.reduceBNe]
    refine lpJ 166 fuel (fun q1 w => ∀ (v3 : Int) (v4 : Int), law13_LexBack_l1 l K2 q1 v3 v4 = some r → w [(0, .sl none (List.map enc_ref13_Word l)), (3, .int .i64 v3), (4, .int .i64 v4)] []) (fun w _ _ h => nomatch h) (fun q1 ih1 v3 v4 h => ?_) (fun L1 => ?_)
    · unfold law13_LexBack_l1 at h
      refine runL 10000 ?_
      simp only [go_sem, Nat.reduceAdd, Nat.reduceLT, Nat.reduceLeDiff, Nat.reduceEqDiff, Nat.reduceBEq, Nat.reduceBNe]
      refine cnd_s 10000 h (fun hb h => ?_) (fun hb h => ?_)
      · skip
        simp only [go_sem, Nat.reduceAdd, Nat.reduceLT, Nat.reduceLeDiff, Nat.reduceEqDiff, Nat.reduceBEq, Nat.reduceBNe]
        refine blk_ 10000 ?_
        refine lAt_s enc_ref13_Word none .i64 ⟨35, 3, true, 32⟩ (fun _ => rfl) h fun v7 _ b5 e6 h => ?_
        refine add_s h fun v9 _ e8 h => ?_
        simp only [go_sem, Nat.reduceAdd, Nat.reduceLT, Nat.reduceLeDiff, Nat.reduceEqDiff, Nat.reduceBEq, Nat.reduceBNe, b5, e6, (mnv_e .i64 (v7.S.length : Int) 1048576), e8]
        refine rgJ 166 10000 (fun w => w [(0, .sl none (List.map enc_ref13_Word l)), (3, .int .i64 v9), (4, .int .i64 v4), (34, .bool ((decide ((262144 : Int) < v9)) || (decide ((65536 : Int) < v4))))] []) (runX 10000 ?_) (fun Jg10 => ?_)
        · skip
          simp only [go_sem, Nat.reduceAdd, Nat.reduceLT, Nat.reduceLeDiff, Nat.reduceEqDiff, Nat.reduceBEq, Nat.reduceBNe]
          refine cnd_s 10000 h (fun hb h => ?_) (fun hb h => ?_)
          · skip
            refine bsome h fun v11 hv11 h => ?_
            simp only [go_sem, Nat.reduceAdd, Nat.reduceLT, Nat.reduceLeDiff, Nat.reduceEqDiff, Nat.reduceBEq, Nat.reduceBNe]
            refine callX_ 10000 (w_law13_sure  hv11) (by first | rfl | simp only [go_sem]) ?_
            simp only [go_sem, Nat.reduceAdd, Nat.reduceLT, Nat.reduceLeDiff, Nat.reduceEqDiff, Nat.reduceBEq, Nat.reduceBNe]
            refine ret_s (fun x => .bool x) h ?_
            first | rfl | simp only [go_sem, resAV, resAll, resOne]
          · skip
            refine add_s h fun v13 _ e12 h => ?_
            simp only [go_sem, Nat.reduceAdd, Nat.reduceLT, Nat.reduceLeDiff, Nat.reduceEqDiff, Nat.reduceBEq, Nat.reduceBNe, e12]
            exact lp_back (ih1 v9 v13 h) ⟨rfl, rfl, rfl, trivial⟩
        · skip
          simp only [go_sem, Nat.reduceAdd, Nat.reduceLT, Nat.reduceLeDiff, Nat.reduceEqDiff, Nat.reduceBEq, Nat.reduceBNe]
          refine grd_ (fun hb14 => ?_) (fun hb14 => ?_)
          · skip
            simp only [go_sem, Nat.reduceAdd, Nat.reduceLT, Nat.reduceLeDiff, Nat.reduceEqDiff, Nat.reduceBEq, Nat.reduceBNe]
            exact atJ (wkn Jg10 ⟨rfl, rfl, rfl, congrArg AV.bool (by first | rfl | (rw [hb14]; rfl) | (simp [hb14]; done) | simp_all), trivial⟩)
          · skip
            simp only [go_sem, Nat.reduceAdd, Nat.reduceLT, Nat.reduceLeDiff, Nat.reduceEqDiff, Nat.reduceBEq, Nat.reduceBNe]
            exact atJ (wkn Jg10 ⟨rfl, rfl, rfl, congrArg AV.bool (by first | rfl | (rw [hb14]; rfl) | (simp [hb14]; done) | simp_all), trivial⟩)
      · skip
        simp only [go_sem, Nat.reduceAdd, Nat.reduceLT, Nat.reduceLeDiff, Nat.reduceEqDiff, Nat.reduceBEq, Nat.reduceBNe]
        exact atJ (wkn (JK2  h) ⟨rfl, trivial⟩)
    · exact lp_back (L1 0 0 h) ⟨rfl, rfl, rfl, trivial⟩
theorem w_law13_LexApart {s : Str} {k : Int} {blank : Int}   {r : Bool} (h : law13_LexApart s k blank = some r) : ACall Tryd.prog 6 [.str s, .int .i64 k, .int .u8 blank] [] (.bool r) [] := by
  refine acallX 10000 hf6 ok6 (by first | rfl | simp only [go_sem]) meek_bool ?_
  dsimp only [Tryd.f6, nums, Option.getD, List.append]
  unfold law13_LexApart at h
  simp only [go_sem, Nat.reduceAdd, Nat.reduceLT, Nat.reduceLeDiff, Nat.reduceEqDiff, Nat.reduceBEq, Nat.reduceBNe]
  refine cnd_s 10000 h (fun hb h => ?_) (fun hb h => ?_)
  · skip
    refine bsome h fun v1 hv1 h => ?_
    simp only [go_sem, Nat.reduceAdd, Nat.reduceLT, Nat.reduceLeDiff, Nat.reduceEqDiff, Nat.reduceBEq, Nat.reduceBNe]
    refine callX_ 10000 (w_law13_sure  hv1) (by first | rfl | simp only [go_sem]) ?_
    simp only [go_sem, Nat.reduceAdd, Nat.reduceLT, Nat.reduceLeDiff, Nat.reduceEqDiff, Nat.reduceBEq, Nat.reduceBNe]
    refine ret_s (fun x => .bool x) h ?_
    first | rfl | simp only [go_sem, resAV, resAll, resOne]
  · skip
    refine bsome h fun v2 hv2 h => ?_
    simp only [go_sem, Nat.reduceAdd, Nat.reduceLT, Nat.reduceLeDiff, Nat.reduceEqDiff, Nat.reduceBEq, Nat.reduceBNe]
    refine callX_ 10000 (w_lex_Words  hv2) (by first | rfl | simp only [go_sem]) ?_
    simp only [go_sem, Nat.reduceAdd, Nat.reduceLT, Nat.reduceLeDiff, Nat.reduceEqDiff, Nat.reduceBEq, Nat.reduceBNe]
    refine rgJ 152 10000 (fun w => w [(0, .str s), (1, .int .i64 k), (2, .int .u8 blank), (7, .sl none (List.map enc_lex_Word v2.1)), (8, .int .i64 v2.2.1), (9, encE 47 v2.2.2), (10, .int .i64 (s.length : Int)), (36, .bool (v2.2.2.isNone && (decide ((0 : Int) < (v2.1.length : Int)))))] []) (runX 10000 ?_) (fun Jg3 => ?_)
    · skip
      simp only [go_sem, Nat.reduceAdd, Nat.reduceLT, Nat.reduceLeDiff, Nat.reduceEqDiff, Nat.reduceBEq, Nat.reduceBNe]
      refine bsome h fun y4 hy4 h => ?_
      refine cndJ 152 10000 (fun w => w [(0, .str s), (2, .int .u8 blank), (7, .sl none (List.map enc_lex_Word v2.1)), (8, .int .i64 v2.2.1), (9, encE 47 v2.2.2), (10, .int .i64 y4)] []) (runX 10000 ?_) (fun Jy4 => ?_)
      · clear hy4
        refine rem_s .u8 h fun v20 _ b19 e18 h => ?_
        refine lAt_s AV.str (some none) .u8 ⟨9, 1, false, 16⟩ (fun _ => rfl) h fun v23 _ (b21 : iadC ⟨9, 1, false, 16⟩ (.sl (some none) [.str [32], .str [9], .str [10], .str [13], .str [32, 34, 97, 32, 39, 91, 32, 114, 101, 109, 97, 114, 107, 34, 32]]) (.int .u8 v20)) (e22 : iadV (.sl (some none) [.str [32], .str [9], .str [10], .str [13], .str [32, 34, 97, 32, 39, 91, 32, 114, 101, 109, 97, 114, 107, 34, 32]]) (.int .u8 v20) = .ip (AV.str v23).cells) h => ?_
        refine subS_s none (some (.int .i64 y4)) rfl rfl h fun v26 _ b24 e25 h => ?_
        refine cat_s h fun v29 _ (b27 : v26.length + v23.length ≤ maxB) e28 h => ?_
        refine subS_s (some (.int .i64 y4)) none rfl rfl h fun v32 _ b30 e31 h => ?_
        refine cat_s h fun v35 _ (b33 : v29.length + v32.length ≤ maxB) e34 h => ?_
        refine bsome h fun v36 hv36 h => ?_
        simp only [go_sem, Nat.reduceAdd, Nat.reduceLT, Nat.reduceLeDiff, Nat.reduceEqDiff, Nat.reduceBEq, Nat.reduceBNe, e18, ne_eq, Int.reduceEq, not_false_eq_true, b21, e22, b24, e25, b27, e28, b30, e31, b33, e34]
        refine callX_ 10000 (w_lex_Words  hv36) (by first | rfl | simp only [go_sem]) ?_
        refine bsome h fun v37 hv37 h => ?_
        simp only [go_sem, Nat.reduceAdd, Nat.reduceLT, Nat.reduceLeDiff, Nat.reduceEqDiff, Nat.reduceBEq, Nat.reduceBNe]
        refine callX_ 10000 (w_law_num  hv37) (by first | rfl | simp only [go_sem]) ?_
        refine bsome h fun v38 hv38 h => ?_
        simp only [go_sem, Nat.reduceAdd, Nat.reduceLT, Nat.reduceLeDiff, Nat.reduceEqDiff, Nat.reduceBEq, Nat.reduceBNe]
        refine callX_ 10000 (w_law_num  hv38) (by first | rfl | simp only [go_sem]) ?_
        simp only [go_sem, Nat.reduceAdd, Nat.reduceLT, Nat.reduceLeDiff, Nat.reduceEqDiff, Nat.reduceBEq, Nat.reduceBNe]
        refine cnd_s 10000 h (fun hb h => ?_) (fun hb h => ?_)
        · skip
          simp only [go_sem, Nat.reduceAdd, Nat.reduceLT, Nat.reduceLeDiff, Nat.reduceEqDiff, Nat.reduceBEq, Nat.reduceBNe]
          refine ret_s (fun x => .bool x) h ?_
          first | rfl | simp only [go_sem, resAV, resAll, resOne]
        · skip
          simp only [go_sem, Nat.reduceAdd, Nat.reduceLT, Nat.reduceLeDiff, Nat.reduceEqDiff, Nat.reduceBEq, Nat.reduceBNe]
          refine cnd_s 10000 h (fun hb h => ?_) (fun hb h => ?_)
          · skip
            simp only [go_sem, Nat.reduceAdd, Nat.reduceLT, Nat.reduceLeDiff, Nat.reduceEqDiff, Nat.reduceBEq, Nat.reduceBNe]
            refine bsome h fun y39 hy39 h => ?_
            refine rgJ 152 10000 (fun w => w [(6, .bool y39)] []) (runX 10000 ?_) (fun Jy39 => ?_)
            · clear hy39
              simp only [go_sem, Nat.reduceAdd, Nat.reduceLT, Nat.reduceLeDiff, Nat.reduceEqDiff, Nat.reduceBEq, Nat.reduceBNe]
              refine ret_s (fun x => .bool x) h ?_
              first | rfl | simp only [go_sem, resAV, resAll, resOne]
            · clear h
              have h := hy39
              simp only [go_sem, Nat.reduceAdd, Nat.reduceLT, Nat.reduceLeDiff, Nat.reduceEqDiff, Nat.reduceBEq, Nat.reduceBNe]
              refine callX_ 10000 (w_law_num  hv37) (by first | rfl | simp only [go_sem]) ?_
              simp only [go_sem, Nat.reduceAdd, Nat.reduceLT, Nat.reduceLeDiff, Nat.reduceEqDiff, Nat.reduceBEq, Nat.reduceBNe]
              refine grd_ (fun hb41 => ?_) (fun hb41 => ?_)
              · skip
                have h := ite_t hb41 h
                refine add_s h fun v43 _ e42 h => ?_
                simp only [go_sem, Nat.reduceAdd, Nat.reduceLT, Nat.reduceLeDiff, Nat.reduceEqDiff, Nat.reduceBEq, Nat.reduceBNe, e42]
                refine grd_ (fun hb44 => ?_) (fun hb44 => ?_)
                · skip
                  have h := ite_t hb44 h
                  refine bsome h fun v45 hv45 h => ?_
                  simp only [go_sem, Nat.reduceAdd, Nat.reduceLT, Nat.reduceLeDiff, Nat.reduceEqDiff, Nat.reduceBEq, Nat.reduceBNe]
                  refine callX_ 10000 (w_law13_sure  hv45) (by first | rfl | simp only [go_sem]) ?_
                  simp only [go_sem, Nat.reduceAdd, Nat.reduceLT, Nat.reduceLeDiff, Nat.reduceEqDiff, Nat.reduceBEq, Nat.reduceBNe]
                  obtain rfl := Option.some.inj h
                  exact atJ (wkn (Jy39) ⟨rfl, trivial⟩)
                · skip
                  have h := ite_f hb44 h
                  simp only [go_sem, Nat.reduceAdd, Nat.reduceLT, Nat.reduceLeDiff, Nat.reduceEqDiff, Nat.reduceBEq, Nat.reduceBNe]
                  obtain rfl := Option.some.inj h
                  exact atJ (wkn (Jy39) ⟨rfl, trivial⟩)
              · skip
                have h := ite_f hb41 h
                simp only [go_sem, Nat.reduceAdd, Nat.reduceLT, Nat.reduceLeDiff, Nat.reduceEqDiff, Nat.reduceBEq, Nat.reduceBNe]
                obtain rfl := Option.some.inj h
                exact atJ (wkn (Jy39) ⟨rfl, trivial⟩)
          · skip
            simp only [go_sem, Nat.reduceAdd, Nat.reduceLT, Nat.reduceLeDiff, Nat.reduceEqDiff, Nat.reduceBEq, Nat.reduceBNe]
            refine cnd_s 10000 h (fun hb h => ?_) (fun hb h => ?_)
            · skip
              simp only [go_sem, Nat.reduceAdd, Nat.reduceLT, Nat.reduceLeDiff, Nat.reduceEqDiff, Nat.reduceBEq, Nat.reduceBNe]
              refine ret_s (fun x => .bool x) h ?_
              first | rfl | simp only [go_sem, resAV, resAll, resOne]
            · skip
              simp only [go_sem, Nat.reduceAdd, Nat.reduceLT, Nat.reduceLeDiff, Nat.reduceEqDiff, Nat.reduceBEq, Nat.reduceBNe]
              refine letK_s h fun K47 hK47 h => ?_
              refine blkJ 152 10000 (fun w => K47 () = some r → w [] []) (fun  h => runX 10000 ?_) (fun JK47 => ?_)
              · subst hK47
                dsimp only at h
                refine bsome h fun v73 hv73 h => ?_
                simp only [go_sem, Nat.reduceAdd, Nat.reduceLT, Nat.reduceLeDiff, Nat.reduceEqDiff, Nat.reduceBEq, Nat.reduceBNe]
                refine callX_ 10000 (w_law13_sure  hv73) (by first | rfl | simp only [go_sem]) ?_
                simp only [go_sem, Nat.reduceAdd, Nat.reduceLT, Nat.reduceLeDiff, Nat.reduceEqDiff, Nat.reduceBEq, Nat.reduceBNe]
                refine ret_s (fun x => .bool x) h ?_
                first | rfl | simp only [go_sem, resAV, resAll, resOne]
              · clear hK47
                simp only [go_sem, Nat.reduceAdd, Nat.reduceLT, Nat.reduceLeDiff, Nat.reduceEqDiff, Nat.reduceBEq, Nat.reduceBNe]
                refine lpJ 152 fuel (fun q1 w => ∀ (v48 : Int), law13_LexApart_l1 v2 y4 v23 v36 K47 q1 v48 = some r → w [(7, .sl none (List.map enc_lex_Word v2.1)), (10, .int .i64 y4), (12, .str v23), (13, .sl none (List.map enc_lex_Word v36.1)), (16, .int .i64 v48)] []) (fun w _ h => nomatch h) (fun q1 ih1 v48 h => ?_) (fun L1 => ?_)
                · unfold law13_LexApart_l1 at h
                  refine runL 10000 ?_
                  simp only [go_sem, Nat.reduceAdd, Nat.reduceLT, Nat.reduceLeDiff, Nat.reduceEqDiff, Nat.reduceBEq, Nat.reduceBNe]
                  refine cnd_s 10000 h (fun hb h => ?_) (fun hb h => ?_)
                  · skip
                    simp only [go_sem, Nat.reduceAdd, Nat.reduceLT, Nat.reduceLeDiff, Nat.reduceEqDiff, Nat.reduceBEq, Nat.reduceBNe]
                    refine blk_ 10000 ?_
                    refine lAt_s enc_lex_Word none .i64 ⟨37, 3, true, 32⟩ (fun _ => rfl) h fun v51 _ b49 e50 h => ?_
                    simp only [go_sem, Nat.reduceAdd, Nat.reduceLT, Nat.reduceLeDiff, Nat.reduceEqDiff, Nat.reduceBEq, Nat.reduceBNe, b49, e50]
                    refine bsome h fun y52 hy52 h => ?_
                    refine cndJ 152 10000 (fun w => w [(7, .sl none (List.map enc_lex_Word v2.1)), (10, .int .i64 y4), (12, .str v23), (13, .sl none (List.map enc_lex_Word v36.1)), (16, .int .i64 v48), (17, .int .i64 y52)] []) (runX 10000 ?_) (fun Jy52 => ?_)
                    · clear hy52
                      simp only [go_sem, Nat.reduceAdd, Nat.reduceLT, Nat.reduceLeDiff, Nat.reduceEqDiff, Nat.reduceBEq, Nat.reduceBNe]
                      refine bsome h fun y56 hy56 h => ?_
                      refine rgJ 152 10000 (fun w => w [(7, .sl none (List.map enc_lex_Word v2.1)), (10, .int .i64 y4), (12, .str v23), (13, .sl none (List.map enc_lex_Word v36.1)), (16, .int .i64 v48), (150, .bool y56)] []) (runX 10000 ?_) (fun Jy56 => ?_)
                      · clear hy56
                        simp only [go_sem, Nat.reduceAdd, Nat.reduceLT, Nat.reduceLeDiff, Nat.reduceEqDiff, Nat.reduceBEq, Nat.reduceBNe]
                        refine cnd_s 10000 h (fun hb h => ?_) (fun hb h => ?_)
                        · skip
                          simp only [go_sem, Nat.reduceAdd, Nat.reduceLT, Nat.reduceLeDiff, Nat.reduceEqDiff, Nat.reduceBEq, Nat.reduceBNe]
                          refine ret_s (fun x => .bool x) h ?_
                          first | rfl | simp only [go_sem, resAV, resAll, resOne]
                        · skip
                          refine add_s h fun v72 _ e71 h => ?_
                          simp only [go_sem, Nat.reduceAdd, Nat.reduceLT, Nat.reduceLeDiff, Nat.reduceEqDiff, Nat.reduceBEq, Nat.reduceBNe, e71]
                          exact lp_back (ih1 v72 h) ⟨rfl, rfl, rfl, rfl, rfl, trivial⟩
                      · clear h
                        have h := hy56
                        refine lAt_s enc_lex_Word none .i64 ⟨37, 3, true, 32⟩ (fun _ => rfl) h fun v60 _ b58 e59 h => ?_
                        simp only [go_sem, Nat.reduceAdd, Nat.reduceLT, Nat.reduceLeDiff, Nat.reduceEqDiff, Nat.reduceBEq, Nat.reduceBNe, b58, e59, b49, e50]
                        refine grd_ (fun hb63 => ?_) (fun hb63 => ?_)
                        · skip
                          have h := ite_f hb63 h
                          simp only [go_sem, Nat.reduceAdd, Nat.reduceLT, Nat.reduceLeDiff, Nat.reduceEqDiff, Nat.reduceBEq, Nat.reduceBNe, b58, e59, b49, e50]
                          refine grd_ (fun hb68 => ?_) (fun hb68 => ?_)
                          · skip
                            have h := ite_f hb68 h
                            simp only [go_sem, Nat.reduceAdd, Nat.reduceLT, Nat.reduceLeDiff, Nat.reduceEqDiff, Nat.reduceBEq, Nat.reduceBNe, b58, e59]
                            obtain rfl := Option.some.inj h
                            exact atJ (wkn (Jy56) ⟨rfl, rfl, rfl, rfl, rfl, rfl, trivial⟩)
                          · skip
                            have h := ite_t hb68 h
                            simp only [go_sem, Nat.reduceAdd, Nat.reduceLT, Nat.reduceLeDiff, Nat.reduceEqDiff, Nat.reduceBEq, Nat.reduceBNe]
                            obtain rfl := Option.some.inj h
                            exact atJ (wkn (Jy56) ⟨rfl, rfl, rfl, rfl, rfl, rfl, trivial⟩)
                        · skip
                          have h := ite_t hb63 h
                          simp only [go_sem, Nat.reduceAdd, Nat.reduceLT, Nat.reduceLeDiff, Nat.reduceEqDiff, Nat.reduceBEq, Nat.reduceBNe]
                          obtain rfl := Option.some.inj h
                          exact atJ (wkn (Jy56) ⟨rfl, rfl, rfl, rfl, rfl, rfl, trivial⟩)
                    · clear h
                      have h := hy52
                      refine cnd_s 10000 h (fun hb h => ?_) (fun hb h => ?_)
                      · skip
                        refine add_s h fun v55 _ e54 h => ?_
                        simp only [go_sem, Nat.reduceAdd, Nat.reduceLT, Nat.reduceLeDiff, Nat.reduceEqDiff, Nat.reduceBEq, Nat.reduceBNe, e54]
                        obtain rfl := Option.some.inj h
                        exact atJ (wkn (Jy52) ⟨rfl, rfl, rfl, rfl, rfl, rfl, trivial⟩)
                      · skip
                        simp only [go_sem, Nat.reduceAdd, Nat.reduceLT, Nat.reduceLeDiff, Nat.reduceEqDiff, Nat.reduceBEq, Nat.reduceBNe]
                        obtain rfl := Option.some.inj h
                        exact atJ (wkn (Jy52) ⟨rfl, rfl, rfl, rfl, rfl, rfl, trivial⟩)
                  · skip
                    simp only [go_sem, Nat.reduceAdd, Nat.reduceLT, Nat.reduceLeDiff, Nat.reduceEqDiff, Nat.reduceBEq, Nat.reduceBNe]
                    exact atJ (wkn (JK47  h) trivial)
                · exact lp_back (L1 0 h) ⟨rfl, rfl, rfl, rfl, rfl, trivial⟩
      · clear h
        have h := hy4
        refine cnd_s 10000 h (fun hb h => ?_) (fun hb h => ?_)
        · skip
          refine rem_s .i64 h fun v8 _ b7 e6 h => ?_
          simp only [go_sem, Nat.reduceAdd, Nat.reduceLT, Nat.reduceLeDiff, Nat.reduceEqDiff, Nat.reduceBEq, Nat.reduceBNe, e6, b7, ne_eq, not_false_eq_true]
          refine bsome h fun y9 hy9 h => ?_
          refine cndJ 152 10000 (fun w => w [(0, .str s), (2, .int .u8 blank), (7, .sl none (List.map enc_lex_Word v2.1)), (8, .int .i64 v2.2.1), (9, encE 47 v2.2.2), (11, .int .i64 y9)] []) (runX 10000 ?_) (fun Jy9 => ?_)
          · clear hy9
            refine lAt_s enc_lex_Word none .i64 ⟨37, 3, true, 32⟩ (fun _ => rfl) h fun v15 _ b13 e14 h => ?_
            simp only [go_sem, Nat.reduceAdd, Nat.reduceLT, Nat.reduceLeDiff, Nat.reduceEqDiff, Nat.reduceBEq, Nat.reduceBNe, b13, e14]
            obtain rfl := Option.some.inj h
            exact atJ (wkn (Jy4) ⟨rfl, rfl, rfl, rfl, rfl, rfl, trivial⟩)
          · clear h
            have h := hy9
            refine cnd_s 10000 h (fun hb h => ?_) (fun hb h => ?_)
            · skip
              refine add_s h fun v12 _ e11 h => ?_
              simp only [go_sem, Nat.reduceAdd, Nat.reduceLT, Nat.reduceLeDiff, Nat.reduceEqDiff, Nat.reduceBEq, Nat.reduceBNe, e11]
              obtain rfl := Option.some.inj h
              exact atJ (wkn (Jy9) ⟨rfl, rfl, rfl, rfl, rfl, rfl, trivial⟩)
            · skip
              simp only [go_sem, Nat.reduceAdd, Nat.reduceLT, Nat.reduceLeDiff, Nat.reduceEqDiff, Nat.reduceBEq, Nat.reduceBNe]
              obtain rfl := Option.some.inj h
              exact atJ (wkn (Jy9) ⟨rfl, rfl, rfl, rfl, rfl, rfl, trivial⟩)
        · skip
          simp only [go_sem, Nat.reduceAdd, Nat.reduceLT, Nat.reduceLeDiff, Nat.reduceEqDiff, Nat.reduceBEq, Nat.reduceBNe]
          refine bsome h fun y16 hy16 h => ?_
          refine cndJ 152 10000 (fun w => w [(0, .str s), (2, .int .u8 blank), (7, .sl none (List.map enc_lex_Word v2.1)), (8, .int .i64 v2.2.1), (9, encE 47 v2.2.2), (10, .int .i64 y16)] []) (runX 10000 ?_) (fun Jy16 => ?_)
          · clear hy16
            simp only [go_sem, Nat.reduceAdd, Nat.reduceLT, Nat.reduceLeDiff, Nat.reduceEqDiff, Nat.reduceBEq, Nat.reduceBNe]
            obtain rfl := Option.some.inj h
            exact atJ (wkn (Jy4) ⟨rfl, rfl, rfl, rfl, rfl, rfl, trivial⟩)
          · clear h
            have h := hy16
            refine cnd_s 10000 h (fun hb h => ?_) (fun hb h => ?_)
            · skip
              simp only [go_sem, Nat.reduceAdd, Nat.reduceLT, Nat.reduceLeDiff, Nat.reduceEqDiff, Nat.reduceBEq, Nat.reduceBNe]
              obtain rfl := Option.some.inj h
              exact atJ (wkn (Jy16) ⟨rfl, rfl, rfl, rfl, rfl, rfl, trivial⟩)
            · skip
              simp only [go_sem, Nat.reduceAdd, Nat.reduceLT, Nat.reduceLeDiff, Nat.reduceEqDiff, Nat.reduceBEq, Nat.reduceBNe]
              obtain rfl := Option.some.inj h
              exact atJ (wkn (Jy16) ⟨rfl, rfl, rfl, rfl, rfl, rfl, trivial⟩)
    · skip
      simp only [go_sem, Nat.reduceAdd, Nat.reduceLT, Nat.reduceLeDiff, Nat.reduceEqDiff, Nat.reduceBEq, Nat.reduceBNe]
      refine grd_ (fun hb74 => ?_) (fun hb74 => ?_)
      · skip
        simp only [go_sem, Nat.reduceAdd, Nat.reduceLT, Nat.reduceLeDiff, Nat.reduceEqDiff, Nat.reduceBEq, Nat.reduceBNe]
        exact atJ (wkn Jg3 ⟨rfl, rfl, rfl, rfl, rfl, rfl, rfl, congrArg AV.bool (by first | rfl | (rw [hb74]; rfl) | (simp [hb74]; done) | simp_all), trivial⟩)
      · skip
        simp only [go_sem, Nat.reduceAdd, Nat.reduceLT, Nat.reduceLeDiff, Nat.reduceEqDiff, Nat.reduceBEq, Nat.reduceBNe]
        exact atJ (wkn Jg3 ⟨rfl, rfl, rfl, rfl, rfl, rfl, rfl, congrArg AV.bool (by first | rfl | (rw [hb74]; rfl) | (simp [hb74]; done) | simp_all), trivial⟩)
end Go.Cq

