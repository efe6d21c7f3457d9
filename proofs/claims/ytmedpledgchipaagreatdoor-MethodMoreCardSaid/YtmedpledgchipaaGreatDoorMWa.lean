import Derived.Test.YtmedpledgchipaaGreatDoorMEn
import Derived.Test.YtmedpledgchipaaGreatDoorMHa
set_option linter.unusedSectionVars false
set_option linter.unusedVariables false
set_option linter.unusedSimpArgs false
set_option linter.unnecessarySimpa false
set_option maxRecDepth 100000
set_option maxHeartbeats 4000000
namespace Go.Cq
open Go Go.Av Go.Proofs
variable [Lay] [SeatLay]
attribute [local irreducible] hold ex W Wr nd cndV rgO exitO grdO grdV grdG callX alcX stX nckX
theorem w_slices_IndexFunc_Lbyte_byte {s : (List Int)} {p1_f : (Int → Option Bool)}  (fv_p1_f : FuncId) (hf_p1_f : ∀ (a0 : Int) (z : Bool), p1_f a0 = some z → ACall Tryz.prog fv_p1_f [.int .u8 a0] [] (.bool z) []) {r : Int} (h : slices_IndexFunc_Lbyte_byte s p1_f = some r) : ACall Tryz.prog 109 [.sl none (List.map (AV.int .u8) s), .fn (.func fv_p1_f) [] []] [] (.int .i64 r) [] := by
  refine acallX 10000 hf109 ok109 (by first | rfl | simp only [go_sem]) meek_int ?_
  dsimp only [Tryz.f109, nums, Option.getD, List.append]
  unfold slices_IndexFunc_Lbyte_byte at h
  simp only [go_sem, seval]
  refine letK_s h fun K2 hK2 h => ?_
  refine blkJ 19 10000 (fun w => K2 () = some r → w [] []) (fun  h => runX 10000 ?_) (fun JK2 => ?_)
  · subst hK2
    dsimp only at h
    simp only [go_sem, seval]
    refine ret_s (fun x => .int .i64 x) h ?_
    first | rfl | simp only [go_sem, resAV, resAll, resOne, seval]
  · clear hK2
    simp only [go_sem, seval]
    refine lpJ 19 fuel (fun q1 w => ∀ (v3 : Int), slices_IndexFunc_Lbyte_byte_l1 s p1_f K2 q1 v3 = some r → w [(0, .sl none (List.map (AV.int .u8) s)), (1, .fn (.func fv_p1_f) [] []), (7, .int .i64 (s.length : Int)), (8, .int .i64 v3)] []) (fun w _ h => nomatch h) (fun q1 ih1 v3 h => ?_) (fun L1 => ?_)
    · unfold slices_IndexFunc_Lbyte_byte_l1 at h
      refine runL 10000 ?_
      simp only [go_sem, seval]
      refine cnd_s 10000 h (fun hb h => ?_) (fun hb h => ?_)
      · simp only [go_sem, seval]
        refine blk_ 10000 ?_
        refine lAt_s (AV.int .u8) none .i64 ⟨5, 1, false, 1⟩ (fun _ => rfl) h fun v6 _ b4 e5 h => ?_
        refine bsome h fun v7 hv7 h => ?_
        simp only [go_sem, seval, b4, e5]
        refine callX_ 10000 (hf_p1_f _ _ hv7) (by first | rfl | simp only [go_sem]) (by first | rfl | simp only [go_sem]) ?_
        simp only [go_sem, seval]
        refine cnd_s 10000 h (fun hb h => ?_) (fun hb h => ?_)
        · simp only [go_sem, seval]
          refine ret_s (fun x => .int .i64 x) h ?_
          first | rfl | simp only [go_sem, resAV, resAll, resOne, seval]
        · refine add_s h fun v9 _ e8 h => ?_
          simp only [go_sem, seval, e8]
          exact lp_back (ih1 v9 h) ⟨rfl, rfl, rfl, rfl, trivial⟩
      · simp only [go_sem, seval]
        exact atJ (wkn (JK2  h) trivial)
    · exact lp_back (L1 0 h) ⟨rfl, rfl, rfl, rfl, trivial⟩
theorem w_slices_ContainsFunc_Lbyte_byte {s : (List Int)} {p1_f : (Int → Option Bool)}  (fv_p1_f : FuncId) (hf_p1_f : ∀ (a0 : Int) (z : Bool), p1_f a0 = some z → ACall Tryz.prog fv_p1_f [.int .u8 a0] [] (.bool z) []) {r : Bool} (h : slices_ContainsFunc_Lbyte_byte s p1_f = some r) : ACall Tryz.prog 80 [.sl none (List.map (AV.int .u8) s), .fn (.func fv_p1_f) [] []] [] (.bool r) [] := by
  refine acallX 10000 hf80 ok80 (by first | rfl | simp only [go_sem]) meek_bool ?_
  dsimp only [Tryz.f80, nums, Option.getD, List.append]
  unfold slices_ContainsFunc_Lbyte_byte at h
  refine bsome h fun v1 hv1 h => ?_
  simp only [go_sem, seval]
  refine callX_ 10000 (w_slices_IndexFunc_Lbyte_byte fv_p1_f hf_p1_f hv1) (by first | rfl | simp only [go_sem]) (by first | rfl | simp only [go_sem]) ?_
  simp only [go_sem, seval]
  refine ret_s (fun x => .bool x) h ?_
  first | rfl | simp only [go_sem, resAV, resAll, resOne, seval]
theorem w_method_letter {c : Int}   {r : Bool} (h : method_letter c = some r) : ACall Tryz.prog 82 [.int .u8 c] [] (.bool r) [] := by
  refine acallX 10000 hf82 ok82 (by first | rfl | simp only [go_sem]) meek_bool ?_
  dsimp only [Tryz.f82, nums, Option.getD, List.append]
  unfold method_letter at h
  simp only [go_sem, seval]
  refine rgJ 25 10000 (.inl rfl) (fun w => w [(2, .bool ((((decide ((97 : Int) ≤ c)) && (decide (c ≤ 122))) || ((decide ((65 : Int) ≤ c)) && (decide (c ≤ 90)))) || ((decide ((48 : Int) ≤ c)) && (decide (c ≤ 57)))))] []) (runX 10000 ?_) (fun Jg1 => ?_)
  · simp only [go_sem, seval]
    refine ret_s (fun x => .bool x) h ?_
    first | rfl | simp only [go_sem, resAV, resAll, resOne, seval]
  · simp only [go_sem, seval]
    refine grd_ (fun hb2 => ?_) (fun hb2 => ?_)
    · simp only [go_sem, seval]
      refine grd_ (fun hb3 => ?_) (fun hb3 => ?_)
      · simp only [go_sem, seval]
        refine grd_ (fun hb4 => ?_) (fun hb4 => ?_)
        · simp only [go_sem, seval]
          refine grd_ (fun hb5 => ?_) (fun hb5 => ?_)
          · simp only [go_sem, seval]
            refine grd_ (fun hb6 => ?_) (fun hb6 => ?_)
            · simp only [go_sem, seval]
              exact atJ (wkn Jg1 ⟨congrArg AV.bool (by first | rfl | (rw [hb2, hb3, hb4, hb5, hb6]; rfl) | (simp [hb2, hb3, hb4, hb5, hb6]; done) | simp_all), trivial⟩)
            · simp only [go_sem, seval]
              exact atJ (wkn Jg1 ⟨congrArg AV.bool (by first | rfl | (rw [hb2, hb3, hb4, hb5, hb6]; rfl) | (simp [hb2, hb3, hb4, hb5, hb6]; done) | simp_all), trivial⟩)
          · simp only [go_sem, seval]
            exact atJ (wkn Jg1 ⟨congrArg AV.bool (by first | rfl | (rw [hb2, hb3, hb4, hb5]; rfl) | (simp [hb2, hb3, hb4, hb5]; done) | simp_all), trivial⟩)
        · simp only [go_sem, seval]
          refine grd_ (fun hb7 => ?_) (fun hb7 => ?_)
          · simp only [go_sem, seval]
            exact atJ (wkn Jg1 ⟨congrArg AV.bool (by first | rfl | (rw [hb2, hb3, hb4, hb7]; rfl) | (simp [hb2, hb3, hb4, hb7]; done) | simp_all), trivial⟩)
          · simp only [go_sem, seval]
            exact atJ (wkn Jg1 ⟨congrArg AV.bool (by first | rfl | (rw [hb2, hb3, hb4, hb7]; rfl) | (simp [hb2, hb3, hb4, hb7]; done) | simp_all), trivial⟩)
      · simp only [go_sem, seval]
        exact atJ (wkn Jg1 ⟨congrArg AV.bool (by first | rfl | (rw [hb2, hb3]; rfl) | (simp [hb2, hb3]; done) | simp_all), trivial⟩)
    · simp only [go_sem, seval]
      refine grd_ (fun hb8 => ?_) (fun hb8 => ?_)
      · simp only [go_sem, seval]
        refine grd_ (fun hb9 => ?_) (fun hb9 => ?_)
        · simp only [go_sem, seval]
          refine grd_ (fun hb10 => ?_) (fun hb10 => ?_)
          · simp only [go_sem, seval]
            exact atJ (wkn Jg1 ⟨congrArg AV.bool (by first | rfl | (rw [hb2, hb8, hb9, hb10]; rfl) | (simp [hb2, hb8, hb9, hb10]; done) | simp_all), trivial⟩)
          · simp only [go_sem, seval]
            exact atJ (wkn Jg1 ⟨congrArg AV.bool (by first | rfl | (rw [hb2, hb8, hb9, hb10]; rfl) | (simp [hb2, hb8, hb9, hb10]; done) | simp_all), trivial⟩)
        · simp only [go_sem, seval]
          exact atJ (wkn Jg1 ⟨congrArg AV.bool (by first | rfl | (rw [hb2, hb8, hb9]; rfl) | (simp [hb2, hb8, hb9]; done) | simp_all), trivial⟩)
      · simp only [go_sem, seval]
        refine grd_ (fun hb11 => ?_) (fun hb11 => ?_)
        · simp only [go_sem, seval]
          exact atJ (wkn Jg1 ⟨congrArg AV.bool (by first | rfl | (rw [hb2, hb8, hb11]; rfl) | (simp [hb2, hb8, hb11]; done) | simp_all), trivial⟩)
        · simp only [go_sem, seval]
          exact atJ (wkn Jg1 ⟨congrArg AV.bool (by first | rfl | (rw [hb2, hb8, hb11]; rfl) | (simp [hb2, hb8, hb11]; done) | simp_all), trivial⟩)
theorem w_method_name_1 {c : Int}   {r : Bool} (h : method_name_1 c = some r) : ACall Tryz.prog 81 [.int .u8 c] [] (.bool r) [] := by
  refine acallX 10000 hf81 ok81 (by first | rfl | simp only [go_sem]) meek_bool ?_
  dsimp only [Tryz.f81, nums, Option.getD, List.append]
  unfold method_name_1 at h
  refine bsome h fun v1 hv1 h => ?_
  simp only [go_sem, seval]
  refine callX_ 10000 (w_method_letter  hv1) (by first | rfl | simp only [go_sem]) (by first | rfl | simp only [go_sem]) ?_
  simp only [go_sem, seval]
  refine ret_s (fun x => .bool x) h ?_
  first | rfl | simp only [go_sem, resAV, resAll, resOne, seval]
theorem w_method_name {s : Str}   {r : Bool} (h : method_name s = some r) : ACall Tryz.prog 44 [.str s] [] (.bool r) [] := by
  refine acallX 10000 hf44 ok44 (by first | rfl | simp only [go_sem]) meek_bool ?_
  dsimp only [Tryz.f44, nums, Option.getD, List.append]
  unfold method_name at h
  simp only [go_sem, seval]
  refine bsome h fun y1 hy1 h => ?_
  refine rgJ 19 10000 (.inl rfl) (fun w => w [(0, .str s), (14, .bool y1)] []) (runX 10000 ?_) (fun Jy1 => ?_)
  · clear hy1
    simp only [go_sem, seval]
    refine cnd_s 10000 h (fun hb h => ?_) (fun hb h => ?_)
    · simp only [go_sem, seval]
      refine ret_s (fun x => .bool x) h ?_
      first | rfl | simp only [go_sem, resAV, resAll, resOne, seval]
    · refine bsome h fun v10 hv10 h => ?_
      simp only [go_sem, seval, (bytes_e (P := Tryz.prog) (s := 9) (d := 26) (by rw [kd26]; rfl) (by rw [kd26]; rfl) s)]
      refine callX_ 10000 (w_slices_ContainsFunc_Lbyte_byte 81 (fun _ _ h => w_method_name_1 h) hv10) (by first | rfl | simp only [go_sem]) (by first | rfl | simp only [go_sem]) ?_
      simp only [go_sem, seval]
      refine ret_s (fun x => .bool x) h ?_
      first | rfl | simp only [go_sem, resAV, resAll, resOne, seval]
  · clear h
    have h := hy1
    simp only [go_sem, seval]
    refine grd_ (fun hb3 => ?_) (fun hb3 => ?_)
    · have h := ite_f hb3 h
      refine sIdx_s .i64 h fun v6 _ b4 e5 h => ?_
      simp only [go_sem, seval, b4, e5]
      refine grd_ (fun hb7 => ?_) (fun hb7 => ?_)
      · have h := ite_f hb7 h
        simp only [go_sem, seval, b4, e5]
        obtain rfl := Option.some.inj h
        exact atJ (wkn (Jy1) ⟨rfl, rfl, trivial⟩)
      · have h := ite_t hb7 h
        simp only [go_sem, seval]
        obtain rfl := Option.some.inj h
        exact atJ (wkn (Jy1) ⟨rfl, rfl, trivial⟩)
    · have h := ite_t hb3 h
      simp only [go_sem, seval]
      obtain rfl := Option.some.inj h
      exact atJ (wkn (Jy1) ⟨rfl, rfl, trivial⟩)
theorem w_internal_stringslite_HasSuffix {s : Str} {suffix : Str}   {r : Bool} (h : internal_stringslite_HasSuffix s suffix = some r) : ACall Tryz.prog 90 [.str s, .str suffix] [] (.bool r) [] := by
  refine acallX 10000 hf90 ok90 (by first | rfl | simp only [go_sem]) meek_bool ?_
  dsimp only [Tryz.f90, nums, Option.getD, List.append]
  unfold internal_stringslite_HasSuffix at h
  simp only [go_sem, seval]
  refine bsome h fun y1 hy1 h => ?_
  refine rgJ 21 10000 (.inl rfl) (fun w => w [(4, .bool y1)] []) (runX 10000 ?_) (fun Jy1 => ?_)
  · clear hy1
    simp only [go_sem, seval]
    refine ret_s (fun x => .bool x) h ?_
    first | rfl | simp only [go_sem, resAV, resAll, resOne, seval]
  · clear h
    have h := hy1
    simp only [go_sem, seval]
    refine grd_ (fun hb3 => ?_) (fun hb3 => ?_)
    · have h := ite_t hb3 h
      refine sub_s h fun v5 _ e4 h => ?_
      refine subS_s (some (.int .i64 v5)) none rfl rfl h fun v8 _ b6 e7 h => ?_
      simp only [go_sem, seval, e4, b6, e7]
      obtain rfl := Option.some.inj h
      exact atJ (wkn (Jy1) ⟨rfl, trivial⟩)
    · have h := ite_f hb3 h
      simp only [go_sem, seval]
      obtain rfl := Option.some.inj h
      exact atJ (wkn (Jy1) ⟨rfl, trivial⟩)
theorem w_strings_HasSuffix {s : Str} {suffix : Str}   {r : Bool} (h : strings_HasSuffix s suffix = some r) : ACall Tryz.prog 46 [.str s, .str suffix] [] (.bool r) [] := by
  refine acallX 10000 hf46 ok46 (by first | rfl | simp only [go_sem]) meek_bool ?_
  dsimp only [Tryz.f46, nums, Option.getD, List.append]
  unfold strings_HasSuffix at h
  refine bsome h fun v1 hv1 h => ?_
  simp only [go_sem, seval]
  refine callX_ 10000 (w_internal_stringslite_HasSuffix  hv1) (by first | rfl | simp only [go_sem]) (by first | rfl | simp only [go_sem]) ?_
  simp only [go_sem, seval]
  refine ret_s (fun x => .bool x) h ?_
  first | rfl | simp only [go_sem, resAV, resAll, resOne, seval]
theorem w_internal_stringslite_TrimSuffix {s : Str} {suffix : Str}   {r : Str} (h : internal_stringslite_TrimSuffix s suffix = some r) : ACall Tryz.prog 92 [.str s, .str suffix] [] (.str r) [] := by
  refine acallX 10000 hf92 ok92 (by first | rfl | simp only [go_sem]) meek_str ?_
  dsimp only [Tryz.f92, nums, Option.getD, List.append]
  unfold internal_stringslite_TrimSuffix at h
  refine bsome h fun v1 hv1 h => ?_
  simp only [go_sem, seval]
  refine callX_ 10000 (w_internal_stringslite_HasSuffix  hv1) (by first | rfl | simp only [go_sem]) (by first | rfl | simp only [go_sem]) ?_
  simp only [go_sem, seval]
  refine cnd_s 10000 h (fun hb h => ?_) (fun hb h => ?_)
  · refine sub_s h fun v3 _ e2 h => ?_
    refine subS_s none (some (.int .i64 v3)) rfl rfl h fun v6 _ b4 e5 h => ?_
    simp only [go_sem, seval, e2, b4, e5]
    refine ret_s (fun x => .str x) h ?_
    first | rfl | simp only [go_sem, resAV, resAll, resOne, seval]
  · simp only [go_sem, seval]
    refine ret_s (fun x => .str x) h ?_
    first | rfl | simp only [go_sem, resAV, resAll, resOne, seval]
theorem w_strings_TrimSuffix {s : Str} {suffix : Str}   {r : Str} (h : strings_TrimSuffix s suffix = some r) : ACall Tryz.prog 48 [.str s, .str suffix] [] (.str r) [] := by
  refine acallX 10000 hf48 ok48 (by first | rfl | simp only [go_sem]) meek_str ?_
  dsimp only [Tryz.f48, nums, Option.getD, List.append]
  unfold strings_TrimSuffix at h
  refine bsome h fun v1 hv1 h => ?_
  simp only [go_sem, seval]
  refine callX_ 10000 (w_internal_stringslite_TrimSuffix  hv1) (by first | rfl | simp only [go_sem]) (by first | rfl | simp only [go_sem]) ?_
  simp only [go_sem, seval]
  refine ret_s (fun x => .str x) h ?_
  first | rfl | simp only [go_sem, resAV, resAll, resOne, seval]
theorem w_slices_IndexFunc_Lstring_string {s : (List Str)} {p1_f : (Str → Option Bool)}  (fv_p1_f : FuncId) (hf_p1_f : ∀ (a0 : Str) (z : Bool), p1_f a0 = some z → ACall Tryz.prog fv_p1_f [.str a0] [] (.bool z) []) {r : Int} (h : slices_IndexFunc_Lstring_string s p1_f = some r) : ACall Tryz.prog 93 [.sl none (List.map AV.str s), .fn (.func fv_p1_f) [] []] [] (.int .i64 r) [] := by
  refine acallX 10000 hf93 ok93 (by first | rfl | simp only [go_sem]) meek_int ?_
  dsimp only [Tryz.f93, nums, Option.getD, List.append]
  unfold slices_IndexFunc_Lstring_string at h
  simp only [go_sem, seval]
  refine letK_s h fun K2 hK2 h => ?_
  refine blkJ 19 10000 (fun w => K2 () = some r → w [] []) (fun  h => runX 10000 ?_) (fun JK2 => ?_)
  · subst hK2
    dsimp only at h
    simp only [go_sem, seval]
    refine ret_s (fun x => .int .i64 x) h ?_
    first | rfl | simp only [go_sem, resAV, resAll, resOne, seval]
  · clear hK2
    simp only [go_sem, seval]
    refine lpJ 19 fuel (fun q1 w => ∀ (v3 : Int), slices_IndexFunc_Lstring_string_l1 s p1_f K2 q1 v3 = some r → w [(0, .sl none (List.map AV.str s)), (1, .fn (.func fv_p1_f) [] []), (7, .int .i64 (s.length : Int)), (8, .int .i64 v3)] []) (fun w _ h => nomatch h) (fun q1 ih1 v3 h => ?_) (fun L1 => ?_)
    · unfold slices_IndexFunc_Lstring_string_l1 at h
      refine runL 10000 ?_
      simp only [go_sem, seval]
      refine cnd_s 10000 h (fun hb h => ?_) (fun hb h => ?_)
      · simp only [go_sem, seval]
        refine blk_ 10000 ?_
        refine lAt_s AV.str none .i64 ⟨9, 1, false, 16⟩ (fun _ => rfl) h fun v6 _ b4 e5 h => ?_
        refine bsome h fun v7 hv7 h => ?_
        simp only [go_sem, seval, b4, e5]
        refine callX_ 10000 (hf_p1_f _ _ hv7) (by first | rfl | simp only [go_sem]) (by first | rfl | simp only [go_sem]) ?_
        simp only [go_sem, seval]
        refine cnd_s 10000 h (fun hb h => ?_) (fun hb h => ?_)
        · simp only [go_sem, seval]
          refine ret_s (fun x => .int .i64 x) h ?_
          first | rfl | simp only [go_sem, resAV, resAll, resOne, seval]
        · refine add_s h fun v9 _ e8 h => ?_
          simp only [go_sem, seval, e8]
          exact lp_back (ih1 v9 h) ⟨rfl, rfl, rfl, rfl, trivial⟩
      · simp only [go_sem, seval]
        exact atJ (wkn (JK2  h) trivial)
    · exact lp_back (L1 0 h) ⟨rfl, rfl, rfl, rfl, trivial⟩
theorem w_slices_ContainsFunc_Lstring_string {s : (List Str)} {p1_f : (Str → Option Bool)}  (fv_p1_f : FuncId) (hf_p1_f : ∀ (a0 : Str) (z : Bool), p1_f a0 = some z → ACall Tryz.prog fv_p1_f [.str a0] [] (.bool z) []) {r : Bool} (h : slices_ContainsFunc_Lstring_string s p1_f = some r) : ACall Tryz.prog 49 [.sl none (List.map AV.str s), .fn (.func fv_p1_f) [] []] [] (.bool r) [] := by
  refine acallX 10000 hf49 ok49 (by first | rfl | simp only [go_sem]) meek_bool ?_
  dsimp only [Tryz.f49, nums, Option.getD, List.append]
  unfold slices_ContainsFunc_Lstring_string at h
  refine bsome h fun v1 hv1 h => ?_
  simp only [go_sem, seval]
  refine callX_ 10000 (w_slices_IndexFunc_Lstring_string fv_p1_f hf_p1_f hv1) (by first | rfl | simp only [go_sem]) (by first | rfl | simp only [go_sem]) ?_
  simp only [go_sem, seval]
  refine ret_s (fun x => .bool x) h ?_
  first | rfl | simp only [go_sem, resAV, resAll, resOne, seval]
theorem w_method_Arity_1 {s : Str}   {r : Bool} (h : method_Arity_1 s = some r) : ACall Tryz.prog 50 [.str s] [] (.bool r) [] := by
  refine acallX 10000 hf50 ok50 (by first | rfl | simp only [go_sem]) meek_bool ?_
  dsimp only [Tryz.f50, nums, Option.getD, List.append]
  unfold method_Arity_1 at h
  refine bsome h fun v1 hv1 h => ?_
  simp only [go_sem, seval]
  refine callX_ 10000 (w_method_name  hv1) (by first | rfl | simp only [go_sem]) (by first | rfl | simp only [go_sem]) ?_
  simp only [go_sem, seval]
  refine ret_s (fun x => .bool x) h ?_
  first | rfl | simp only [go_sem, resAV, resAll, resOne, seval]
theorem w_method_Arity {sel : Str}   {r : (Int × Bool)} (h : method_Arity sel = some r) : ACall Tryz.prog 20 [.str sel] [] (.tup [.int .i64 r.1, .bool r.2]) [] := by
  refine acallX 10000 hf20 ok20 (by first | rfl | simp only [go_sem]) meek_tup ?_
  dsimp only [Tryz.f20, nums, Option.getD, List.append]
  unfold method_Arity at h
  simp only [go_sem, seval]
  refine blk_ 10000 ?_
  simp only [go_sem, seval]
  refine rgJ 41 10000 (.inl rfl) (fun w => w [(0, .str sel), (5, .bool ((sel == []) || (decide ((64 : Int) < (sel.length : Int)))))] []) (runX 10000 ?_) (fun Jg1 => ?_)
  · simp only [go_sem, seval]
    refine cnd_s 10000 h (fun hb h => ?_) (fun hb h => ?_)
    · simp only [go_sem, seval]
      refine ret_s (fun x => .tup [.int .i64 x.1, .bool x.2]) h ?_
      first | rfl | simp only [go_sem, resAV, resAll, resOne, seval]
    · refine bsome h fun v2 hv2 h => ?_
      simp only [go_sem, seval]
      refine callX_ 10000 (w_method_name  hv2) (by first | rfl | simp only [go_sem]) (by first | rfl | simp only [go_sem]) ?_
      simp only [go_sem, seval]
      refine cnd_s 10000 h (fun hb h => ?_) (fun hb h => ?_)
      · simp only [go_sem, seval]
        refine ret_s (fun x => .tup [.int .i64 x.1, .bool x.2]) h ?_
        first | rfl | simp only [go_sem, resAV, resAll, resOne, seval]
      · simp only [go_sem, seval]
        refine bsome h fun y3 hy3 h => ?_
        refine rgJ 41 10000 (.inl rfl) (fun w => w [(0, .str sel), (16, .bool y3)] []) (runX 10000 ?_) (fun Jy3 => ?_)
        · clear hy3
          simp only [go_sem, seval]
          refine cnd_s 10000 h (fun hb h => ?_) (fun hb h => ?_)
          · simp only [go_sem, seval]
            refine ret_s (fun x => .tup [.int .i64 x.1, .bool x.2]) h ?_
            first | rfl | simp only [go_sem, resAV, resAll, resOne, seval]
          · refine bsome h fun v7 hv7 h => ?_
            simp only [go_sem, seval]
            refine callX_ 10000 (w_strings_HasSuffix  hv7) (by first | rfl | simp only [go_sem]) (by first | rfl | simp only [go_sem]) ?_
            simp only [go_sem, seval]
            refine cnd_s 10000 h (fun hb h => ?_) (fun hb h => ?_)
            · simp only [go_sem, seval]
              refine ret_s (fun x => .tup [.int .i64 x.1, .bool x.2]) h ?_
              first | rfl | simp only [go_sem, resAV, resAll, resOne, seval]
            · refine bsome h fun v8 hv8 h => ?_
              simp only [go_sem, seval]
              refine callX_ 10000 (w_strings_TrimSuffix  hv8) (by first | rfl | simp only [go_sem]) (by first | rfl | simp only [go_sem]) ?_
              refine bsome h fun v9 hv9 h => ?_
              simp only [go_sem, seval]
              refine callX_ 10000 (w_strings_Split  hv9) (by first | rfl | simp only [go_sem]) (by first | rfl | simp only [go_sem]) ?_
              simp only [go_sem, seval]
              refine bsome h fun y10 hy10 h => ?_
              refine rgJ 41 10000 (.inl rfl) (fun w => w [(4, .sl none (List.map AV.str v9)), (38, .bool y10)] []) (runX 10000 ?_) (fun Jy10 => ?_)
              · clear hy10
                simp only [go_sem, seval]
                refine cnd_s 10000 h (fun hb h => ?_) (fun hb h => ?_)
                · simp only [go_sem, seval]
                  refine ret_s (fun x => .tup [.int .i64 x.1, .bool x.2]) h ?_
                  first | rfl | simp only [go_sem, resAV, resAll, resOne, seval]
                · simp only [go_sem, seval]
                  refine ret_s (fun x => .tup [.int .i64 x.1, .bool x.2]) h ?_
                  first | rfl | simp only [go_sem, resAV, resAll, resOne, seval]
              · clear h
                have h := hy10
                simp only [go_sem, seval]
                refine grd_ (fun hb12 => ?_) (fun hb12 => ?_)
                · have h := ite_f hb12 h
                  refine bsome h fun v13 hv13 h => ?_
                  simp only [go_sem, seval]
                  refine callX_ 10000 (w_slices_ContainsFunc_Lstring_string 50 (fun _ _ h => w_method_Arity_1 h) hv13) (by first | rfl | simp only [go_sem]) (by first | rfl | simp only [go_sem]) ?_
                  simp only [go_sem, seval]
                  obtain rfl := Option.some.inj h
                  exact atJ (wkn (Jy10) ⟨rfl, rfl, trivial⟩)
                · have h := ite_t hb12 h
                  simp only [go_sem, seval]
                  obtain rfl := Option.some.inj h
                  exact atJ (wkn (Jy10) ⟨rfl, rfl, trivial⟩)
        · clear h
          have h := hy3
          refine bsome h fun v5 hv5 h => ?_
          simp only [go_sem, seval]
          refine callX_ 10000 (w_strings_Trim  hv5) (by first | rfl | simp only [go_sem]) (by first | rfl | simp only [go_sem]) ?_
          simp only [go_sem, seval]
          refine grd_ (fun hb6 => ?_) (fun hb6 => ?_)
          · have h := ite_t hb6 h
            simp only [go_sem, seval]
            obtain rfl := Option.some.inj h
            exact atJ (wkn (Jy3) ⟨rfl, rfl, trivial⟩)
          · have h := ite_f hb6 h
            simp only [go_sem, seval]
            obtain rfl := Option.some.inj h
            exact atJ (wkn (Jy3) ⟨rfl, rfl, trivial⟩)
  · simp only [go_sem, seval]
    refine grd_ (fun hb14 => ?_) (fun hb14 => ?_)
    · simp only [go_sem, seval]
      exact atJ (wkn Jg1 ⟨rfl, congrArg AV.bool (by first | rfl | (rw [hb14]; rfl) | (simp [hb14]; done) | simp_all), trivial⟩)
    · simp only [go_sem, seval]
      exact atJ (wkn Jg1 ⟨rfl, congrArg AV.bool (by first | rfl | (rw [hb14]; rfl) | (simp [hb14]; done) | simp_all), trivial⟩)
theorem w_slices_IndexFunc_Lmethod_Lit_method_Lit {s : (List method_Lit)} {p1_f : (method_Lit → Option Bool)}  (fv_p1_f : FuncId) (hf_p1_f : ∀ (a0 : method_Lit) (z : Bool), p1_f a0 = some z → ACall Tryz.prog fv_p1_f [enc_method_Lit a0] [] (.bool z) []) {r : Int} (h : slices_IndexFunc_Lmethod_Lit_method_Lit s p1_f = some r) : ACall Tryz.prog 51 [.sl none (List.map enc_method_Lit s), .fn (.func fv_p1_f) [] []] [] (.int .i64 r) [] := by
  refine acallX 10000 hf51 ok51 (by first | rfl | simp only [go_sem]) meek_int ?_
  dsimp only [Tryz.f51, nums, Option.getD, List.append]
  unfold slices_IndexFunc_Lmethod_Lit_method_Lit at h
  simp only [go_sem, seval]
  refine letK_s h fun K2 hK2 h => ?_
  refine blkJ 19 10000 (fun w => K2 () = some r → w [] []) (fun  h => runX 10000 ?_) (fun JK2 => ?_)
  · subst hK2
    dsimp only at h
    simp only [go_sem, seval]
    refine ret_s (fun x => .int .i64 x) h ?_
    first | rfl | simp only [go_sem, resAV, resAll, resOne, seval]
  · clear hK2
    simp only [go_sem, seval]
    refine lpJ 19 fuel (fun q1 w => ∀ (v3 : Int), slices_IndexFunc_Lmethod_Lit_method_Lit_l1 s p1_f K2 q1 v3 = some r → w [(0, .sl none (List.map enc_method_Lit s)), (1, .fn (.func fv_p1_f) [] []), (7, .int .i64 (s.length : Int)), (8, .int .i64 v3)] []) (fun w _ h => nomatch h) (fun q1 ih1 v3 h => ?_) (fun L1 => ?_)
    · unfold slices_IndexFunc_Lmethod_Lit_method_Lit_l1 at h
      refine runL 10000 ?_
      simp only [go_sem, seval]
      refine cnd_s 10000 h (fun hb h => ?_) (fun hb h => ?_)
      · simp only [go_sem, seval]
        refine blk_ 10000 ?_
        refine lAt_s enc_method_Lit none .i64 ⟨62, 2, true, 24⟩ (fun _ => rfl) h fun v6 _ b4 e5 h => ?_
        refine bsome h fun v7 hv7 h => ?_
        simp only [go_sem, seval, b4, e5]
        refine callX_ 10000 (hf_p1_f _ _ hv7) (by first | rfl | simp only [go_sem]) (by first | rfl | simp only [go_sem]) ?_
        simp only [go_sem, seval]
        refine cnd_s 10000 h (fun hb h => ?_) (fun hb h => ?_)
        · simp only [go_sem, seval]
          refine ret_s (fun x => .int .i64 x) h ?_
          first | rfl | simp only [go_sem, resAV, resAll, resOne, seval]
        · refine add_s h fun v9 _ e8 h => ?_
          simp only [go_sem, seval, e8]
          exact lp_back (ih1 v9 h) ⟨rfl, rfl, rfl, rfl, trivial⟩
      · simp only [go_sem, seval]
        exact atJ (wkn (JK2  h) trivial)
    · exact lp_back (L1 0 h) ⟨rfl, rfl, rfl, rfl, trivial⟩
theorem w_slices_ContainsFunc_Lmethod_Lit_method_Lit {s : (List method_Lit)} {p1_f : (method_Lit → Option Bool)}  (fv_p1_f : FuncId) (hf_p1_f : ∀ (a0 : method_Lit) (z : Bool), p1_f a0 = some z → ACall Tryz.prog fv_p1_f [enc_method_Lit a0] [] (.bool z) []) {r : Bool} (h : slices_ContainsFunc_Lmethod_Lit_method_Lit s p1_f = some r) : ACall Tryz.prog 21 [.sl none (List.map enc_method_Lit s), .fn (.func fv_p1_f) [] []] [] (.bool r) [] := by
  refine acallX 10000 hf21 ok21 (by first | rfl | simp only [go_sem]) meek_bool ?_
  dsimp only [Tryz.f21, nums, Option.getD, List.append]
  unfold slices_ContainsFunc_Lmethod_Lit_method_Lit at h
  refine bsome h fun v1 hv1 h => ?_
  simp only [go_sem, seval]
  refine callX_ 10000 (w_slices_IndexFunc_Lmethod_Lit_method_Lit fv_p1_f hf_p1_f hv1) (by first | rfl | simp only [go_sem]) (by first | rfl | simp only [go_sem]) ?_
  simp only [go_sem, seval]
  refine ret_s (fun x => .bool x) h ?_
  first | rfl | simp only [go_sem, resAV, resAll, resOne, seval]
theorem w_internal_stringslite_HasPrefix {s : Str} {prefix_ : Str}   {r : Bool} (h : internal_stringslite_HasPrefix s prefix_ = some r) : ACall Tryz.prog 141 [.str s, .str prefix_] [] (.bool r) [] := by
  refine acallX 10000 hf141 ok141 (by first | rfl | simp only [go_sem]) meek_bool ?_
  dsimp only [Tryz.f141, nums, Option.getD, List.append]
  unfold internal_stringslite_HasPrefix at h
  simp only [go_sem, seval]
  refine bsome h fun y1 hy1 h => ?_
  refine rgJ 18 10000 (.inl rfl) (fun w => w [(4, .bool y1)] []) (runX 10000 ?_) (fun Jy1 => ?_)
  · clear hy1
    simp only [go_sem, seval]
    refine ret_s (fun x => .bool x) h ?_
    first | rfl | simp only [go_sem, resAV, resAll, resOne, seval]
  · clear h
    have h := hy1
    simp only [go_sem, seval]
    refine grd_ (fun hb3 => ?_) (fun hb3 => ?_)
    · have h := ite_t hb3 h
      refine subS_s none (some (.int .i64 (prefix_.length : Int))) rfl rfl h fun v6 _ b4 e5 h => ?_
      simp only [go_sem, seval, b4, e5]
      obtain rfl := Option.some.inj h
      exact atJ (wkn (Jy1) ⟨rfl, trivial⟩)
    · have h := ite_f hb3 h
      simp only [go_sem, seval]
      obtain rfl := Option.some.inj h
      exact atJ (wkn (Jy1) ⟨rfl, trivial⟩)
theorem w_internal_stringslite_CutPrefix {s : Str} {prefix_ : Str}   {r : (Str × Bool)} (h : internal_stringslite_CutPrefix s prefix_ = some r) : ACall Tryz.prog 130 [.str s, .str prefix_] [] (.tup [.str r.1, .bool r.2]) [] := by
  refine acallX 10000 hf130 ok130 (by first | rfl | simp only [go_sem]) meek_tup ?_
  dsimp only [Tryz.f130, nums, Option.getD, List.append]
  unfold internal_stringslite_CutPrefix at h
  refine bsome h fun v1 hv1 h => ?_
  simp only [go_sem, seval]
  refine callX_ 10000 (w_internal_stringslite_HasPrefix  hv1) (by first | rfl | simp only [go_sem]) (by first | rfl | simp only [go_sem]) ?_
  simp only [go_sem, seval]
  refine cnd_s 10000 h (fun hb h => ?_) (fun hb h => ?_)
  · simp only [go_sem, seval]
    refine ret_s (fun x => .tup [.str x.1, .bool x.2]) h ?_
    first | rfl | simp only [go_sem, resAV, resAll, resOne, seval]
  · refine subS_s (some (.int .i64 (prefix_.length : Int))) none rfl rfl h fun v4 _ b2 e3 h => ?_
    simp only [go_sem, seval, b2, e3]
    refine ret_s (fun x => .tup [.str x.1, .bool x.2]) h ?_
    first | rfl | simp only [go_sem, resAV, resAll, resOne, seval]
theorem w_strings_CutPrefix {s : Str} {prefix_ : Str}   {r : (Str × Bool)} (h : strings_CutPrefix s prefix_ = some r) : ACall Tryz.prog 117 [.str s, .str prefix_] [] (.tup [.str r.1, .bool r.2]) [] := by
  refine acallX 10000 hf117 ok117 (by first | rfl | simp only [go_sem]) meek_tup ?_
  dsimp only [Tryz.f117, nums, Option.getD, List.append]
  unfold strings_CutPrefix at h
  refine bsome h fun v1 hv1 h => ?_
  simp only [go_sem, seval]
  refine callX_ 10000 (w_internal_stringslite_CutPrefix  hv1) (by first | rfl | simp only [go_sem]) (by first | rfl | simp only [go_sem]) ?_
  simp only [go_sem, seval]
  refine ret_s (fun x => .tup [.str x.1, .bool x.2]) h ?_
  first | rfl | simp only [go_sem, resAV, resAll, resOne, seval]
theorem w_large_digits {s : Str}   {r : (Str × Bool × Bool)} (h : large_digits s = some r) : ACall Tryz.prog 94 [.str s] [] (.tup [.str r.1, .bool r.2.1, .bool r.2.2]) [] := by
  refine acallX 10000 hf94 ok94 (by first | rfl | simp only [go_sem]) meek_tup ?_
  dsimp only [Tryz.f94, nums, Option.getD, List.append]
  unfold large_digits at h
  refine bsome h fun v1 hv1 h => ?_
  simp only [go_sem, seval]
  refine callX_ 10000 (w_strings_CutPrefix  hv1) (by first | rfl | simp only [go_sem]) (by first | rfl | simp only [go_sem]) ?_
  simp only [go_sem, seval]
  refine bsome h fun y2 hy2 h => ?_
  refine rgJ 43 10000 (.inl rfl) (fun w => w [(5, .str v1.1), (6, .bool v1.2), (40, .bool y2)] []) (runX 10000 ?_) (fun Jy2 => ?_)
  · clear hy2
    simp only [go_sem, seval]
    refine cnd_s 10000 h (fun hb h => ?_) (fun hb h => ?_)
    · simp only [go_sem, seval]
      refine ret_s (fun x => .tup [.str x.1, .bool x.2.1, .bool x.2.2]) h ?_
      first | rfl | simp only [go_sem, resAV, resAll, resOne, seval]
    · simp only [go_sem, seval]
      refine ret_s (fun x => .tup [.str x.1, .bool x.2.1, .bool x.2.2]) h ?_
      first | rfl | simp only [go_sem, resAV, resAll, resOne, seval]
  · clear h
    have h := hy2
    simp only [go_sem, seval]
    refine grd_ (fun hb4 => ?_) (fun hb4 => ?_)
    · have h := ite_f hb4 h
      simp only [go_sem, seval]
      refine grd_ (fun hb5 => ?_) (fun hb5 => ?_)
      · have h := ite_f hb5 h
        simp only [go_sem, seval]
        refine grd_ (fun hb6 => ?_) (fun hb6 => ?_)
        · have h := ite_t hb6 h
          refine sIdx_s .i64 h fun v9 _ b7 e8 h => ?_
          simp only [go_sem, seval, b7, e8]
          refine grd_ (fun hb10 => ?_) (fun hb10 => ?_)
          · have h := ite_f hb10 h
            simp only [go_sem, seval]
            refine grd_ (fun hb11 => ?_) (fun hb11 => ?_)
            · have h := ite_t hb11 h
              simp only [go_sem, seval]
              refine grd_ (fun hb12 => ?_) (fun hb12 => ?_)
              · have h := ite_f hb12 h
                refine bsome h fun v13 hv13 h => ?_
                simp only [go_sem, seval]
                refine callX_ 10000 (w_strings_Trim  hv13) (by first | rfl | simp only [go_sem]) (by first | rfl | simp only [go_sem]) ?_
                simp only [go_sem, seval]
                obtain rfl := Option.some.inj h
                exact atJ (wkn (Jy2) ⟨rfl, rfl, rfl, trivial⟩)
              · have h := ite_t hb12 h
                simp only [go_sem, seval]
                obtain rfl := Option.some.inj h
                exact atJ (wkn (Jy2) ⟨rfl, rfl, rfl, trivial⟩)
            · have h := ite_f hb11 h
              refine bsome h fun v14 hv14 h => ?_
              simp only [go_sem, seval]
              refine callX_ 10000 (w_strings_Trim  hv14) (by first | rfl | simp only [go_sem]) (by first | rfl | simp only [go_sem]) ?_
              simp only [go_sem, seval]
              obtain rfl := Option.some.inj h
              exact atJ (wkn (Jy2) ⟨rfl, rfl, rfl, trivial⟩)
          · have h := ite_t hb10 h
            simp only [go_sem, seval]
            obtain rfl := Option.some.inj h
            exact atJ (wkn (Jy2) ⟨rfl, rfl, rfl, trivial⟩)
        · have h := ite_f hb6 h
          simp only [go_sem, seval]
          refine grd_ (fun hb15 => ?_) (fun hb15 => ?_)
          · have h := ite_t hb15 h
            simp only [go_sem, seval]
            refine grd_ (fun hb16 => ?_) (fun hb16 => ?_)
            · have h := ite_f hb16 h
              refine bsome h fun v17 hv17 h => ?_
              simp only [go_sem, seval]
              refine callX_ 10000 (w_strings_Trim  hv17) (by first | rfl | simp only [go_sem]) (by first | rfl | simp only [go_sem]) ?_
              simp only [go_sem, seval]
              obtain rfl := Option.some.inj h
              exact atJ (wkn (Jy2) ⟨rfl, rfl, rfl, trivial⟩)
            · have h := ite_t hb16 h
              simp only [go_sem, seval]
              obtain rfl := Option.some.inj h
              exact atJ (wkn (Jy2) ⟨rfl, rfl, rfl, trivial⟩)
          · have h := ite_f hb15 h
            refine bsome h fun v18 hv18 h => ?_
            simp only [go_sem, seval]
            refine callX_ 10000 (w_strings_Trim  hv18) (by first | rfl | simp only [go_sem]) (by first | rfl | simp only [go_sem]) ?_
            simp only [go_sem, seval]
            obtain rfl := Option.some.inj h
            exact atJ (wkn (Jy2) ⟨rfl, rfl, rfl, trivial⟩)
      · have h := ite_t hb5 h
        simp only [go_sem, seval]
        obtain rfl := Option.some.inj h
        exact atJ (wkn (Jy2) ⟨rfl, rfl, rfl, trivial⟩)
    · have h := ite_t hb4 h
      simp only [go_sem, seval]
      obtain rfl := Option.some.inj h
      exact atJ (wkn (Jy2) ⟨rfl, rfl, rfl, trivial⟩)
theorem w_large_cut {m : (List Int)}   {r : (List Int)} (h : large_cut m = some r) : ACall Tryz.prog 118 [.sl none (List.map (AV.int .u32) m)] [] (.sl none (List.map (AV.int .u32) r)) [] := by
  refine acallX 10000 hf118 ok118 (by first | rfl | simp only [go_sem]) meek_sl ?_
  dsimp only [Tryz.f118, nums, Option.getD, List.append]
  unfold large_cut at h
  simp only [go_sem, seval]
  refine bsome h fun y1 hy1 h => ?_
  refine blkJ 21 10000 (fun w => w [(0, .sl none (List.map (AV.int .u32) y1))] []) (runX 10000 ?_) (fun Jy1 => ?_)
  · clear hy1
    simp only [go_sem, seval]
    refine ret_s (fun x => .sl none (List.map (AV.int .u32) x)) h ?_
    first | rfl | simp only [go_sem, resAV, resAll, resOne, seval]
  · clear h
    have h := hy1
    simp only [go_sem, seval]
    refine lpJ 21 fuel (fun q1 w => ∀ (v3 : (List Int)), large_cut_l1  q1 v3 = some y1 → w [(0, .sl none (List.map (AV.int .u32) v3))] []) (fun w _ h => nomatch h) (fun q1 ih1 v3 h => ?_) (fun L1 => ?_)
    · unfold large_cut_l1 at h
      refine runL 10000 ?_
      simp only [go_sem, seval]
      refine bsome h fun y4 hy4 h => ?_
      refine rgJ 21 10000 (.inl rfl) (fun w => w [(0, .sl none (List.map (AV.int .u32) v3)), (14, .bool y4)] []) (runX 10000 ?_) (fun Jy4 => ?_)
      · clear hy4
        simp only [go_sem, seval]
        refine cnd_s 10000 h (fun hb h => ?_) (fun hb h => ?_)
        · simp only [go_sem, seval]
          refine blk_ 10000 ?_
          refine sub_s h fun v13 _ e12 h => ?_
          refine subL_s (AV.int .u32) none ⟨166, 1, false, 4⟩ (fun _ => rfl) none (some (.int .i64 v13)) rfl rfl h fun v16 _ b14 e15 h => ?_
          simp only [go_sem, seval, e12, b14, e15]
          exact lp_back (ih1 v16 h) ⟨rfl, trivial⟩
        · simp only [go_sem, seval]
          obtain rfl := Option.some.inj h
          exact atJ (wkn (Jy1) ⟨rfl, trivial⟩)
      · clear h
        have h := hy4
        simp only [go_sem, seval]
        refine grd_ (fun hb6 => ?_) (fun hb6 => ?_)
        · have h := ite_t hb6 h
          refine sub_s h fun v8 _ e7 h => ?_
          refine lAt_s (AV.int .u32) none .i64 ⟨166, 1, false, 4⟩ (fun _ => rfl) h fun v11 _ b9 e10 h => ?_
          simp only [go_sem, seval, e7, b9, e10]
          obtain rfl := Option.some.inj h
          exact atJ (wkn (Jy4) ⟨rfl, rfl, trivial⟩)
        · have h := ite_f hb6 h
          simp only [go_sem, seval]
          obtain rfl := Option.some.inj h
          exact atJ (wkn (Jy4) ⟨rfl, rfl, trivial⟩)
    · exact lp_back (L1 m h) ⟨rfl, trivial⟩
theorem w_large_made {neg : Bool} {m : (List Int)}   {r : (large_Num × (Option Int))} (h : large_made neg m = some r) : ACall Tryz.prog 95 [.bool neg, .sl none (List.map (AV.int .u32) m)] [] (.tup [enc_large_Num r.1, encE 66 r.2]) [] := by
  refine acallX 10000 hf95 ok95 (by first | rfl | simp only [go_sem]) meek_tup ?_
  dsimp only [Tryz.f95, nums, Option.getD, List.append]
  unfold large_made at h
  refine bsome h fun v1 hv1 h => ?_
  simp only [go_sem, seval]
  refine callX_ 10000 (w_large_cut  hv1) (by first | rfl | simp only [go_sem]) (by first | rfl | simp only [go_sem]) ?_
  simp only [go_sem, seval]
  refine cnd_s 10000 h (fun hb h => ?_) (fun hb h => ?_)
  · simp only [go_sem, seval]
    refine ret_s (fun x => .tup [enc_large_Num x.1, encE 66 x.2]) h ?_
    first | rfl | simp only [go_sem, resAV, resAll, resOne, seval]
  · simp only [go_sem, seval]
    refine bsome h fun y2 hy2 h => ?_
    refine rgJ 21 10000 (.inl rfl) (fun w => w [(4, .ptr 0 0), (5, .nilI)] [some [.bool y2, .sl none (List.map (AV.int .u32) v1)]]) (runX 10000 ?_) (fun Jy2 => ?_)
    · clear hy2
      simp only [go_sem, seval]
      refine ret_s (fun x => .tup [enc_large_Num x.1, encE 66 x.2]) h ?_
      first | rfl | simp only [go_sem, resAV, resAll, resOne, seval]
    · clear h
      have h := hy2
      simp only [go_sem, seval]
      refine grd_ (fun hb4 => ?_) (fun hb4 => ?_)
      · have h := ite_t hb4 h
        simp only [go_sem, seval]
        obtain rfl := Option.some.inj h
        exact atJ (wkn (Jy2) ⟨rfl, rfl, trivial⟩)
      · have h := ite_f hb4 h
        simp only [go_sem, seval]
        obtain rfl := Option.some.inj h
        exact atJ (wkn (Jy2) ⟨rfl, rfl, trivial⟩)
theorem w_large_Parse {s : Str}   {r : (large_Num × (Option Int))} (h : large_Parse s = some r) : ACall Tryz.prog 52 [.str s] [] (.tup [enc_large_Num r.1, encE 66 r.2]) [] := by
  refine acallX 10000 hf52 ok52 (by first | rfl | simp only [go_sem]) meek_tup ?_
  dsimp only [Tryz.f52, nums, Option.getD, List.append]
  unfold large_Parse at h
  refine bsome h fun v1 hv1 h => ?_
  simp only [go_sem, seval]
  refine callX_ 10000 (w_large_digits  hv1) (by first | rfl | simp only [go_sem]) (by first | rfl | simp only [go_sem]) ?_
  simp only [go_sem, seval]
  refine cnd_s 10000 h (fun hb h => ?_) (fun hb h => ?_)
  · simp only [go_sem, seval]
    refine ret_s (fun x => .tup [enc_large_Num x.1, encE 66 x.2]) h ?_
    first | rfl | simp only [go_sem, resAV, resAll, resOne, seval]
  · simp only [go_sem, seval, (bytes_e (P := Tryz.prog) (s := 9) (d := 26) (by rw [kd26]; rfl) (by rw [kd26]; rfl) v1.1)]
    refine prom_blk 7 1 false rfl (by first | rfl | simp only [go_sem]) rfl ?_
    refine bsome h fun y2 hy2 h => ?_
    refine blkJ 66 10000 (fun w => w [(2, .ptr 0 0), (5, .bool v1.2.1), (7, .rs 1 0 y2.length 1 false false)] [some [.bool false, .sl (some none) []], some (List.map (AV.int .u32) y2)]) (runX 10000 ?_) (fun Jy2 => ?_)
    · clear hy2
      simp only [go_sem, seval]
      refine mvF_ 10000 (AV.int .u32) plain_int (v := y2) rfl rfl (by first | rfl | simp only [go_sem]) (by first | rfl | simp only [go_sem]) (by first | rfl | (simp only [go_sem]; done) | (simp only [go_sem]; rfl)) rfl rfl ?_
      refine bsome h fun v103 hv103 h => ?_
      simp only [go_sem, seval]
      refine callX_ 10000 (w_large_made  hv103) (by first | rfl | simp only [go_sem]) (by first | rfl | simp only [go_sem]) ?_
      simp only [go_sem, seval]
      refine ret_s (fun x => .tup [enc_large_Num x.1, encE 66 x.2]) h ?_
      first | rfl | simp only [go_sem, resAV, resAll, resOne, seval]
    · clear h
      have h := hy2
      simp only [go_sem, seval]
      refine lpJ 66 fuel (fun q1 w => ∀ (v53 : Int) (v54 : (List Int)), large_Parse_l1 v1 q1 v53 v54 = some y2 → w [(2, .ptr 0 0), (5, .bool v1.2.1), (7, .rs 1 0 v54.length 1 false false), (24, .sl none (List.map (AV.int .u8) (toInts v1.1))), (25, .int .i64 ((toInts v1.1).length : Int)), (26, .int .i64 v53)] [some [.bool false, .sl (some none) []], some (List.map (AV.int .u32) v54)]) (fun w _ _ h => nomatch h) (fun q1 ih1 v53 v54 h => ?_) (fun L1 => ?_)
      · unfold large_Parse_l1 at h
        refine runL 10000 ?_
        simp only [go_sem, seval]
        refine cnd_s 10000 h (fun hb h => ?_) (fun hb h => ?_)
        · simp only [go_sem, seval]
          refine blk_ 10000 ?_
          refine lAt_s (AV.int .u8) none .i64 ⟨5, 1, false, 1⟩ (fun _ => rfl) h fun v57 _ b55 e56 h => ?_
          simp only [go_sem, seval, b55, e56, (show intv .sub .u8 v57 48 = .int .u8 (IntKind.wrap .u8 (v57 - 48)) from rfl), (cvw_e (s := 5) (k := .u8) io165 (IntKind.wrap .u8 (v57 - 48)))]
          refine bsome h fun y58 hy58 h => ?_
          refine blkJ 66 10000 (fun w => w [(2, .ptr 0 0), (5, .bool v1.2.1), (7, .rs 1 0 y58.2.length 1 false false), (10, .int .u64 y58.1), (24, .sl none (List.map (AV.int .u8) (toInts v1.1))), (25, .int .i64 ((toInts v1.1).length : Int)), (26, .int .i64 v53)] [some [.bool false, .sl (some none) []], some (List.map (AV.int .u32) y58.2)]) (runX 10000 ?_) (fun Jy58 => ?_)
          · clear hy58
            simp only [go_sem, seval]
            refine bsome h fun y95 hy95 h => ?_
            refine cndJ 66 10000 (fun w => w [(2, .ptr 0 0), (5, .bool v1.2.1), (7, .rs 1 0 y95.length 1 false false), (24, .sl none (List.map (AV.int .u8) (toInts v1.1))), (25, .int .i64 ((toInts v1.1).length : Int)), (26, .int .i64 v53)] [some [.bool false, .sl (some none) []], some (List.map (AV.int .u32) y95)]) (runX 10000 ?_) (fun Jy95 => ?_)
            · clear hy95
              refine add_s h fun v102 _ e101 h => ?_
              simp only [go_sem, seval, e101]
              exact lp_back (ih1 v102 y95 h) ⟨rfl, rfl, rfl, rfl, rfl, rfl, trivial⟩
            · clear h
              have h := hy95
              refine cnd_s 10000 h (fun hb h => ?_) (fun hb h => ?_)
              · simp only [go_sem, seval, (cvw_e (s := 165) (k := .u64) io166 y58.1)]
                refine appB_s (AV.int .u32) (some none) ⟨166, 1, false, 4⟩ (fun _ => rfl) (by decide) rfl h fun v100 e97 e98 e99 h => ?_
                refine appB_ 10000 (AV.int .u32) plain_int (v := y58.2) (ws := ([(IntKind.wrap .u32 y58.1)] : List Int)) rfl rfl rfl el106 rfl kd106 (by first | rfl | simp only [go_sem]) (by first | rfl | simp only [go_sem]) (by first | rfl | simp only [go_sem]) e97 e98 e99 (by first | rfl | (simp only [go_sem]; done) | (simp only [go_sem]; rfl)) rfl rfl ?_
                simp only [go_sem, seval]
                obtain rfl := Option.some.inj h
                exact atJ (wkn (Jy95) ⟨rfl, rfl, rfl, rfl, rfl, rfl, trivial⟩)
              · simp only [go_sem, seval]
                obtain rfl := Option.some.inj h
                exact atJ (wkn (Jy95) ⟨rfl, rfl, rfl, rfl, rfl, rfl, trivial⟩)
          · clear h
            have h := hy58
            simp only [go_sem, seval]
            refine lpJ 66 fuel (fun q3 w => ∀ (v77 : Int) (v78 : Int) (v79 : (List Int)), large_Parse_l3 v54 q3 v77 v78 v79 = some y58 → w [(2, .ptr 0 0), (5, .bool v1.2.1), (7, .rs 1 0 v79.length 1 false false), (10, .int .u64 v77), (24, .sl none (List.map (AV.int .u8) (toInts v1.1))), (25, .int .i64 ((toInts v1.1).length : Int)), (26, .int .i64 v53), (33, .rs 1 0 v79.length 1 false false), (34, .int .i64 (v54.length : Int)), (35, .int .i64 v78)] [some [.bool false, .sl (some none) []], some (List.map (AV.int .u32) v79)]) (fun w _ _ _ h => nomatch h) (fun q3 ih3 v77 v78 v79 h => ?_) (fun L3 => ?_)
            · unfold large_Parse_l3 at h
              refine runL 10000 ?_
              simp only [go_sem, seval]
              refine cnd_s 10000 h (fun hb h => ?_) (fun hb h => ?_)
              · simp only [go_sem, seval]
                refine blk_ 10000 ?_
                refine bAt_s (AV.int .u32) .i64 ⟨166, 1, false, 4⟩ rfl 1 false false rfl h fun v86 _ e80 e81 e82 e83 e84 e85 h => ?_
                refine stB_s h fun v89 e87 e88 h => ?_
                refine shr_s h fun v92 _ b91 e90 h => ?_
                refine add_s h fun v94 _ e93 h => ?_
                simp only [go_sem, seval, e80, e81, e82, e83, e84, (cvw_e (s := 166) (k := .u32) io165 v86), (show intv .mul .u64 (IntKind.wrap .u64 v86) 10 = .int .u64 (IntKind.wrap .u64 ((IntKind.wrap .u64 v86) * 10)) from rfl), (show intv .add .u64 v77 (IntKind.wrap .u64 ((IntKind.wrap .u64 v86) * 10)) = .int .u64 (IntKind.wrap .u64 (v77 + (IntKind.wrap .u64 ((IntKind.wrap .u64 v86) * 10)))) from rfl), (cvw_e (s := 165) (k := .u64) io166 (IntKind.wrap .u64 (v77 + (IntKind.wrap .u64 ((IntKind.wrap .u64 v86) * 10))))), e85, e87, e90, Int.reduceLE, e93]
                exact lp_back (ih3 v92 v94 v89 h) ⟨rfl, rfl, congrArg (fun n => AV.rs 1 0 n 1 false false) e88.symm, rfl, rfl, rfl, rfl, congrArg (fun n => AV.rs 1 0 n 1 false false) e88.symm, rfl, rfl, trivial⟩
              · simp only [go_sem, seval]
                obtain rfl := Option.some.inj h
                exact atJ (wkn (Jy58) ⟨rfl, rfl, rfl, rfl, rfl, rfl, rfl, trivial⟩)
            · exact lp_back (L3 (IntKind.wrap .u64 (IntKind.wrap .u8 (v57 - 48))) 0 v54 h) ⟨rfl, rfl, rfl, rfl, rfl, rfl, rfl, rfl, rfl, rfl, trivial⟩
        · simp only [go_sem, seval]
          obtain rfl := Option.some.inj h
          exact atJ (wkn (Jy2) ⟨rfl, rfl, rfl, trivial⟩)
      · exact lp_back (L1 0 [] h) ⟨rfl, rfl, rfl, rfl, rfl, rfl, trivial⟩
theorem w_method_Lit_may {l : method_Lit}   {r : Bool} (h : method_Lit_may l = some r) : ACall Tryz.prog 23 [enc_method_Lit l] [] (.bool r) [] := by
  refine acallX 10000 hf23 ok23 (by first | rfl | simp only [go_sem]) meek_bool ?_
  dsimp only [Tryz.f23, nums, Option.getD, List.append]
  unfold method_Lit_may at h
  simp only [go_sem, seval]
  refine blk_ 10000 ?_
  simp only [go_sem, seval]
  refine cnd_s 10000 h (fun hb h => ?_) (fun hb h => ?_)
  · refine bsome h fun v1 hv1 h => ?_
    simp only [go_sem, seval]
    refine callX_ 10000 (w_large_Parse  hv1) (by first | rfl | simp only [go_sem]) (by first | rfl | simp only [go_sem]) ?_
    simp only [go_sem, seval]
    refine ret_s (fun x => .bool x) h ?_
    first | rfl | simp only [go_sem, resAV, resAll, resOne, seval]
  · simp only [go_sem, seval]
    refine cnd_s 10000 h (fun hb h => ?_) (fun hb h => ?_)
    · simp only [go_sem, seval]
      refine ret_s (fun x => .bool x) h ?_
      first | rfl | simp only [go_sem, resAV, resAll, resOne, seval]
    · simp only [go_sem, seval]
      refine cnd_s 10000 h (fun hb h => ?_) (fun hb h => ?_)
      · refine bsome h fun v2 hv2 h => ?_
        simp only [go_sem, seval]
        refine callX_ 10000 (w_method_Arity  hv2) (by first | rfl | simp only [go_sem]) (by first | rfl | simp only [go_sem]) ?_
        simp only [go_sem, seval]
        refine ret_s (fun x => .bool x) h ?_
        first | rfl | simp only [go_sem, resAV, resAll, resOne, seval]
      · simp only [go_sem, seval]
        refine ret_s (fun x => .bool x) h ?_
        first | rfl | simp only [go_sem, resAV, resAll, resOne, seval]
theorem w_method_Check_1 {l : method_Lit}   {r : Bool} (h : method_Check_1 l = some r) : ACall Tryz.prog 22 [enc_method_Lit l] [] (.bool r) [] := by
  refine acallX 10000 hf22 ok22 (by first | rfl | simp only [go_sem]) meek_bool ?_
  dsimp only [Tryz.f22, nums, Option.getD, List.append]
  unfold method_Check_1 at h
  refine bsome h fun v1 hv1 h => ?_
  simp only [go_sem, seval]
  refine callX_ 10000 (w_method_Lit_may  hv1) (by first | rfl | simp only [go_sem]) (by first | rfl | simp only [go_sem]) ?_
  simp only [go_sem, seval]
  refine ret_s (fun x => .bool x) h ?_
  first | rfl | simp only [go_sem, resAV, resAll, resOne, seval]
theorem w_op_of {code : Int}   {r : (op_known × Bool)} (h : op_of code = some r) : ACall Tryz.prog 121 [.int .u8 code] [] (.tup [enc_op_known r.1, .bool r.2]) [] := by
  refine acallX 10000 hf121 ok121 (by first | rfl | simp only [go_sem]) meek_tup ?_
  dsimp only [Tryz.f121, nums, Option.getD, List.append]
  unfold op_of at h
  refine iteE h (fun hc h => ?_) (fun hc h => ?_)
  · subst hc
    simp only [go_sem, seval, (show cvv Tryz.prog 5 3 (.int .u8 0) = .int .i64 0 from (cvw_e io3 _).trans rfl), Int.reduceEq, Int.reduceLT, Int.reduceLE]
    refine cnd_f 10000 ?_
    simp only [go_sem, seval, (show aadC 21 (.ptr 1 0) (.int .u8 0) from ⟨by decide, by decide⟩), (show aadV 2 (.ptr 1 0) (.int .u8 0) = .ptr 1 0 from rfl)]
    refine ret_s (fun x => .tup [enc_op_known x.1, .bool x.2]) h ?_
    first | rfl | simp only [go_sem, resAV, resAll, resOne, seval]
  · refine iteE h (fun hc h => ?_) (fun hc h => ?_)
    · subst hc
      simp only [go_sem, seval, (show cvv Tryz.prog 5 3 (.int .u8 1) = .int .i64 1 from (cvw_e io3 _).trans rfl), Int.reduceEq, Int.reduceLT, Int.reduceLE]
      refine cnd_f 10000 ?_
      simp only [go_sem, seval, (show aadC 21 (.ptr 1 0) (.int .u8 1) from ⟨by decide, by decide⟩), (show aadV 2 (.ptr 1 0) (.int .u8 1) = .ptr 1 2 from rfl)]
      refine ret_s (fun x => .tup [enc_op_known x.1, .bool x.2]) h ?_
      first | rfl | simp only [go_sem, resAV, resAll, resOne, seval]
    · refine iteE h (fun hc h => ?_) (fun hc h => ?_)
      · subst hc
        simp only [go_sem, seval, (show cvv Tryz.prog 5 3 (.int .u8 2) = .int .i64 2 from (cvw_e io3 _).trans rfl), Int.reduceEq, Int.reduceLT, Int.reduceLE]
        refine cnd_f 10000 ?_
        simp only [go_sem, seval, (show aadC 21 (.ptr 1 0) (.int .u8 2) from ⟨by decide, by decide⟩), (show aadV 2 (.ptr 1 0) (.int .u8 2) = .ptr 1 4 from rfl)]
        refine ret_s (fun x => .tup [enc_op_known x.1, .bool x.2]) h ?_
        first | rfl | simp only [go_sem, resAV, resAll, resOne, seval]
      · refine iteE h (fun hc h => ?_) (fun hc h => ?_)
        · subst hc
          simp only [go_sem, seval, (show cvv Tryz.prog 5 3 (.int .u8 3) = .int .i64 3 from (cvw_e io3 _).trans rfl), Int.reduceEq, Int.reduceLT, Int.reduceLE]
          refine cnd_f 10000 ?_
          simp only [go_sem, seval, (show aadC 21 (.ptr 1 0) (.int .u8 3) from ⟨by decide, by decide⟩), (show aadV 2 (.ptr 1 0) (.int .u8 3) = .ptr 1 6 from rfl)]
          refine ret_s (fun x => .tup [enc_op_known x.1, .bool x.2]) h ?_
          first | rfl | simp only [go_sem, resAV, resAll, resOne, seval]
        · refine iteE h (fun hc h => ?_) (fun hc h => ?_)
          · subst hc
            simp only [go_sem, seval, (show cvv Tryz.prog 5 3 (.int .u8 4) = .int .i64 4 from (cvw_e io3 _).trans rfl), Int.reduceEq, Int.reduceLT, Int.reduceLE]
            refine cnd_f 10000 ?_
            simp only [go_sem, seval, (show aadC 21 (.ptr 1 0) (.int .u8 4) from ⟨by decide, by decide⟩), (show aadV 2 (.ptr 1 0) (.int .u8 4) = .ptr 1 8 from rfl)]
            refine ret_s (fun x => .tup [enc_op_known x.1, .bool x.2]) h ?_
            first | rfl | simp only [go_sem, resAV, resAll, resOne, seval]
          · refine iteE h (fun hc h => ?_) (fun hc h => ?_)
            · subst hc
              simp only [go_sem, seval, (show cvv Tryz.prog 5 3 (.int .u8 5) = .int .i64 5 from (cvw_e io3 _).trans rfl), Int.reduceEq, Int.reduceLT, Int.reduceLE]
              refine cnd_f 10000 ?_
              simp only [go_sem, seval, (show aadC 21 (.ptr 1 0) (.int .u8 5) from ⟨by decide, by decide⟩), (show aadV 2 (.ptr 1 0) (.int .u8 5) = .ptr 1 10 from rfl)]
              refine ret_s (fun x => .tup [enc_op_known x.1, .bool x.2]) h ?_
              first | rfl | simp only [go_sem, resAV, resAll, resOne, seval]
            · refine iteE h (fun hc h => ?_) (fun hc h => ?_)
              · subst hc
                simp only [go_sem, seval, (show cvv Tryz.prog 5 3 (.int .u8 6) = .int .i64 6 from (cvw_e io3 _).trans rfl), Int.reduceEq, Int.reduceLT, Int.reduceLE]
                refine cnd_f 10000 ?_
                simp only [go_sem, seval, (show aadC 21 (.ptr 1 0) (.int .u8 6) from ⟨by decide, by decide⟩), (show aadV 2 (.ptr 1 0) (.int .u8 6) = .ptr 1 12 from rfl)]
                refine ret_s (fun x => .tup [enc_op_known x.1, .bool x.2]) h ?_
                first | rfl | simp only [go_sem, resAV, resAll, resOne, seval]
              · refine iteE h (fun hc h => ?_) (fun hc h => ?_)
                · subst hc
                  simp only [go_sem, seval, (show cvv Tryz.prog 5 3 (.int .u8 7) = .int .i64 7 from (cvw_e io3 _).trans rfl), Int.reduceEq, Int.reduceLT, Int.reduceLE]
                  refine cnd_f 10000 ?_
                  simp only [go_sem, seval, (show aadC 21 (.ptr 1 0) (.int .u8 7) from ⟨by decide, by decide⟩), (show aadV 2 (.ptr 1 0) (.int .u8 7) = .ptr 1 14 from rfl)]
                  refine ret_s (fun x => .tup [enc_op_known x.1, .bool x.2]) h ?_
                  first | rfl | simp only [go_sem, resAV, resAll, resOne, seval]
                · refine iteE h (fun hc h => ?_) (fun hc h => ?_)
                  · subst hc
                    simp only [go_sem, seval, (show cvv Tryz.prog 5 3 (.int .u8 8) = .int .i64 8 from (cvw_e io3 _).trans rfl), Int.reduceEq, Int.reduceLT, Int.reduceLE]
                    refine cnd_f 10000 ?_
                    simp only [go_sem, seval, (show aadC 21 (.ptr 1 0) (.int .u8 8) from ⟨by decide, by decide⟩), (show aadV 2 (.ptr 1 0) (.int .u8 8) = .ptr 1 16 from rfl)]
                    refine ret_s (fun x => .tup [enc_op_known x.1, .bool x.2]) h ?_
                    first | rfl | simp only [go_sem, resAV, resAll, resOne, seval]
                  · refine iteE h (fun hc h => ?_) (fun hc h => ?_)
                    · subst hc
                      simp only [go_sem, seval, (show cvv Tryz.prog 5 3 (.int .u8 9) = .int .i64 9 from (cvw_e io3 _).trans rfl), Int.reduceEq, Int.reduceLT, Int.reduceLE]
                      refine cnd_f 10000 ?_
                      simp only [go_sem, seval, (show aadC 21 (.ptr 1 0) (.int .u8 9) from ⟨by decide, by decide⟩), (show aadV 2 (.ptr 1 0) (.int .u8 9) = .ptr 1 18 from rfl)]
                      refine ret_s (fun x => .tup [enc_op_known x.1, .bool x.2]) h ?_
                      first | rfl | simp only [go_sem, resAV, resAll, resOne, seval]
                    · refine iteE h (fun hc h => ?_) (fun hc h => ?_)
                      · subst hc
                        simp only [go_sem, seval, (show cvv Tryz.prog 5 3 (.int .u8 10) = .int .i64 10 from (cvw_e io3 _).trans rfl), Int.reduceEq, Int.reduceLT, Int.reduceLE]
                        refine cnd_f 10000 ?_
                        simp only [go_sem, seval, (show aadC 21 (.ptr 1 0) (.int .u8 10) from ⟨by decide, by decide⟩), (show aadV 2 (.ptr 1 0) (.int .u8 10) = .ptr 1 20 from rfl)]
                        refine ret_s (fun x => .tup [enc_op_known x.1, .bool x.2]) h ?_
                        first | rfl | simp only [go_sem, resAV, resAll, resOne, seval]
                      · refine iteE h (fun hc h => ?_) (fun hc h => ?_)
                        · subst hc
                          simp only [go_sem, seval, (show cvv Tryz.prog 5 3 (.int .u8 11) = .int .i64 11 from (cvw_e io3 _).trans rfl), Int.reduceEq, Int.reduceLT, Int.reduceLE]
                          refine cnd_f 10000 ?_
                          simp only [go_sem, seval, (show aadC 21 (.ptr 1 0) (.int .u8 11) from ⟨by decide, by decide⟩), (show aadV 2 (.ptr 1 0) (.int .u8 11) = .ptr 1 22 from rfl)]
                          refine ret_s (fun x => .tup [enc_op_known x.1, .bool x.2]) h ?_
                          first | rfl | simp only [go_sem, resAV, resAll, resOne, seval]
                        · refine iteE h (fun hc h => ?_) (fun hc h => ?_)
                          · subst hc
                            simp only [go_sem, seval, (show cvv Tryz.prog 5 3 (.int .u8 12) = .int .i64 12 from (cvw_e io3 _).trans rfl), Int.reduceEq, Int.reduceLT, Int.reduceLE]
                            refine cnd_f 10000 ?_
                            simp only [go_sem, seval, (show aadC 21 (.ptr 1 0) (.int .u8 12) from ⟨by decide, by decide⟩), (show aadV 2 (.ptr 1 0) (.int .u8 12) = .ptr 1 24 from rfl)]
                            refine ret_s (fun x => .tup [enc_op_known x.1, .bool x.2]) h ?_
                            first | rfl | simp only [go_sem, resAV, resAll, resOne, seval]
                          · refine iteE h (fun hc h => ?_) (fun hc h => ?_)
                            · subst hc
                              simp only [go_sem, seval, (show cvv Tryz.prog 5 3 (.int .u8 13) = .int .i64 13 from (cvw_e io3 _).trans rfl), Int.reduceEq, Int.reduceLT, Int.reduceLE]
                              refine cnd_f 10000 ?_
                              simp only [go_sem, seval, (show aadC 21 (.ptr 1 0) (.int .u8 13) from ⟨by decide, by decide⟩), (show aadV 2 (.ptr 1 0) (.int .u8 13) = .ptr 1 26 from rfl)]
                              refine ret_s (fun x => .tup [enc_op_known x.1, .bool x.2]) h ?_
                              first | rfl | simp only [go_sem, resAV, resAll, resOne, seval]
                            · refine iteE h (fun hc h => ?_) (fun hc h => ?_)
                              · subst hc
                                simp only [go_sem, seval, (show cvv Tryz.prog 5 3 (.int .u8 14) = .int .i64 14 from (cvw_e io3 _).trans rfl), Int.reduceEq, Int.reduceLT, Int.reduceLE]
                                refine cnd_f 10000 ?_
                                simp only [go_sem, seval, (show aadC 21 (.ptr 1 0) (.int .u8 14) from ⟨by decide, by decide⟩), (show aadV 2 (.ptr 1 0) (.int .u8 14) = .ptr 1 28 from rfl)]
                                refine ret_s (fun x => .tup [enc_op_known x.1, .bool x.2]) h ?_
                                first | rfl | simp only [go_sem, resAV, resAll, resOne, seval]
                              · refine iteE h (fun hc h => ?_) (fun hc h => ?_)
                                · subst hc
                                  simp only [go_sem, seval, (show cvv Tryz.prog 5 3 (.int .u8 15) = .int .i64 15 from (cvw_e io3 _).trans rfl), Int.reduceEq, Int.reduceLT, Int.reduceLE]
                                  refine cnd_f 10000 ?_
                                  simp only [go_sem, seval, (show aadC 21 (.ptr 1 0) (.int .u8 15) from ⟨by decide, by decide⟩), (show aadV 2 (.ptr 1 0) (.int .u8 15) = .ptr 1 30 from rfl)]
                                  refine ret_s (fun x => .tup [enc_op_known x.1, .bool x.2]) h ?_
                                  first | rfl | simp only [go_sem, resAV, resAll, resOne, seval]
                                · refine iteE h (fun hc h => ?_) (fun hc h => ?_)
                                  · subst hc
                                    simp only [go_sem, seval, (show cvv Tryz.prog 5 3 (.int .u8 16) = .int .i64 16 from (cvw_e io3 _).trans rfl), Int.reduceEq, Int.reduceLT, Int.reduceLE]
                                    refine cnd_f 10000 ?_
                                    simp only [go_sem, seval, (show aadC 21 (.ptr 1 0) (.int .u8 16) from ⟨by decide, by decide⟩), (show aadV 2 (.ptr 1 0) (.int .u8 16) = .ptr 1 32 from rfl)]
                                    refine ret_s (fun x => .tup [enc_op_known x.1, .bool x.2]) h ?_
                                    first | rfl | simp only [go_sem, resAV, resAll, resOne, seval]
                                  · refine iteE h (fun hc h => ?_) (fun hc h => ?_)
                                    · subst hc
                                      simp only [go_sem, seval, (show cvv Tryz.prog 5 3 (.int .u8 17) = .int .i64 17 from (cvw_e io3 _).trans rfl), Int.reduceEq, Int.reduceLT, Int.reduceLE]
                                      refine cnd_f 10000 ?_
                                      simp only [go_sem, seval, (show aadC 21 (.ptr 1 0) (.int .u8 17) from ⟨by decide, by decide⟩), (show aadV 2 (.ptr 1 0) (.int .u8 17) = .ptr 1 34 from rfl)]
                                      refine ret_s (fun x => .tup [enc_op_known x.1, .bool x.2]) h ?_
                                      first | rfl | simp only [go_sem, resAV, resAll, resOne, seval]
                                    · refine iteE h (fun hc h => ?_) (fun hc h => ?_)
                                      · subst hc
                                        simp only [go_sem, seval, (show cvv Tryz.prog 5 3 (.int .u8 18) = .int .i64 18 from (cvw_e io3 _).trans rfl), Int.reduceEq, Int.reduceLT, Int.reduceLE]
                                        refine cnd_f 10000 ?_
                                        simp only [go_sem, seval, (show aadC 21 (.ptr 1 0) (.int .u8 18) from ⟨by decide, by decide⟩), (show aadV 2 (.ptr 1 0) (.int .u8 18) = .ptr 1 36 from rfl)]
                                        refine ret_s (fun x => .tup [enc_op_known x.1, .bool x.2]) h ?_
                                        first | rfl | simp only [go_sem, resAV, resAll, resOne, seval]
                                      · refine iteE h (fun hc h => ?_) (fun hc h => ?_)
                                        · subst hc
                                          simp only [go_sem, seval, (show cvv Tryz.prog 5 3 (.int .u8 19) = .int .i64 19 from (cvw_e io3 _).trans rfl), Int.reduceEq, Int.reduceLT, Int.reduceLE]
                                          refine cnd_f 10000 ?_
                                          simp only [go_sem, seval, (show aadC 21 (.ptr 1 0) (.int .u8 19) from ⟨by decide, by decide⟩), (show aadV 2 (.ptr 1 0) (.int .u8 19) = .ptr 1 38 from rfl)]
                                          refine ret_s (fun x => .tup [enc_op_known x.1, .bool x.2]) h ?_
                                          first | rfl | simp only [go_sem, resAV, resAll, resOne, seval]
                                        · refine iteE h (fun hc h => ?_) (fun hc h => ?_)
                                          · subst hc
                                            simp only [go_sem, seval, (show cvv Tryz.prog 5 3 (.int .u8 20) = .int .i64 20 from (cvw_e io3 _).trans rfl), Int.reduceEq, Int.reduceLT, Int.reduceLE]
                                            refine cnd_f 10000 ?_
                                            simp only [go_sem, seval, (show aadC 21 (.ptr 1 0) (.int .u8 20) from ⟨by decide, by decide⟩), (show aadV 2 (.ptr 1 0) (.int .u8 20) = .ptr 1 40 from rfl)]
                                            refine ret_s (fun x => .tup [enc_op_known x.1, .bool x.2]) h ?_
                                            first | rfl | simp only [go_sem, resAV, resAll, resOne, seval]
                                          · refine cvt_s (s := 5) (k := .u8) io3 h fun v2 _ e1 h => ?_
                                            simp only [go_sem, seval, e1]
                                            refine cnd_s 10000 h (fun hb h => ?_) (fun hb h => ?_)
                                            · simp only [go_sem, seval]
                                              refine ret_s (fun x => .tup [enc_op_known x.1, .bool x.2]) h ?_
                                              first | rfl | simp only [go_sem, resAV, resAll, resOne, seval]
                                            · exact nomatch h
theorem w_op_Form {code : Int}   {r : (Str × Bool)} (h : op_Form code = some r) : ACall Tryz.prog 98 [.int .u8 code] [] (.tup [.str r.1, .bool r.2]) [] := by
  refine acallX 10000 hf98 ok98 (by first | rfl | simp only [go_sem]) meek_tup ?_
  dsimp only [Tryz.f98, nums, Option.getD, List.append]
  unfold op_Form at h
  refine bsome h fun v1 hv1 h => ?_
  simp only [go_sem, seval]
  refine callX_ 10000 (w_op_of  hv1) (by first | rfl | simp only [go_sem]) (by first | rfl | simp only [go_sem]) ?_
  simp only [go_sem, seval]
  refine ret_s (fun x => .tup [.str x.1, .bool x.2]) h ?_
  first | rfl | simp only [go_sem, resAV, resAll, resOne, seval]
theorem w_op_width {form : Str} {i : Int}   {r : Int} (h : op_width form i = some r) : ACall Tryz.prog 99 [.str form, .int .i64 i] [] (.int .i64 r) [] := by
  refine acallX 10000 hf99 ok99 (by first | rfl | simp only [go_sem]) meek_int ?_
  dsimp only [Tryz.f99, nums, Option.getD, List.append]
  unfold op_width at h
  simp only [go_sem, seval]
  refine cnd_s 10000 h (fun hb h => ?_) (fun hb h => ?_)
  · simp only [go_sem, seval]
    refine ret_s (fun x => .int .i64 x) h ?_
    first | rfl | simp only [go_sem, resAV, resAll, resOne, seval]
  · refine sIdx_s .i64 h fun v3 _ b1 e2 h => ?_
    refine cvt_s (s := 5) (k := .u8) io3 h fun v5 _ e4 h => ?_
    simp only [go_sem, seval, b1, e2, (show intv .sub .u8 v3 48 = .int .u8 (IntKind.wrap .u8 (v3 - 48)) from rfl), e4]
    refine ret_s (fun x => .int .i64 x) h ?_
    first | rfl | simp only [go_sem, resAV, resAll, resOne, seval]
theorem w_op_Size {code : Int}   {r : Int} (h : op_Size code = some r) : ACall Tryz.prog 97 [.int .u8 code] [] (.int .i64 r) [] := by
  refine acallX 10000 hf97 ok97 (by first | rfl | simp only [go_sem]) meek_int ?_
  dsimp only [Tryz.f97, nums, Option.getD, List.append]
  unfold op_Size at h
  refine bsome h fun v1 hv1 h => ?_
  simp only [go_sem, seval]
  refine callX_ 10000 (w_op_Form  hv1) (by first | rfl | simp only [go_sem]) (by first | rfl | simp only [go_sem]) ?_
  simp only [go_sem, seval]
  refine cnd_s 10000 h (fun hb h => ?_) (fun hb h => ?_)
  · simp only [go_sem, seval]
    refine ret_s (fun x => .int .i64 x) h ?_
    first | rfl | simp only [go_sem, resAV, resAll, resOne, seval]
  · refine bsome h fun v2 hv2 h => ?_
    simp only [go_sem, seval]
    refine callX_ 10000 (w_op_width  hv2) (by first | rfl | simp only [go_sem]) (by first | rfl | simp only [go_sem]) ?_
    refine add_s h fun v4 _ e3 h => ?_
    refine bsome h fun v5 hv5 h => ?_
    simp only [go_sem, seval, e3]
    refine callX_ 10000 (w_op_width  hv5) (by first | rfl | simp only [go_sem]) (by first | rfl | simp only [go_sem]) ?_
    refine add_s h fun v7 _ e6 h => ?_
    simp only [go_sem, seval, e6]
    refine ret_s (fun x => .int .i64 x) h ?_
    first | rfl | simp only [go_sem, resAV, resAll, resOne, seval]
theorem w_op_number {p0_b : (List Int)}   {r : Int} (h : op_number p0_b = some r) : ACall Tryz.prog 100 [.sl none (List.map (AV.int .u8) p0_b)] [] (.int .i64 r) [] := by
  refine acallX 10000 hf100 ok100 (by first | rfl | simp only [go_sem]) meek_int ?_
  dsimp only [Tryz.f100, nums, Option.getD, List.append]
  unfold op_number at h
  simp only [go_sem, seval]
  refine bsome h fun y1 hy1 h => ?_
  refine blkJ 19 10000 (fun w => w [(3, .int .i64 y1)] []) (runX 10000 ?_) (fun Jy1 => ?_)
  · clear hy1
    simp only [go_sem, seval]
    refine ret_s (fun x => .int .i64 x) h ?_
    first | rfl | simp only [go_sem, resAV, resAll, resOne, seval]
  · clear h
    have h := hy1
    simp only [go_sem, seval]
    refine lpJ 19 fuel (fun q1 w => ∀ (v3 : Int) (v4 : Int), op_number_l1 p0_b q1 v3 v4 = some y1 → w [(3, .int .i64 v3), (6, .sl none (List.map (AV.int .u8) p0_b)), (7, .int .i64 (p0_b.length : Int)), (8, .int .i64 v4)] []) (fun w _ _ h => nomatch h) (fun q1 ih1 v3 v4 h => ?_) (fun L1 => ?_)
    · unfold op_number_l1 at h
      refine runL 10000 ?_
      simp only [go_sem, seval]
      refine cnd_s 10000 h (fun hb h => ?_) (fun hb h => ?_)
      · simp only [go_sem, seval]
        refine blk_ 10000 ?_
        refine lAt_s (AV.int .u8) none .i64 ⟨5, 1, false, 1⟩ (fun _ => rfl) h fun v7 _ b5 e6 h => ?_
        refine shl_s h fun v10 _ b9 e8 h => ?_
        refine cvt_s (s := 5) (k := .u8) io3 h fun v12 _ e11 h => ?_
        refine add_s h fun v14 _ e13 h => ?_
        simp only [go_sem, seval, b5, e6, e8, Int.reduceLE, e11, (show intv .or .i64 v10 v12 = .int .i64 (bitv .or .i64 v10 v12) from rfl), e13]
        exact lp_back (ih1 (bitv .or .i64 v10 v12) v14 h) ⟨rfl, rfl, rfl, rfl, trivial⟩
      · simp only [go_sem, seval]
        obtain rfl := Option.some.inj h
        exact atJ (wkn (Jy1) ⟨rfl, trivial⟩)
    · exact lp_back (L1 0 0 h) ⟨rfl, rfl, rfl, rfl, trivial⟩
theorem w_op_Decode {p0_b : (List Int)}   {r : ((List op_Op) × (List Int) × (Option Int))} (h : op_Decode p0_b = some r) : ACall Tryz.prog 54 [.sl none (List.map (AV.int .u8) p0_b)] [] (.tup [.sl none (List.map enc_op_Op r.1), .sl none (List.map (AV.int .i64) r.2.1), encE 66 r.2.2]) [] := by
  refine acallX 10000 hf54 ok54 (by first | rfl | simp only [go_sem]) meek_tup ?_
  dsimp only [Tryz.f54, nums, Option.getD, List.append]
  unfold op_Decode at h
  simp only [go_sem, seval]
  refine cnd_s 10000 h (fun hb h => ?_) (fun hb h => ?_)
  · simp only [go_sem, seval]
    refine ret_s (fun x => .tup [.sl none (List.map enc_op_Op x.1), .sl none (List.map (AV.int .i64) x.2.1), encE 66 x.2.2]) h ?_
    first | rfl | simp only [go_sem, resAV, resAll, resOne, seval]
  · simp only [go_sem, seval]
    refine letK_s h fun K2 hK2 h => ?_
    refine blkJ 79 10000 (fun w => ∀ (v43 : (List op_Op)) (v44 : (List Int)), K2 v43 v44 = some r → w [(5, .sl (some none) (List.map enc_op_Op v43)), (6, .sl (some none) (List.map (AV.int .i64) v44))] []) (fun v43 v44 h => runX 10000 ?_) (fun JK2 => ?_)
    · subst hK2
      dsimp only at h
      simp only [go_sem, seval]
      refine ret_s (fun x => .tup [.sl none (List.map enc_op_Op x.1), .sl none (List.map (AV.int .i64) x.2.1), encE 66 x.2.2]) h ?_
      first | rfl | simp only [go_sem, resAV, resAll, resOne, seval]
    · clear hK2
      simp only [go_sem, seval]
      refine lpJ 79 fuel (fun q1 w => ∀ (v3 : (List op_Op)) (v4 : (List Int)) (v5 : Int), op_Decode_l1 p0_b K2 q1 v3 v4 v5 = some r → w [(0, .sl none (List.map (AV.int .u8) p0_b)), (5, .sl (some none) (List.map enc_op_Op v3)), (6, .sl (some none) (List.map (AV.int .i64) v4)), (7, .int .i64 v5)] []) (fun w _ _ _ h => nomatch h) (fun q1 ih1 v3 v4 v5 h => ?_) (fun L1 => ?_)
      · unfold op_Decode_l1 at h
        refine runL 10000 ?_
        simp only [go_sem, seval]
        refine cnd_s 10000 h (fun hb h => ?_) (fun hb h => ?_)
        · simp only [go_sem, seval]
          refine blk_ 10000 ?_
          refine lAt_s (AV.int .u8) none .i64 ⟨5, 1, false, 1⟩ (fun _ => rfl) h fun v8 _ b6 e7 h => ?_
          refine bsome h fun v9 hv9 h => ?_
          simp only [go_sem, seval, b6, e7]
          refine callX_ 10000 (w_op_Size  hv9) (by first | rfl | simp only [go_sem]) (by first | rfl | simp only [go_sem]) ?_
          simp only [go_sem, seval]
          refine bsome h fun y10 hy10 h => ?_
          refine rgJ 79 10000 (.inl rfl) (fun w => w [(0, .sl none (List.map (AV.int .u8) p0_b)), (5, .sl (some none) (List.map enc_op_Op v3)), (6, .sl (some none) (List.map (AV.int .i64) v4)), (7, .int .i64 v5), (8, .int .i64 v9), (34, .bool y10)] []) (runX 10000 ?_) (fun Jy10 => ?_)
          · clear hy10
            simp only [go_sem, seval]
            refine cnd_s 10000 h (fun hb h => ?_) (fun hb h => ?_)
            · simp only [go_sem, seval]
              refine ret_s (fun x => .tup [.sl none (List.map enc_op_Op x.1), .sl none (List.map (AV.int .i64) x.2.1), encE 66 x.2.2]) h ?_
              first | rfl | simp only [go_sem, resAV, resAll, resOne, seval]
            · refine bsome h fun v17 hv17 h => ?_
              simp only [go_sem, seval, b6, e7]
              refine callX_ 10000 (w_op_Form  hv17) (by first | rfl | simp only [go_sem]) (by first | rfl | simp only [go_sem]) ?_
              refine add_s h fun v19 _ e18 h => ?_
              refine bsome h fun v20 hv20 h => ?_
              simp only [go_sem, seval, e18]
              refine callX_ 10000 (w_op_width  hv20) (by first | rfl | simp only [go_sem]) (by first | rfl | simp only [go_sem]) ?_
              refine add_s h fun v22 _ e21 h => ?_
              simp only [go_sem, seval, e21]
              refine rg_ 10000 (.inr ⟨[], by kernel_rfl, by kernel_rfl, by rfl⟩) ?_
              refine subL_s (AV.int .u8) none ⟨5, 1, false, 1⟩ (fun _ => rfl) (some (.int .i64 v19)) (some (.int .i64 v22)) rfl rfl h fun v28 _ b26 e27 h => ?_
              refine bsome h fun v29 hv29 h => ?_
              simp only [go_sem, seval, b6, e7, e18, b26, e27]
              refine callX_ 10000 (w_op_number  hv29) (by first | rfl | simp only [go_sem]) (by first | rfl | simp only [go_sem]) ?_
              refine add_s h fun v31 _ e30 h => ?_
              refine subL_s (AV.int .u8) none ⟨5, 1, false, 1⟩ (fun _ => rfl) (some (.int .i64 v22)) (some (.int .i64 v31)) rfl rfl h fun v34 _ b32 e33 h => ?_
              refine bsome h fun v35 hv35 h => ?_
              simp only [go_sem, seval, e30, b32, e33]
              refine callX_ 10000 (w_op_number  hv35) (by first | rfl | simp only [go_sem]) (by first | rfl | simp only [go_sem]) ?_
              refine app_s enc_op_Op (some none) ⟨116, 3, true, 24⟩ (fun _ => rfl) (by decide) rfl h fun v38 _ (b36 : appc ⟨116, 3, true, 24⟩ (.sl (some none) (List.map enc_op_Op v3)) (.sl (some none) [.agg [.int .u8 v8, .int .i64 v29, .int .i64 v35]])) (e37 : appv (.sl (some none) (List.map enc_op_Op v3)) (.sl (some none) [.agg [.int .u8 v8, .int .i64 v29, .int .i64 v35]]) = .sl (some none) (List.map enc_op_Op v38)) h => ?_
              refine app_s (AV.int .i64) (some none) ⟨3, 1, false, 8⟩ (fun _ => rfl) (by decide) rfl h fun v41 _ (b39 : appc ⟨3, 1, false, 8⟩ (.sl (some none) (List.map (AV.int .i64) v4)) (.sl (some none) [.int .i64 v5])) (e40 : appv (.sl (some none) (List.map (AV.int .i64) v4)) (.sl (some none) [.int .i64 v5]) = .sl (some none) (List.map (AV.int .i64) v41)) h => ?_
              simp only [go_sem, seval, b36, e37, b39, e40, e30]
              exact lp_back (ih1 v38 v41 v31 h) ⟨rfl, rfl, rfl, rfl, trivial⟩
          · clear h
            have h := hy10
            simp only [go_sem, seval]
            refine grd_ (fun hb12 => ?_) (fun hb12 => ?_)
            · have h := ite_f hb12 h
              refine sub_s h fun v14 _ e13 h => ?_
              simp only [go_sem, seval, e13]
              obtain rfl := Option.some.inj h
              exact atJ (wkn (Jy10) ⟨rfl, rfl, rfl, rfl, rfl, rfl, trivial⟩)
            · have h := ite_t hb12 h
              simp only [go_sem, seval]
              obtain rfl := Option.some.inj h
              exact atJ (wkn (Jy10) ⟨rfl, rfl, rfl, rfl, rfl, rfl, trivial⟩)
        · simp only [go_sem, seval]
          exact atJ (wkn (JK2 v3 v4 h) ⟨rfl, rfl, trivial⟩)
      · exact lp_back (L1 [] [] 0 h) ⟨rfl, rfl, rfl, rfl, trivial⟩
theorem w_flow_read {p0_b : (List Int)}   {r : (flow_code × (Option Int))} (h : flow_read p0_b = some r) : ACall Tryz.prog 119 [.sl none (List.map (AV.int .u8) p0_b)] [] (.tup [enc_flow_code r.1, encE 66 r.2]) [] := by
  refine acallX 10000 hf119 ok119 (by first | rfl | simp only [go_sem]) meek_tup ?_
  dsimp only [Tryz.f119, nums, Option.getD, List.append]
  unfold flow_read at h
  refine bsome h fun v1 hv1 h => ?_
  simp only [go_sem, seval]
  refine callX_ 10000 (w_op_Decode  hv1) (by first | rfl | simp only [go_sem]) (by first | rfl | simp only [go_sem]) ?_
  simp only [go_sem, seval]
  refine ret_s (fun x => .tup [enc_flow_code x.1, encE 66 x.2]) h ?_
  first | rfl | simp only [go_sem, resAV, resAll, resOne, seval]
theorem w_cmp_isNaN_int {p0_x : Int}   {r : Bool} (h : cmp_isNaN_int p0_x = some r) : ACall Tryz.prog 166 [.int .i64 p0_x] [] (.bool r) [] := by
  refine acallX 10000 hf166 ok166 (by first | rfl | simp only [go_sem]) meek_bool ?_
  dsimp only [Tryz.f166, nums, Option.getD, List.append]
  unfold cmp_isNaN_int at h
  simp only [go_sem, seval]
  refine ret_s (fun x => .bool x) h ?_
  first | rfl | simp only [go_sem, resAV, resAll, resOne, seval]
theorem w_cmp_Less_int {p0_x : Int} {p1_y : Int}   {r : Bool} (h : cmp_Less_int p0_x p1_y = some r) : ACall Tryz.prog 154 [.int .i64 p0_x, .int .i64 p1_y] [] (.bool r) [] := by
  refine acallX 10000 hf154 ok154 (by first | rfl | simp only [go_sem]) meek_bool ?_
  dsimp only [Tryz.f154, nums, Option.getD, List.append]
  unfold cmp_Less_int at h
  simp only [go_sem, seval]
  refine bsome h fun y1 hy1 h => ?_
  refine rgJ 17 10000 (.inl rfl) (fun w => w [(4, .bool y1)] []) (runX 10000 ?_) (fun Jy1 => ?_)
  · clear hy1
    simp only [go_sem, seval]
    refine ret_s (fun x => .bool x) h ?_
    first | rfl | simp only [go_sem, resAV, resAll, resOne, seval]
  · clear h
    have h := hy1
    refine bsome h fun v3 hv3 h => ?_
    simp only [go_sem, seval]
    refine callX_ 10000 (w_cmp_isNaN_int  hv3) (by first | rfl | simp only [go_sem]) (by first | rfl | simp only [go_sem]) ?_
    simp only [go_sem, seval]
    refine grd_ (fun hb4 => ?_) (fun hb4 => ?_)
    · have h := ite_t hb4 h
      refine bsome h fun v5 hv5 h => ?_
      simp only [go_sem, seval]
      refine callX_ 10000 (w_cmp_isNaN_int  hv5) (by first | rfl | simp only [go_sem]) (by first | rfl | simp only [go_sem]) ?_
      simp only [go_sem, seval]
      refine grd_ (fun hb6 => ?_) (fun hb6 => ?_)
      · have h := ite_f hb6 h
        simp only [go_sem, seval]
        obtain rfl := Option.some.inj h
        exact atJ (wkn (Jy1) ⟨rfl, trivial⟩)
      · have h := ite_t hb6 h
        simp only [go_sem, seval]
        obtain rfl := Option.some.inj h
        exact atJ (wkn (Jy1) ⟨rfl, trivial⟩)
    · have h := ite_f hb4 h
      simp only [go_sem, seval]
      obtain rfl := Option.some.inj h
      exact atJ (wkn (Jy1) ⟨rfl, trivial⟩)
theorem w_slices_isNaN_int {p0_x : Int}   {r : Bool} (h : slices_isNaN_int p0_x = some r) : ACall Tryz.prog 155 [.int .i64 p0_x] [] (.bool r) [] := by
  refine acallX 10000 hf155 ok155 (by first | rfl | simp only [go_sem]) meek_bool ?_
  dsimp only [Tryz.f155, nums, Option.getD, List.append]
  unfold slices_isNaN_int at h
  simp only [go_sem, seval]
  refine ret_s (fun x => .bool x) h ?_
  first | rfl | simp only [go_sem, resAV, resAll, resOne, seval]
theorem w_slices_BinarySearch_Lint_int {p0_x : (List Int)} {target : Int}   {r : (Int × Bool)} (h : slices_BinarySearch_Lint_int p0_x target = some r) : ACall Tryz.prog 149 [.sl none (List.map (AV.int .i64) p0_x), .int .i64 target] [] (.tup [.int .i64 r.1, .bool r.2]) [] := by
  refine acallX 10000 hf149 ok149 (by first | rfl | simp only [go_sem]) meek_tup ?_
  dsimp only [Tryz.f149, nums, Option.getD, List.append]
  unfold slices_BinarySearch_Lint_int at h
  simp only [go_sem, seval]
  refine bsome h fun y1 hy1 h => ?_
  refine blkJ 54 10000 (fun w => w [(0, .sl none (List.map (AV.int .i64) p0_x)), (1, .int .i64 target), (6, .int .i64 (p0_x.length : Int)), (7, .int .i64 y1)] []) (runX 10000 ?_) (fun Jy1 => ?_)
  · clear hy1
    simp only [go_sem, seval]
    refine bsome h fun y18 hy18 h => ?_
    refine rgJ 54 10000 (.inl rfl) (fun w => w [(4, .int .i64 y1), (5, .bool y18)] []) (runX 10000 ?_) (fun Jy18 => ?_)
    · clear hy18
      simp only [go_sem, seval]
      refine ret_s (fun x => .tup [.int .i64 x.1, .bool x.2]) h ?_
      first | rfl | simp only [go_sem, resAV, resAll, resOne, seval]
    · clear h
      have h := hy18
      simp only [go_sem, seval]
      refine grd_ (fun hb20 => ?_) (fun hb20 => ?_)
      · have h := ite_t hb20 h
        refine lAt_s (AV.int .i64) none .i64 ⟨3, 1, false, 8⟩ (fun _ => rfl) h fun v23 _ b21 e22 h => ?_
        simp only [go_sem, seval, b21, e22]
        refine grd_ (fun hb24 => ?_) (fun hb24 => ?_)
        · have h := ite_f hb24 h
          refine bsome h fun v27 hv27 h => ?_
          simp only [go_sem, seval, b21, e22]
          refine callX_ 10000 (w_slices_isNaN_int  hv27) (by first | rfl | simp only [go_sem]) (by first | rfl | simp only [go_sem]) ?_
          simp only [go_sem, seval]
          refine grd_ (fun hb28 => ?_) (fun hb28 => ?_)
          · have h := ite_t hb28 h
            refine bsome h fun v29 hv29 h => ?_
            simp only [go_sem, seval]
            refine callX_ 10000 (w_slices_isNaN_int  hv29) (by first | rfl | simp only [go_sem]) (by first | rfl | simp only [go_sem]) ?_
            simp only [go_sem, seval]
            obtain rfl := Option.some.inj h
            exact atJ (wkn (Jy18) ⟨rfl, rfl, trivial⟩)
          · have h := ite_f hb28 h
            simp only [go_sem, seval]
            obtain rfl := Option.some.inj h
            exact atJ (wkn (Jy18) ⟨rfl, rfl, trivial⟩)
        · have h := ite_t hb24 h
          simp only [go_sem, seval]
          obtain rfl := Option.some.inj h
          exact atJ (wkn (Jy18) ⟨rfl, rfl, trivial⟩)
      · have h := ite_f hb20 h
        simp only [go_sem, seval]
        obtain rfl := Option.some.inj h
        exact atJ (wkn (Jy18) ⟨rfl, rfl, trivial⟩)
  · clear h
    have h := hy1
    simp only [go_sem, seval]
    refine lpJ 54 fuel (fun q1 w => ∀ (v3 : Int) (v4 : Int), slices_BinarySearch_Lint_int_l1 p0_x target q1 v3 v4 = some y1 → w [(0, .sl none (List.map (AV.int .i64) p0_x)), (1, .int .i64 target), (6, .int .i64 (p0_x.length : Int)), (7, .int .i64 v3), (8, .int .i64 v4)] []) (fun w _ _ h => nomatch h) (fun q1 ih1 v3 v4 h => ?_) (fun L1 => ?_)
    · unfold slices_BinarySearch_Lint_int_l1 at h
      refine runL 10000 ?_
      simp only [go_sem, seval]
      refine cnd_s 10000 h (fun hb h => ?_) (fun hb h => ?_)
      · simp only [go_sem, seval]
        refine blk_ 10000 ?_
        refine add_s h fun v6 _ e5 h => ?_
        refine shr_s h fun v9 _ b8 e7 h => ?_
        refine lAt_s (AV.int .i64) none .i64 ⟨3, 1, false, 8⟩ (fun _ => rfl) h fun v12 _ b10 e11 h => ?_
        refine bsome h fun v13 hv13 h => ?_
        simp only [go_sem, seval, e5, (cvw_e (s := 3) (k := .i64) io167 v6), e7, Int.reduceLE, (cvw_e (s := 167) (k := .u64) io3 v9), b10, e11]
        refine callX_ 10000 (w_cmp_Less_int  hv13) (by first | rfl | simp only [go_sem]) (by first | rfl | simp only [go_sem]) ?_
        simp only [go_sem, seval]
        refine bsome h fun y14 hy14 h => ?_
        refine cndJ 54 10000 (fun w => w [(0, .sl none (List.map (AV.int .i64) p0_x)), (1, .int .i64 target), (6, .int .i64 (p0_x.length : Int)), (7, .int .i64 y14.1), (8, .int .i64 y14.2)] []) (runX 10000 ?_) (fun Jy14 => ?_)
        · clear hy14
          simp only [go_sem, seval]
          exact lp_back (ih1 y14.1 y14.2 h) ⟨rfl, rfl, rfl, rfl, rfl, trivial⟩
        · clear h
          have h := hy14
          refine cnd_s 10000 h (fun hb h => ?_) (fun hb h => ?_)
          · refine add_s h fun v17 _ e16 h => ?_
            simp only [go_sem, seval, e16]
            obtain rfl := Option.some.inj h
            exact atJ (wkn (Jy14) ⟨rfl, rfl, rfl, rfl, rfl, trivial⟩)
          · simp only [go_sem, seval]
            obtain rfl := Option.some.inj h
            exact atJ (wkn (Jy14) ⟨rfl, rfl, rfl, rfl, rfl, trivial⟩)
      · simp only [go_sem, seval]
        obtain rfl := Option.some.inj h
        exact atJ (wkn (Jy1) ⟨rfl, rfl, rfl, rfl, trivial⟩)
    · exact lp_back (L1 0 (p0_x.length : Int) h) ⟨rfl, rfl, rfl, rfl, rfl, trivial⟩
theorem w_flow_code_place {c : flow_code} {at_ : Int}   {r : (Int × Bool)} (h : flow_code_place c at_ = some r) : ACall Tryz.prog 142 [enc_flow_code c, .int .i64 at_] [] (.tup [.int .i64 r.1, .bool r.2]) [] := by
  refine acallX 10000 hf142 ok142 (by first | rfl | simp only [go_sem]) meek_tup ?_
  dsimp only [Tryz.f142, nums, Option.getD, List.append]
  unfold flow_code_place at h
  refine bsome h fun v1 hv1 h => ?_
  simp only [go_sem, seval]
  refine callX_ 10000 (w_slices_BinarySearch_Lint_int  hv1) (by first | rfl | simp only [go_sem]) (by first | rfl | simp only [go_sem]) ?_
  simp only [go_sem, seval]
  refine ret_s (fun x => .tup [.int .i64 x.1, .bool x.2]) h ?_
  first | rfl | simp only [go_sem, resAV, resAll, resOne, seval]
theorem w_flow_ends {k : Int}   {r : Bool} (h : flow_ends k = some r) : ACall Tryz.prog 144 [.int .u8 k] [] (.bool r) [] := by
  refine acallX 10000 hf144 ok144 (by first | rfl | simp only [go_sem]) meek_bool ?_
  dsimp only [Tryz.f144, nums, Option.getD, List.append]
  unfold flow_ends at h
  simp only [go_sem, seval]
  refine rgJ 13 10000 (.inl rfl) (fun w => w [(2, .bool (((decide (k = 17)) || (decide (k = 18))) || (decide (k = 19))))] []) (runX 10000 ?_) (fun Jg1 => ?_)
  · simp only [go_sem, seval]
    refine ret_s (fun x => .bool x) h ?_
    first | rfl | simp only [go_sem, resAV, resAll, resOne, seval]
  · simp only [go_sem, seval]
    refine grd_ (fun hb2 => ?_) (fun hb2 => ?_)
    · simp only [go_sem, seval]
      refine grd_ (fun hb3 => ?_) (fun hb3 => ?_)
      · simp only [go_sem, seval]
        exact atJ (wkn Jg1 ⟨congrArg AV.bool (by first | rfl | (rw [hb2, hb3]; rfl) | (simp [hb2, hb3]; done) | simp_all), trivial⟩)
      · simp only [go_sem, seval]
        exact atJ (wkn Jg1 ⟨congrArg AV.bool (by first | rfl | (rw [hb2, hb3]; rfl) | (simp [hb2, hb3]; done) | simp_all), trivial⟩)
    · simp only [go_sem, seval]
      exact atJ (wkn Jg1 ⟨congrArg AV.bool (by first | rfl | (rw [hb2]; rfl) | (simp [hb2]; done) | simp_all), trivial⟩)
theorem w_flow_code_next {c : flow_code} {i : Int}   {r : ((List Int) × Bool)} (h : flow_code_next c i = some r) : ACall Tryz.prog 134 [enc_flow_code c, .int .i64 i] [] (.tup [.sl none (List.map (AV.int .i64) r.1), .bool r.2]) [] := by
  refine acallX 10000 hf134 ok134 (by first | rfl | simp only [go_sem]) meek_tup ?_
  dsimp only [Tryz.f134, nums, Option.getD, List.append]
  unfold flow_code_next at h
  refine lAt_s enc_op_Op none .i64 ⟨116, 3, true, 24⟩ (fun _ => rfl) h fun v3 _ b1 e2 h => ?_
  refine bsome h fun v4 hv4 h => ?_
  simp only [go_sem, seval, b1, e2]
  refine callX_ 10000 (w_flow_ends  hv4) (by first | rfl | simp only [go_sem]) (by first | rfl | simp only [go_sem]) ?_
  simp only [go_sem, seval]
  refine cnd_s 10000 h (fun hb h => ?_) (fun hb h => ?_)
  · simp only [go_sem, seval]
    refine ret_s (fun x => .tup [.sl none (List.map (AV.int .i64) x.1), .bool x.2]) h ?_
    first | rfl | simp only [go_sem, resAV, resAll, resOne, seval]
  · simp only [go_sem, seval]
    refine prom_cnd 7 2 false rfl (by first | rfl | simp only [go_sem]) rfl ?_
    refine bsome h fun y5 hy5 h => ?_
    refine cndJ 61 10000 (fun w => w [(2, .ptr 0 0), (6, .ptr 1 0), (7, .rs 2 0 y5.length 1 false false)] [some [.sl none (List.map enc_op_Op c.l), .sl none (List.map (AV.int .i64) c.at_)], some [.int .u8 v3.Code, .int .i64 v3.A, .int .i64 v3.B], some (List.map (AV.int .i64) y5)]) (runX 10000 ?_) (fun Jy5 => ?_)
    · clear hy5
      simp only [go_sem, seval]
      refine rgJ 61 10000 (.inl rfl) (fun w => w [(2, .ptr 0 0), (6, .ptr 1 0), (7, .rs 2 0 y5.length 1 false false), (33, .bool ((decide (v3.Code = 13)) || (decide (v3.Code = 14))))] [some [.sl none (List.map enc_op_Op c.l), .sl none (List.map (AV.int .i64) c.at_)], some [.int .u8 v3.Code, .int .i64 v3.A, .int .i64 v3.B], some (List.map (AV.int .i64) y5)]) (runX 10000 ?_) (fun Jg13 => ?_)
      · simp only [go_sem, seval]
        refine letK_s h fun K15 hK15 h => ?_
        refine cndJ 61 10000 (fun w => ∀ (v21 : (List Int)), K15 v21 = some r → w [(2, .ptr 0 0), (7, .rs 2 0 v21.length 1 false false)] [some [.sl none (List.map enc_op_Op c.l), .sl none (List.map (AV.int .i64) c.at_)], some [.int .u8 v3.Code, .int .i64 v3.A, .int .i64 v3.B], some (List.map (AV.int .i64) v21)]) (fun v21 h => runX 10000 ?_) (fun JK15 => ?_)
        · subst hK15
          dsimp only at h
          simp only [go_sem, seval]
          refine mvR_ 10000 rfl (by first | rfl | simp only [go_sem]) ?_
          refine bsome h fun v22 hv22 h => ?_
          simp only [go_sem, seval]
          refine callR_ 10000 2 (AV.int .i64) plain_int (.inl rfl) (w_slices_Sort_int hv22 rfl) (by first | rfl | simp only [go_sem]) (by first | rfl | simp only [go_sem]) rfl rfl ?_
          simp only [go_sem, seval]
          refine bsome h fun y27 hy27 h => ?_
          refine rgMJ 61 10000 1 6 7 [(2, 0), (7, 2), (49, 2), (51, 2), (52, 2), (55, 2), (57, 0)] (by kernel_rfl) (by kernel_rfl) (by rfl) (fun w => w [(4, .sl none (List.map (AV.int .i64) y27.1)), (5, .bool y27.2)] [some [.sl none (List.map enc_op_Op c.l), .sl none (List.map (AV.int .i64) c.at_)], some [.int .u8 v3.Code, .int .i64 v3.A, .int .i64 v3.B], none]) (runX 10000 ?_) (fun Jy27 => ?_) (fun Jy27 => ?_)
          · clear hy27
            simp only [go_sem, seval]
            refine ret_s (fun x => .tup [.sl none (List.map (AV.int .i64) x.1), .bool x.2]) h ?_
            first | rfl | simp only [go_sem, resAV, resAll, resOne, seval]
          · clear h
            have h := hy27
            refine bsome h fun v23 hv23 h => ?_
            refine sub_s h fun v24 _ e0 h => ?_
            refine bAt_s (AV.int .i64) .i64 ⟨3, 1, false, 8⟩ rfl 2 false false (xs := zerosI v22) ((zerosI_len _).trans ((len_slices_Sort_int hv22).trans rfl)) h fun v25 _ a1 a2 a3 a4 a5 a6 h => ?_
            refine bAt_s (AV.int .i64) .i64 ⟨3, 1, false, 8⟩ rfl 2 false false (xs := v22) ((len_slices_Sort_int hv22).trans rfl) h fun v26 _ b1 b2 b3 b4 b5 b6 h => ?_
            obtain ⟨hq, rfl⟩ := ifSome h
            obtain rfl := Option.some.inj hv23
            have hz := lenZ (L := v22) ((len_slices_Sort_int hv22).trans rfl)
            rw [hz] at a4 a5
            simp only [go_sem, seval, e0, hz, a1, a2, a3, a4, a5]
            refine mvD_ 10000 rfl ?_
            simp only [go_sem, seval, e0, hz, a1, a2, a3, a4, a5]
            refine callR_ 10000 2 (AV.int .i64) plain_int (v := v22) (v' := zerosI v22) (.inr (by kernel_rfl)) (w_slices_Compact_int rfl ((len_slices_Sort_int hv22).trans rfl)) (by first | rfl | simp only [go_sem]) (by first | rfl | simp only [go_sem]) rfl rfl ?_
            simp only [go_sem, seval, e0, hz, a1, a2, a3, a4, a5]
            refine atJ (W.frzS (AV.int .i64) plain_int (v := Lib.compact v22) (t := 4) (id := 2) rfl (by first | rfl | simp only [go_sem]) rfl (zerosI_take _) (by first | rfl | simp only [go_sem]) (by first | rfl | simp only [go_sem]) ?_)
            simp only [go_sem, seval]
            exact wkn Jy27 ⟨rfl, rfl, trivial⟩
          · clear h
            have h := hy27
            refine bsome h fun v23 hv23 h => ?_
            refine sub_s h fun v24 _ e0 h => ?_
            refine bAt_s (AV.int .i64) .i64 ⟨3, 1, false, 8⟩ rfl 2 false false (xs := zerosI v22) ((zerosI_len _).trans ((len_slices_Sort_int hv22).trans rfl)) h fun v25 _ a1 a2 a3 a4 a5 a6 h => ?_
            refine bAt_s (AV.int .i64) .i64 ⟨3, 1, false, 8⟩ rfl 2 false false (xs := v22) ((len_slices_Sort_int hv22).trans rfl) h fun v26 _ b1 b2 b3 b4 b5 b6 h => ?_
            obtain ⟨hq, rfl⟩ := ifSome h
            obtain rfl := Option.some.inj hv23
            have hz := lenZ (L := v22) ((len_slices_Sort_int hv22).trans rfl)
            rw [hz] at a4 a5
            simp only [mvAt, insAt]
            simp only [go_sem, seval, e0, hz, b1, b2, b3, b4, b5]
            refine mvD_ 10000 rfl ?_
            simp only [go_sem, seval, e0, hz, b1, b2, b3, b4, b5]
            refine callR_ 10000 2 (AV.int .i64) plain_int (v := v22) (v' := zerosI v22) (.inr (by kernel_rfl)) (w_slices_Compact_int rfl ((len_slices_Sort_int hv22).trans rfl)) (by first | rfl | simp only [go_sem]) (by first | rfl | simp only [go_sem]) rfl rfl ?_
            simp only [go_sem, seval, e0, hz, b1, b2, b3, b4, b5]
            refine atJ (W.frzS (AV.int .i64) plain_int (v := Lib.compact v22) (t := 4) (id := 2) rfl (by first | rfl | simp only [go_sem]) rfl (zerosI_take _) (by first | rfl | simp only [go_sem]) (by first | rfl | simp only [go_sem]) ?_)
            simp only [go_sem, seval]
            exact wkn Jy27 ⟨rfl, congrArg AV.bool (beq_iff_eq.1 hq), trivial⟩
        · clear hK15
          refine cnd_s 10000 h (fun hb h => ?_) (fun hb h => ?_)
          · refine bsome h fun v16 hv16 h => ?_
            simp only [go_sem, seval]
            refine callX_ 10000 (w_flow_code_place  hv16) (by first | rfl | simp only [go_sem]) (by first | rfl | simp only [go_sem]) ?_
            simp only [go_sem, seval]
            refine cnd_s 10000 h (fun hb h => ?_) (fun hb h => ?_)
            · simp only [go_sem, seval]
              refine ret_s (fun x => .tup [.sl none (List.map (AV.int .i64) x.1), .bool x.2]) h ?_
              first | rfl | simp only [go_sem, resAV, resAll, resOne, seval]
            · simp only [go_sem, seval]
              refine appB_s (AV.int .i64) (some none) ⟨3, 1, false, 8⟩ (fun _ => rfl) (by decide) rfl h fun v20 e17 e18 e19 h => ?_
              refine appB_ 10000 (AV.int .i64) plain_int (v := y5) (ws := ([v16.1] : List Int)) rfl rfl rfl el75 rfl kd75 (by first | rfl | simp only [go_sem]) (by first | rfl | simp only [go_sem]) (by first | rfl | simp only [go_sem]) e17 e18 e19 (by first | rfl | (simp only [go_sem]; done) | (simp only [go_sem]; rfl)) rfl rfl ?_
              simp only [go_sem, seval]
              exact atJ (wkn (JK15 v20 h) ⟨rfl, rfl, trivial⟩)
          · simp only [go_sem, seval]
            exact atJ (wkn (JK15 y5 h) ⟨rfl, rfl, trivial⟩)
      · simp only [go_sem, seval]
        refine grd_ (fun hb28 => ?_) (fun hb28 => ?_)
        · simp only [go_sem, seval]
          exact atJ (wkn Jg13 ⟨rfl, rfl, rfl, congrArg AV.bool (by first | rfl | (rw [hb28]; rfl) | (simp [hb28]; done) | simp_all), trivial⟩)
        · simp only [go_sem, seval]
          exact atJ (wkn Jg13 ⟨rfl, rfl, rfl, congrArg AV.bool (by first | rfl | (rw [hb28]; rfl) | (simp [hb28]; done) | simp_all), trivial⟩)
    · clear h
      have h := hy5
      refine cnd_s 10000 h (fun hb h => ?_) (fun hb h => ?_)
      · refine add_s h fun v8 _ e7 h => ?_
        simp only [go_sem, seval, e7]
        refine appB_s (AV.int .i64) (some none) ⟨3, 1, false, 8⟩ (fun _ => rfl) (by decide) rfl h fun v12 e9 e10 e11 h => ?_
        refine appB_ 10000 (AV.int .i64) plain_int (v := ([] : List Int)) (ws := ([v8] : List Int)) rfl rfl rfl el75 rfl kd75 (by first | rfl | simp only [go_sem]) (by first | rfl | simp only [go_sem]) (by first | rfl | simp only [go_sem]) e9 e10 e11 (by first | rfl | (simp only [go_sem]; done) | (simp only [go_sem]; rfl)) rfl rfl ?_
        simp only [go_sem, seval]
        obtain rfl := Option.some.inj h
        exact atJ (wkn (Jy5) ⟨rfl, rfl, rfl, trivial⟩)
      · simp only [go_sem, seval]
        obtain rfl := Option.some.inj h
        exact atJ (wkn (Jy5) ⟨rfl, rfl, rfl, trivial⟩)
theorem w_flow_code_joined {c : flow_code}   {r : Bool} (h : flow_code_joined c = some r) : ACall Tryz.prog 131 [enc_flow_code c] [] (.bool r) [] := by
  refine acallX 10000 hf131 ok131 (by first | rfl | simp only [go_sem]) meek_bool ?_
  dsimp only [Tryz.f131, nums, Option.getD, List.append]
  unfold flow_code_joined at h
  simp only [go_sem, seval]
  refine letK_s h fun K2 hK2 h => ?_
  refine blkJ 51 10000 (fun w => K2 () = some r → w [(1, .ptr 0 0)] [some [.sl none (List.map enc_op_Op c.l), .sl none (List.map (AV.int .i64) c.at_)]]) (fun  h => runX 10000 ?_) (fun JK2 => ?_)
  · subst hK2
    dsimp only at h
    simp only [go_sem, seval]
    refine ret_s (fun x => .bool x) h ?_
    first | rfl | simp only [go_sem, resAV, resAll, resOne, seval]
  · clear hK2
    simp only [go_sem, seval]
    refine lpJ 51 fuel (fun q1 w => ∀ (v3 : Int), flow_code_joined_l1 c K2 q1 v3 = some r → w [(1, .ptr 0 0), (10, .sl none (List.map enc_op_Op c.l)), (11, .int .i64 (c.l.length : Int)), (12, .int .i64 v3)] [some [.sl none (List.map enc_op_Op c.l), .sl none (List.map (AV.int .i64) c.at_)]]) (fun w _ h => nomatch h) (fun q1 ih1 v3 h => ?_) (fun L1 => ?_)
    · unfold flow_code_joined_l1 at h
      refine runL 10000 ?_
      simp only [go_sem, seval]
      refine cnd_s 10000 h (fun hb h => ?_) (fun hb h => ?_)
      · simp only [go_sem, seval]
        refine blk_ 10000 ?_
        refine lAt_s enc_op_Op none .i64 ⟨116, 3, true, 24⟩ (fun _ => rfl) h fun v6 _ b4 e5 h => ?_
        refine bsome h fun v7 hv7 h => ?_
        simp only [go_sem, seval, b4, e5]
        refine callX_ 10000 (w_flow_code_next  hv7) (by first | rfl | simp only [go_sem]) (by first | rfl | simp only [go_sem]) ?_
        simp only [go_sem, seval]
        refine cnd_s 10000 h (fun hb h => ?_) (fun hb h => ?_)
        · simp only [go_sem, seval]
          refine ret_s (fun x => .bool x) h ?_
          first | rfl | simp only [go_sem, resAV, resAll, resOne, seval]
        · simp only [go_sem, seval]
          refine letK_s h fun K9 hK9 h => ?_
          refine cndJ 51 10000 (fun w => K9 () = some r → w [(1, .ptr 0 0), (10, .sl none (List.map enc_op_Op c.l)), (11, .int .i64 (c.l.length : Int)), (12, .int .i64 v3)] [some [.sl none (List.map enc_op_Op c.l), .sl none (List.map (AV.int .i64) c.at_)], some [.int .u8 v6.Code, .int .i64 v6.A, .int .i64 v6.B]]) (fun  h => runX 10000 ?_) (fun JK9 => ?_)
          · subst hK9
            dsimp only at h
            refine add_s h fun v18 _ e17 h => ?_
            simp only [go_sem, seval, e17]
            exact lp_backH 1 (ih1 v18 h) ⟨rfl, rfl, rfl, rfl, trivial⟩ rfl rfl rfl (by first | rfl | simp only [go_sem, ltF]) (by first | rfl | simp only [go_sem, allLt])
          · clear hK9
            refine cnd_s 10000 h (fun hb h => ?_) (fun hb h => ?_)
            · refine bsome h fun v10 hv10 h => ?_
              simp only [go_sem, seval]
              refine callX_ 10000 (w_flow_code_place  hv10) (by first | rfl | simp only [go_sem]) (by first | rfl | simp only [go_sem]) ?_
              simp only [go_sem, seval]
              refine bsome h fun y11 hy11 h => ?_
              refine rgJ 51 10000 (.inl rfl) (fun w => w [(1, .ptr 0 0), (10, .sl none (List.map enc_op_Op c.l)), (11, .int .i64 (c.l.length : Int)), (12, .int .i64 v3), (45, .bool y11)] [some [.sl none (List.map enc_op_Op c.l), .sl none (List.map (AV.int .i64) c.at_)], some [.int .u8 v6.Code, .int .i64 v6.A, .int .i64 v6.B]]) (runX 10000 ?_) (fun Jy11 => ?_)
              · clear hy11
                simp only [go_sem, seval]
                refine cnd_s 10000 h (fun hb h => ?_) (fun hb h => ?_)
                · simp only [go_sem, seval]
                  refine ret_s (fun x => .bool x) h ?_
                  first | rfl | simp only [go_sem, resAV, resAll, resOne, seval]
                · simp only [go_sem, seval]
                  exact atJ (wkn (JK9  h) ⟨rfl, rfl, rfl, rfl, trivial⟩)
              · clear h
                have h := hy11
                simp only [go_sem, seval]
                refine grd_ (fun hb13 => ?_) (fun hb13 => ?_)
                · have h := ite_f hb13 h
                  refine lAt_s enc_op_Op none .i64 ⟨116, 3, true, 24⟩ (fun _ => rfl) h fun v16 _ b14 e15 h => ?_
                  simp only [go_sem, seval, b14, e15]
                  obtain rfl := Option.some.inj h
                  exact atJ (wkn (Jy11) ⟨rfl, rfl, rfl, rfl, rfl, trivial⟩)
                · have h := ite_t hb13 h
                  simp only [go_sem, seval]
                  obtain rfl := Option.some.inj h
                  exact atJ (wkn (Jy11) ⟨rfl, rfl, rfl, rfl, rfl, trivial⟩)
            · simp only [go_sem, seval]
              exact atJ (wkn (JK9  h) ⟨rfl, rfl, rfl, rfl, trivial⟩)
      · simp only [go_sem, seval]
        exact atJ (wkn (JK2  h) ⟨rfl, trivial⟩)
    · exact lp_back (L1 0 h) ⟨rfl, rfl, rfl, rfl, trivial⟩
theorem w_flow_moves {o : op_Op}   {r : (Int × Int)} (h : flow_moves o = some r) : ACall Tryz.prog 133 [enc_op_Op o] [] (.tup [.int .i64 r.1, .int .i64 r.2]) [] := by
  refine acallX 10000 hf133 ok133 (by first | rfl | simp only [go_sem]) meek_tup ?_
  dsimp only [Tryz.f133, nums, Option.getD, List.append]
  unfold flow_moves at h
  simp only [go_sem, seval]
  refine blk_ 10000 ?_
  simp only [go_sem, seval]
  refine bsome h fun y1 hy1 h => ?_
  refine cndJ 25 10000 (fun w => w [(1, .ptr 0 0), (5, .int .u8 o.Code), (6, .bool y1)] [some [.int .u8 o.Code, .int .i64 o.A, .int .i64 o.B]]) (runX 10000 ?_) (fun Jy1 => ?_)
  · clear hy1
    simp only [go_sem, seval]
    refine cnd_s 10000 h (fun hb h => ?_) (fun hb h => ?_)
    · simp only [go_sem, seval]
      refine ret_s (fun x => .tup [.int .i64 x.1, .int .i64 x.2]) h ?_
      first | rfl | simp only [go_sem, resAV, resAll, resOne, seval]
    · simp only [go_sem, seval]
      refine bsome h fun y11 hy11 h => ?_
      refine cndJ 25 10000 (fun w => w [(1, .ptr 0 0), (5, .int .u8 o.Code), (13, .bool y11)] [some [.int .u8 o.Code, .int .i64 o.A, .int .i64 o.B]]) (runX 10000 ?_) (fun Jy11 => ?_)
      · clear hy11
        simp only [go_sem, seval]
        refine cnd_s 10000 h (fun hb h => ?_) (fun hb h => ?_)
        · refine add_s h fun v14 _ e13 h => ?_
          simp only [go_sem, seval, e13]
          refine ret_s (fun x => .tup [.int .i64 x.1, .int .i64 x.2]) h ?_
          first | rfl | simp only [go_sem, resAV, resAll, resOne, seval]
        · simp only [go_sem, seval]
          refine bsome h fun y15 hy15 h => ?_
          refine cndJ 25 10000 (fun w => w [(5, .int .u8 o.Code), (19, .bool y15)] [some [.int .u8 o.Code, .int .i64 o.A, .int .i64 o.B]]) (runX 10000 ?_) (fun Jy15 => ?_)
          · clear hy15
            simp only [go_sem, seval]
            refine cnd_s 10000 h (fun hb h => ?_) (fun hb h => ?_)
            · simp only [go_sem, seval]
              refine ret_s (fun x => .tup [.int .i64 x.1, .int .i64 x.2]) h ?_
              first | rfl | simp only [go_sem, resAV, resAll, resOne, seval]
            · simp only [go_sem, seval]
              refine cnd_s 10000 h (fun hb h => ?_) (fun hb h => ?_)
              · simp only [go_sem, seval]
                refine ret_s (fun x => .tup [.int .i64 x.1, .int .i64 x.2]) h ?_
                first | rfl | simp only [go_sem, resAV, resAll, resOne, seval]
              · simp only [go_sem, seval]
                refine ret_s (fun x => .tup [.int .i64 x.1, .int .i64 x.2]) h ?_
                first | rfl | simp only [go_sem, resAV, resAll, resOne, seval]
          · clear h
            have h := hy15
            refine cnd_s 10000 h (fun hb h => ?_) (fun hb h => ?_)
            · simp only [go_sem, seval]
              obtain rfl := Option.some.inj h
              exact atJ (wkn (Jy15) ⟨rfl, rfl, trivial⟩)
            · simp only [go_sem, seval]
              refine bsome h fun y17 hy17 h => ?_
              refine cndJ 25 10000 (fun w => w [(5, .int .u8 o.Code), (19, .bool y17)] [some [.int .u8 o.Code, .int .i64 o.A, .int .i64 o.B]]) (runX 10000 ?_) (fun Jy17 => ?_)
              · clear hy17
                simp only [go_sem, seval]
                obtain rfl := Option.some.inj h
                exact atJ (wkn (Jy15) ⟨rfl, rfl, trivial⟩)
              · clear h
                have h := hy17
                refine cnd_s 10000 h (fun hb h => ?_) (fun hb h => ?_)
                · simp only [go_sem, seval]
                  obtain rfl := Option.some.inj h
                  exact atJ (wkn (Jy17) ⟨rfl, rfl, trivial⟩)
                · simp only [go_sem, seval]
                  obtain rfl := Option.some.inj h
                  exact atJ (wkn (Jy17) ⟨rfl, rfl, trivial⟩)
      · clear h
        have h := hy11
        refine cnd_s 10000 h (fun hb h => ?_) (fun hb h => ?_)
        · simp only [go_sem, seval]
          obtain rfl := Option.some.inj h
          exact atJ (wkn (Jy11) ⟨rfl, rfl, rfl, trivial⟩)
        · simp only [go_sem, seval]
          obtain rfl := Option.some.inj h
          exact atJ (wkn (Jy11) ⟨rfl, rfl, rfl, trivial⟩)
  · clear h
    have h := hy1
    refine cnd_s 10000 h (fun hb h => ?_) (fun hb h => ?_)
    · simp only [go_sem, seval]
      obtain rfl := Option.some.inj h
      exact atJ (wkn (Jy1) ⟨rfl, rfl, rfl, trivial⟩)
    · simp only [go_sem, seval]
      refine bsome h fun y3 hy3 h => ?_
      refine cndJ 25 10000 (fun w => w [(1, .ptr 0 0), (5, .int .u8 o.Code), (6, .bool y3)] [some [.int .u8 o.Code, .int .i64 o.A, .int .i64 o.B]]) (runX 10000 ?_) (fun Jy3 => ?_)
      · clear hy3
        simp only [go_sem, seval]
        obtain rfl := Option.some.inj h
        exact atJ (wkn (Jy1) ⟨rfl, rfl, rfl, trivial⟩)
      · clear h
        have h := hy3
        refine cnd_s 10000 h (fun hb h => ?_) (fun hb h => ?_)
        · simp only [go_sem, seval]
          obtain rfl := Option.some.inj h
          exact atJ (wkn (Jy3) ⟨rfl, rfl, rfl, trivial⟩)
        · simp only [go_sem, seval]
          refine bsome h fun y5 hy5 h => ?_
          refine cndJ 25 10000 (fun w => w [(1, .ptr 0 0), (5, .int .u8 o.Code), (6, .bool y5)] [some [.int .u8 o.Code, .int .i64 o.A, .int .i64 o.B]]) (runX 10000 ?_) (fun Jy5 => ?_)
          · clear hy5
            simp only [go_sem, seval]
            obtain rfl := Option.some.inj h
            exact atJ (wkn (Jy3) ⟨rfl, rfl, rfl, trivial⟩)
          · clear h
            have h := hy5
            refine cnd_s 10000 h (fun hb h => ?_) (fun hb h => ?_)
            · simp only [go_sem, seval]
              obtain rfl := Option.some.inj h
              exact atJ (wkn (Jy5) ⟨rfl, rfl, rfl, trivial⟩)
            · simp only [go_sem, seval]
              refine bsome h fun y7 hy7 h => ?_
              refine cndJ 25 10000 (fun w => w [(1, .ptr 0 0), (5, .int .u8 o.Code), (6, .bool y7)] [some [.int .u8 o.Code, .int .i64 o.A, .int .i64 o.B]]) (runX 10000 ?_) (fun Jy7 => ?_)
              · clear hy7
                simp only [go_sem, seval]
                obtain rfl := Option.some.inj h
                exact atJ (wkn (Jy5) ⟨rfl, rfl, rfl, trivial⟩)
              · clear h
                have h := hy7
                refine cnd_s 10000 h (fun hb h => ?_) (fun hb h => ?_)
                · simp only [go_sem, seval]
                  obtain rfl := Option.some.inj h
                  exact atJ (wkn (Jy7) ⟨rfl, rfl, rfl, trivial⟩)
                · simp only [go_sem, seval]
                  refine bsome h fun y9 hy9 h => ?_
                  refine cndJ 25 10000 (fun w => w [(1, .ptr 0 0), (5, .int .u8 o.Code), (6, .bool y9)] [some [.int .u8 o.Code, .int .i64 o.A, .int .i64 o.B]]) (runX 10000 ?_) (fun Jy9 => ?_)
                  · clear hy9
                    simp only [go_sem, seval]
                    obtain rfl := Option.some.inj h
                    exact atJ (wkn (Jy7) ⟨rfl, rfl, rfl, trivial⟩)
                  · clear h
                    have h := hy9
                    refine cnd_s 10000 h (fun hb h => ?_) (fun hb h => ?_)
                    · simp only [go_sem, seval]
                      obtain rfl := Option.some.inj h
                      exact atJ (wkn (Jy9) ⟨rfl, rfl, rfl, trivial⟩)
                    · simp only [go_sem, seval]
                      obtain rfl := Option.some.inj h
                      exact atJ (wkn (Jy9) ⟨rfl, rfl, rfl, trivial⟩)
theorem w_flow_code_depths {c : flow_code}   {r : ((List Int) × Bool)} (h : flow_code_depths c = some r) : ACall Tryz.prog 120 [enc_flow_code c] [] (.tup [.sl none (List.map (AV.int .i64) r.1), .bool r.2]) [] := by
  refine acallX 10000 hf120 ok120 (by first | rfl | simp only [go_sem]) meek_tup ?_
  dsimp only [Tryz.f120, nums, Option.getD, List.append]
  unfold flow_code_depths at h
  refine bsome h fun v1 hv1 h => ?_
  simp only [go_sem, seval]
  refine callX_ 10000 (w_flow_code_joined  hv1) (by first | rfl | simp only [go_sem]) (by first | rfl | simp only [go_sem]) ?_
  simp only [go_sem, seval]
  refine cnd_s 10000 h (fun hb h => ?_) (fun hb h => ?_)
  · simp only [go_sem, seval]
    refine ret_s (fun x => .tup [.sl none (List.map (AV.int .i64) x.1), .bool x.2]) h ?_
    first | rfl | simp only [go_sem, resAV, resAll, resOne, seval]
  · refine bsome h fun v2 hv2 h => ?_
    simp only [go_sem, seval]
    refine callB_ 10000 1 (r' := .rs 1 0 v2.length 1 false false) (hp2 := [some [.sl none (List.map enc_op_Op c.l), .sl none (List.map (AV.int .i64) c.at_)], some (List.map (AV.int .i64) v2)]) (w_slices_Repeat_int hv2) (by first | rfl | simp only [go_sem]) (by first | rfl | simp only [go_sem]) rfl rfl (by simp only [renL_map plain_int]; rfl) ?_
    refine bAtZ_s (AV.int .i64) .i64 ⟨3, 1, false, 8⟩ rfl 1 false false rfl h fun v9 _ e3 e4 e5 e6 e7 e8 h => ?_
    refine stBL_s 0 h fun v12 e10 e11 h => ?_
    simp only [go_sem, seval, e3, e4, e5, e6, e7, e8, e10]
    refine lit1_s h fun v14 e13 h => ?_
    refine litB_ (AV.int .i64) plain_int 10000 e13 false el75 rfl rfl rfl (by first | rfl | simp only [go_sem]) rfl 2 rfl rfl ?_
    simp only [go_sem, seval]
    refine letK_s h fun K16 hK16 h => ?_
    refine blkJ 97 10000 (fun w => ∀ (v191 : (List Int)) (v192 : (List Int)), K16 v191 v192 = some r → w [(4, .rs 1 0 v191.length 1 false false)] [some [.sl none (List.map enc_op_Op c.l), .sl none (List.map (AV.int .i64) c.at_)], some (List.map (AV.int .i64) v191), some (List.map (AV.int .i64) v192)]) (fun v191 v192 h => runX 10000 ?_) (fun JK16 => ?_)
    · subst hK16
      dsimp only at h
      simp only [go_sem, seval]
      refine mvF_ 10000 (AV.int .i64) plain_int (v := v191) rfl rfl (by first | rfl | simp only [go_sem]) (by first | rfl | simp only [go_sem]) (by first | rfl | (simp only [go_sem]; done) | (simp only [go_sem]; rfl)) rfl rfl ?_
      simp only [go_sem, seval]
      refine ret_s (fun x => .tup [.sl none (List.map (AV.int .i64) x.1), .bool x.2]) h ?_
      first | rfl | simp only [go_sem, resAV, resAll, resOne, seval]
    · clear hK16
      simp only [go_sem, seval]
      refine lpJ 97 fuel (fun q1 w => ∀ (v103 : (List Int)) (v104 : (List Int)), flow_code_depths_l1 c K16 q1 v103 v104 = some r → w [(1, .ptr 0 0), (4, .rs 1 0 v103.length 1 false false), (5, .rs 2 0 v104.length 1 false false)] [some [.sl none (List.map enc_op_Op c.l), .sl none (List.map (AV.int .i64) c.at_)], some (List.map (AV.int .i64) v103), some (List.map (AV.int .i64) v104)]) (fun w _ _ h => nomatch h) (fun q1 ih1 v103 v104 h => ?_) (fun L1 => ?_)
      · unfold flow_code_depths_l1 at h
        refine runL 10000 ?_
        simp only [go_sem, seval]
        refine cnd_s 10000 h (fun hb h => ?_) (fun hb h => ?_)
        · simp only [go_sem, seval]
          refine blk_ 10000 ?_
          refine sub_s h fun v106 _ e105 h => ?_
          refine bAt_s (AV.int .i64) .i64 ⟨3, 1, false, 8⟩ rfl 2 false false rfl h fun v113 _ e107 e108 e109 e110 e111 e112 h => ?_
          simp only [go_sem, seval, e105, e107, e108, e109, e110, e111]
          refine cut_s rfl h fun v118 b115 b116 e117 h => ?_
          refine cutB_ (AV.int .i64) 10000 (v := v104) rfl el75 rfl rfl (by first | rfl | simp only [go_sem]) rfl (by first | rfl | simp only [go_sem]) b115 b116 rfl e117 rfl ?_
          refine lAt_s enc_op_Op none .i64 ⟨116, 3, true, 24⟩ (fun _ => rfl) h fun v121 _ b119 e120 h => ?_
          refine bsome h fun v122 hv122 h => ?_
          simp only [go_sem, seval, b119, e120]
          refine callX_ 10000 (w_flow_moves  hv122) (by first | rfl | simp only [go_sem]) (by first | rfl | simp only [go_sem]) ?_
          refine bAt_s (AV.int .i64) .i64 ⟨3, 1, false, 8⟩ rfl 1 false false rfl h fun v129 _ e123 e124 e125 e126 e127 e128 h => ?_
          refine sub_s h fun v131 _ e130 h => ?_
          refine add_s h fun v133 _ e132 h => ?_
          simp only [go_sem, seval, e123, e124, e125, e126, e127, e130, e132]
          refine rgJ 97 10000 (.inl rfl) (fun w => w [(1, .ptr 0 0), (4, .rs 1 0 v103.length 1 false false), (5, .rs 2 0 v118.length 1 false false), (6, .int .i64 v113), (9, .int .i64 v133), (65, .bool ((decide (v129 < v122.1)) || (decide ((32 : Int) < v133))))] [some [.sl none (List.map enc_op_Op c.l), .sl none (List.map (AV.int .i64) c.at_)], some (List.map (AV.int .i64) v103), some (List.map (AV.int .i64) v118)]) (runX 10000 ?_) (fun Jg134 => ?_)
          · simp only [go_sem, seval]
            refine cnd_s 10000 h (fun hb h => ?_) (fun hb h => ?_)
            · simp only [go_sem, seval]
              refine ret_s (fun x => .tup [.sl none (List.map (AV.int .i64) x.1), .bool x.2]) h ?_
              first | rfl | simp only [go_sem, resAV, resAll, resOne, seval]
            · refine bsome h fun v135 hv135 h => ?_
              simp only [go_sem, seval]
              refine callX_ 10000 (w_flow_code_next  hv135) (by first | rfl | simp only [go_sem]) (by first | rfl | simp only [go_sem]) ?_
              simp only [go_sem, seval]
              refine letK_s h fun K137 hK137 h => ?_
              refine blkJ 97 10000 (fun w => ∀ (v188 : (List Int)) (v189 : (List Int)), K137 v188 v189 = some r → w [(1, .ptr 0 0), (4, .rs 1 0 v188.length 1 false false), (5, .rs 2 0 v189.length 1 false false)] [some [.sl none (List.map enc_op_Op c.l), .sl none (List.map (AV.int .i64) c.at_)], some (List.map (AV.int .i64) v188), some (List.map (AV.int .i64) v189)]) (fun v188 v189 h => runX 10000 ?_) (fun JK137 => ?_)
              · subst hK137
                dsimp only at h
                simp only [go_sem, seval]
                exact lp_back (ih1 v188 v189 h) ⟨rfl, rfl, rfl, trivial⟩
              · clear hK137
                simp only [go_sem, seval]
                refine lpJ 97 fuel (fun q3 w => ∀ (v162 : Int) (v163 : (List Int)) (v164 : (List Int)), flow_code_depths_l3 v133 v135 K137 q3 v162 v163 v164 = some r → w [(1, .ptr 0 0), (4, .rs 1 0 v163.length 1 false false), (5, .rs 2 0 v164.length 1 false false), (9, .int .i64 v133), (72, .sl none (List.map (AV.int .i64) v135.1)), (73, .int .i64 (v135.1.length : Int)), (74, .int .i64 v162)] [some [.sl none (List.map enc_op_Op c.l), .sl none (List.map (AV.int .i64) c.at_)], some (List.map (AV.int .i64) v163), some (List.map (AV.int .i64) v164)]) (fun w _ _ _ h => nomatch h) (fun q3 ih3 v162 v163 v164 h => ?_) (fun L3 => ?_)
                · unfold flow_code_depths_l3 at h
                  refine runL 10000 ?_
                  simp only [go_sem, seval]
                  refine cnd_s 10000 h (fun hb h => ?_) (fun hb h => ?_)
                  · simp only [go_sem, seval]
                    refine blk_ 10000 ?_
                    refine lAt_s (AV.int .i64) none .i64 ⟨3, 1, false, 8⟩ (fun _ => rfl) h fun v167 _ b165 e166 h => ?_
                    refine bAt_s (AV.int .i64) .i64 ⟨3, 1, false, 8⟩ rfl 1 false false rfl h fun v174 _ e168 e169 e170 e171 e172 e173 h => ?_
                    simp only [go_sem, seval, b165, e166, e168, e169, e170, e171, e172]
                    refine blk_ 10000 ?_
                    simp only [go_sem, seval]
                    refine letK_s h fun K176 hK176 h => ?_
                    refine cndJ 97 10000 (fun w => ∀ (v184 : (List Int)) (v185 : (List Int)), K176 v184 v185 = some r → w [(1, .ptr 0 0), (4, .rs 1 0 v184.length 1 false false), (5, .rs 2 0 v185.length 1 false false), (9, .int .i64 v133), (72, .sl none (List.map (AV.int .i64) v135.1)), (73, .int .i64 (v135.1.length : Int)), (74, .int .i64 v162)] [some [.sl none (List.map enc_op_Op c.l), .sl none (List.map (AV.int .i64) c.at_)], some (List.map (AV.int .i64) v184), some (List.map (AV.int .i64) v185)]) (fun v184 v185 h => runX 10000 ?_) (fun JK176 => ?_)
                    · subst hK176
                      dsimp only at h
                      refine add_s h fun v187 _ e186 h => ?_
                      simp only [go_sem, seval, e186]
                      exact lp_back (ih3 v187 v184 v185 h) ⟨rfl, rfl, rfl, rfl, rfl, rfl, rfl, trivial⟩
                    · clear hK176
                      refine cnd_s 10000 h (fun hb h => ?_) (fun hb h => ?_)
                      · simp only [go_sem, seval]
                        refine appB_s (AV.int .i64) (some none) ⟨3, 1, false, 8⟩ (fun _ => rfl) (by decide) rfl h fun v180 e177 e178 e179 h => ?_
                        refine appB_ 10000 (AV.int .i64) plain_int (v := v164) (ws := ([v167] : List Int)) rfl rfl rfl el75 rfl kd75 (by first | rfl | simp only [go_sem]) (by first | rfl | simp only [go_sem]) (by first | rfl | simp only [go_sem]) e177 e178 e179 (by first | rfl | (simp only [go_sem]; done) | (simp only [go_sem]; rfl)) rfl rfl ?_
                        refine stB_s h fun v183 e181 e182 h => ?_
                        simp only [go_sem, seval, e168, e169, e170, e171, e172, e173, e181]
                        exact atJ (wkn (JK176 v183 v180 h) ⟨rfl, congrArg (fun n => AV.rs 1 0 n 1 false false) e182.symm, rfl, rfl, rfl, rfl, rfl, trivial⟩)
                      · simp only [go_sem, seval]
                        refine cnd_s 10000 h (fun hb h => ?_) (fun hb h => ?_)
                        · simp only [go_sem, seval]
                          exact atJ (wkn (JK176 v163 v164 h) ⟨rfl, rfl, rfl, rfl, rfl, rfl, rfl, trivial⟩)
                        · simp only [go_sem, seval]
                          refine ret_s (fun x => .tup [.sl none (List.map (AV.int .i64) x.1), .bool x.2]) h ?_
                          first | rfl | simp only [go_sem, resAV, resAll, resOne, seval]
                  · simp only [go_sem, seval]
                    exact atJ (wkn (JK137 v163 v164 h) ⟨rfl, rfl, rfl, trivial⟩)
                · exact lp_back (L3 0 v103 v118 h) ⟨rfl, rfl, rfl, rfl, rfl, rfl, rfl, trivial⟩
          · simp only [go_sem, seval, e123, e124, e125, e126, e127]
            refine grd_ (fun hb190 => ?_) (fun hb190 => ?_)
            · simp only [go_sem, seval]
              exact atJ (wkn Jg134 ⟨rfl, rfl, rfl, rfl, rfl, congrArg AV.bool (by first | rfl | (rw [hb190]; rfl) | (simp [hb190]; done) | simp_all), trivial⟩)
            · simp only [go_sem, seval]
              exact atJ (wkn Jg134 ⟨rfl, rfl, rfl, rfl, rfl, congrArg AV.bool (by first | rfl | (rw [hb190]; rfl) | (simp [hb190]; done) | simp_all), trivial⟩)
        · simp only [go_sem, seval]
          exact atJ (wkn (JK16 v103 v104 h) ⟨rfl, trivial⟩)
      · exact lp_back (L1 v12 v14 h) ⟨rfl, congrArg (fun n => AV.rs 1 0 n 1 false false) e11.symm, rfl, trivial⟩
theorem w_flow_Depths {p0_b : (List Int)}   {r : ((List Int) × (Option Int))} (h : flow_Depths p0_b = some r) : ACall Tryz.prog 96 [.sl none (List.map (AV.int .u8) p0_b)] [] (.tup [.sl none (List.map (AV.int .i64) r.1), encE 66 r.2]) [] := by
  refine acallX 10000 hf96 ok96 (by first | rfl | simp only [go_sem]) meek_tup ?_
  dsimp only [Tryz.f96, nums, Option.getD, List.append]
  unfold flow_Depths at h
  refine bsome h fun v1 hv1 h => ?_
  simp only [go_sem, seval]
  refine callX_ 10000 (w_flow_read  hv1) (by first | rfl | simp only [go_sem]) (by first | rfl | simp only [go_sem]) ?_
  simp only [go_sem, seval]
  refine cnd_s 10000 h (fun hb h => ?_) (fun hb h => ?_)
  · simp only [go_sem, seval]
    refine ret_s (fun x => .tup [.sl none (List.map (AV.int .i64) x.1), encE 66 x.2]) h ?_
    first | rfl | simp only [go_sem, resAV, resAll, resOne, seval]
  · refine bsome h fun v2 hv2 h => ?_
    simp only [go_sem, seval]
    refine callX_ 10000 (w_flow_code_depths  hv2) (by first | rfl | simp only [go_sem]) (by first | rfl | simp only [go_sem]) ?_
    simp only [go_sem, seval]
    refine cnd_s 10000 h (fun hb h => ?_) (fun hb h => ?_)
    · simp only [go_sem, seval]
      refine ret_s (fun x => .tup [.sl none (List.map (AV.int .i64) x.1), encE 66 x.2]) h ?_
      first | rfl | simp only [go_sem, resAV, resAll, resOne, seval]
    · simp only [go_sem, seval]
      refine ret_s (fun x => .tup [.sl none (List.map (AV.int .i64) x.1), encE 66 x.2]) h ?_
      first | rfl | simp only [go_sem, resAV, resAll, resOne, seval]
theorem w_flow_Check {p0_b : (List Int)}   {r : (Option Int)} (h : flow_Check p0_b = some r) : ACall Tryz.prog 53 [.sl none (List.map (AV.int .u8) p0_b)] [] (encE 66 r) [] := by
  refine acallX 10000 hf53 ok53 (by first | rfl | simp only [go_sem]) meek_encE ?_
  dsimp only [Tryz.f53, nums, Option.getD, List.append]
  unfold flow_Check at h
  refine bsome h fun v1 hv1 h => ?_
  simp only [go_sem, seval]
  refine callX_ 10000 (w_flow_Depths  hv1) (by first | rfl | simp only [go_sem]) (by first | rfl | simp only [go_sem]) ?_
  simp only [go_sem, seval]
  refine ret_s (fun x => encE 66 x) h ?_
  first | rfl | simp only [go_sem, resAV, resAll, resOne, seval]
theorem w_method_Method_lit {m : method_Method} {i : Int} {sel : Bool}   {r : Bool} (h : method_Method_lit m i sel = some r) : ACall Tryz.prog 102 [enc_method_Method m, .int .i64 i, .bool sel] [] (.bool r) [] := by
  refine acallX 10000 hf102 ok102 (by first | rfl | simp only [go_sem]) meek_bool ?_
  dsimp only [Tryz.f102, nums, Option.getD, List.append]
  unfold method_Method_lit at h
  simp only [go_sem, seval]
  refine bsome h fun y1 hy1 h => ?_
  refine rgJ 23 10000 (.inl rfl) (fun w => w [(6, .bool y1)] [some [.str m.Sel, .sl none (List.map enc_method_Lit m.Lits), .sl none (List.map enc_method_Part m.Parts)]]) (runX 10000 ?_) (fun Jy1 => ?_)
  · clear hy1
    simp only [go_sem, seval]
    refine ret_s (fun x => .bool x) h ?_
    first | rfl | simp only [go_sem, resAV, resAll, resOne, seval]
  · clear h
    have h := hy1
    simp only [go_sem, seval]
    refine grd_ (fun hb3 => ?_) (fun hb3 => ?_)
    · have h := ite_t hb3 h
      refine lAt_s enc_method_Lit none .i64 ⟨62, 2, true, 24⟩ (fun _ => rfl) h fun v6 _ b4 e5 h => ?_
      simp only [go_sem, seval, b4, e5]
      obtain rfl := Option.some.inj h
      exact atJ (wkn (Jy1) ⟨rfl, trivial⟩)
    · have h := ite_f hb3 h
      simp only [go_sem, seval]
      obtain rfl := Option.some.inj h
      exact atJ (wkn (Jy1) ⟨rfl, trivial⟩)
theorem w_method_Method_temp {m : method_Method} {p : Int} {out : Int} {i : Int}   {r : Bool} (h : method_Method_temp m p out i = some r) : ACall Tryz.prog 103 [enc_method_Method m, .int .i64 p, .int .i64 out, .int .i64 i] [] (.bool r) [] := by
  refine acallX 10000 hf103 ok103 (by first | rfl | simp only [go_sem]) meek_bool ?_
  dsimp only [Tryz.f103, nums, Option.getD, List.append]
  unfold method_Method_temp at h
  simp only [go_sem, seval]
  refine bsome h fun y1 hy1 h => ?_
  refine blkJ 35 10000 (fun w => w [(1, .int .i64 y1), (3, .int .i64 i), (4, .ptr 0 0)] [some [.str m.Sel, .sl none (List.map enc_method_Lit m.Lits), .sl none (List.map enc_method_Part m.Parts)]]) (runX 10000 ?_) (fun Jy1 => ?_)
  · clear hy1
    simp only [go_sem, seval]
    refine bsome h fun y12 hy12 h => ?_
    refine rgJ 35 10000 (.inl rfl) (fun w => w [(8, .bool y12)] [some [.str m.Sel, .sl none (List.map enc_method_Lit m.Lits), .sl none (List.map enc_method_Part m.Parts)]]) (runX 10000 ?_) (fun Jy12 => ?_)
    · clear hy12
      simp only [go_sem, seval]
      refine ret_s (fun x => .bool x) h ?_
      first | rfl | simp only [go_sem, resAV, resAll, resOne, seval]
    · clear h
      have h := hy12
      simp only [go_sem, seval]
      refine grd_ (fun hb14 => ?_) (fun hb14 => ?_)
      · have h := ite_t hb14 h
        refine lAt_s enc_method_Part none .i64 ⟨63, 4, true, 48⟩ (fun _ => rfl) h fun v17 _ b15 e16 h => ?_
        simp only [go_sem, seval, b15, e16]
        obtain rfl := Option.some.inj h
        exact atJ (wkn (Jy12) ⟨rfl, trivial⟩)
      · have h := ite_f hb14 h
        simp only [go_sem, seval]
        obtain rfl := Option.some.inj h
        exact atJ (wkn (Jy12) ⟨rfl, trivial⟩)
  · clear h
    have h := hy1
    simp only [go_sem, seval]
    refine lpJ 35 fuel (fun q1 w => ∀ (v3 : Int) (v4 : Int), method_Method_temp_l1 m q1 v3 v4 = some y1 → w [(1, .int .i64 v3), (2, .int .i64 v4), (3, .int .i64 i), (4, .ptr 0 0)] [some [.str m.Sel, .sl none (List.map enc_method_Lit m.Lits), .sl none (List.map enc_method_Part m.Parts)]]) (fun w _ _ h => nomatch h) (fun q1 ih1 v3 v4 h => ?_) (fun L1 => ?_)
    · unfold method_Method_temp_l1 at h
      refine runL 10000 ?_
      simp only [go_sem, seval]
      refine rgJ 35 10000 (.inl rfl) (fun w => w [(1, .int .i64 v3), (2, .int .i64 v4), (3, .int .i64 i), (4, .ptr 0 0), (14, .bool ((decide ((0 : Int) < v4)) && (decide ((0 : Int) ≤ v3))))] [some [.str m.Sel, .sl none (List.map enc_method_Lit m.Lits), .sl none (List.map enc_method_Part m.Parts)]]) (runX 10000 ?_) (fun Jg5 => ?_)
      · simp only [go_sem, seval]
        refine cnd_s 10000 h (fun hb h => ?_) (fun hb h => ?_)
        · simp only [go_sem, seval]
          refine blk_ 10000 ?_
          refine lAt_s enc_method_Part none .i64 ⟨63, 4, true, 48⟩ (fun _ => rfl) h fun v8 _ b6 e7 h => ?_
          refine sub_s h fun v10 _ e9 h => ?_
          simp only [go_sem, seval, b6, e7, e9]
          exact lp_back (ih1 v8.Outer v10 h) ⟨rfl, rfl, rfl, rfl, trivial⟩
        · simp only [go_sem, seval]
          obtain rfl := Option.some.inj h
          exact atJ (wkn (Jy1) ⟨rfl, rfl, rfl, trivial⟩)
      · simp only [go_sem, seval]
        refine grd_ (fun hb11 => ?_) (fun hb11 => ?_)
        · simp only [go_sem, seval]
          exact atJ (wkn Jg5 ⟨rfl, rfl, rfl, rfl, congrArg AV.bool (by first | rfl | (rw [hb11]; rfl) | (simp [hb11]; done) | simp_all), trivial⟩)
        · simp only [go_sem, seval]
          exact atJ (wkn Jg5 ⟨rfl, rfl, rfl, rfl, congrArg AV.bool (by first | rfl | (rw [hb11]; rfl) | (simp [hb11]; done) | simp_all), trivial⟩)
    · exact lp_back (L1 p out h) ⟨rfl, rfl, rfl, rfl, trivial⟩
theorem w_method_Method_fits {m : method_Method} {p : Int} {o : op_Op} {vars : Int} {classes : Int}   {r : Bool} (h : method_Method_fits m p o vars classes = some r) : ACall Tryz.prog 57 [enc_method_Method m, .int .i64 p, enc_op_Op o, .int .i64 vars, .int .i64 classes] [] (.bool r) [] := by
  refine acallX 10000 hf57 ok57 (by first | rfl | simp only [go_sem]) meek_bool ?_
  dsimp only [Tryz.f57, nums, Option.getD, List.append]
  unfold method_Method_fits at h
  simp only [go_sem, seval]
  refine blk_ 10000 ?_
  simp only [go_sem, seval]
  refine cnd_s 10000 h (fun hb h => ?_) (fun hb h => ?_)
  · refine bsome h fun v1 hv1 h => ?_
    simp only [go_sem, seval]
    refine callX_ 10000 (w_method_Method_lit  hv1) (by first | rfl | simp only [go_sem]) (by first | rfl | simp only [go_sem]) ?_
    simp only [go_sem, seval]
    refine ret_s (fun x => .bool x) h ?_
    first | rfl | simp only [go_sem, resAV, resAll, resOne, seval]
  · simp only [go_sem, seval]
    refine bsome h fun y2 hy2 h => ?_
    refine cndJ 102 10000 (fun w => w [(1, .int .i64 p), (3, .int .i64 vars), (4, .int .i64 classes), (5, .ptr 0 0), (7, .ptr 1 0), (14, .int .u8 o.Code), (21, .bool y2)] [some [.str m.Sel, .sl none (List.map enc_method_Lit m.Lits), .sl none (List.map enc_method_Part m.Parts)], some [.int .u8 o.Code, .int .i64 o.A, .int .i64 o.B]]) (runX 10000 ?_) (fun Jy2 => ?_)
    · clear hy2
      simp only [go_sem, seval]
      refine cnd_s 10000 h (fun hb h => ?_) (fun hb h => ?_)
      · refine bsome h fun v4 hv4 h => ?_
        simp only [go_sem, seval]
        refine callX_ 10000 (w_method_Method_lit  hv4) (by first | rfl | simp only [go_sem]) (by first | rfl | simp only [go_sem]) ?_
        simp only [go_sem, seval]
        refine cnd_s 10000 h (fun hb h => ?_) (fun hb h => ?_)
        · simp only [go_sem, seval]
          refine ret_s (fun x => .bool x) h ?_
          first | rfl | simp only [go_sem, resAV, resAll, resOne, seval]
        · refine lAt_s enc_method_Lit none .i64 ⟨62, 2, true, 24⟩ (fun _ => rfl) h fun v7 _ b5 e6 h => ?_
          refine bsome h fun v8 hv8 h => ?_
          simp only [go_sem, seval, b5, e6]
          refine callX_ 10000 (w_method_Arity  hv8) (by first | rfl | simp only [go_sem]) (by first | rfl | simp only [go_sem]) ?_
          simp only [go_sem, seval]
          refine rgJ 102 10000 (.inl rfl) (fun w => w [(10, .bool (v8.2 && (decide (v8.1 = o.B))))] [some [.str m.Sel, .sl none (List.map enc_method_Lit m.Lits), .sl none (List.map enc_method_Part m.Parts)], some [.int .u8 o.Code, .int .i64 o.A, .int .i64 o.B]]) (runX 10000 ?_) (fun Jg9 => ?_)
          · simp only [go_sem, seval]
            refine ret_s (fun x => .bool x) h ?_
            first | rfl | simp only [go_sem, resAV, resAll, resOne, seval]
          · simp only [go_sem, seval]
            refine grd_ (fun hb10 => ?_) (fun hb10 => ?_)
            · simp only [go_sem, seval]
              exact atJ (wkn Jg9 ⟨congrArg AV.bool (by first | rfl | (rw [hb10]; rfl) | (simp [hb10]; done) | simp_all), trivial⟩)
            · simp only [go_sem, seval]
              exact atJ (wkn Jg9 ⟨congrArg AV.bool (by first | rfl | (rw [hb10]; rfl) | (simp [hb10]; done) | simp_all), trivial⟩)
      · simp only [go_sem, seval]
        refine bsome h fun y11 hy11 h => ?_
        refine cndJ 102 10000 (fun w => w [(1, .int .i64 p), (3, .int .i64 vars), (4, .int .i64 classes), (5, .ptr 0 0), (7, .ptr 1 0), (14, .int .u8 o.Code), (47, .bool y11)] [some [.str m.Sel, .sl none (List.map enc_method_Lit m.Lits), .sl none (List.map enc_method_Part m.Parts)], some [.int .u8 o.Code, .int .i64 o.A, .int .i64 o.B]]) (runX 10000 ?_) (fun Jy11 => ?_)
        · clear hy11
          simp only [go_sem, seval]
          refine cnd_s 10000 h (fun hb h => ?_) (fun hb h => ?_)
          · refine bsome h fun v13 hv13 h => ?_
            simp only [go_sem, seval]
            refine callX_ 10000 (w_method_Method_temp  hv13) (by first | rfl | simp only [go_sem]) (by first | rfl | simp only [go_sem]) ?_
            simp only [go_sem, seval]
            refine ret_s (fun x => .bool x) h ?_
            first | rfl | simp only [go_sem, resAV, resAll, resOne, seval]
          · simp only [go_sem, seval]
            refine bsome h fun y14 hy14 h => ?_
            refine cndJ 102 10000 (fun w => w [(1, .int .i64 p), (3, .int .i64 vars), (4, .int .i64 classes), (5, .ptr 0 0), (7, .ptr 1 0), (14, .int .u8 o.Code), (57, .bool y14)] [some [.str m.Sel, .sl none (List.map enc_method_Lit m.Lits), .sl none (List.map enc_method_Part m.Parts)], some [.int .u8 o.Code, .int .i64 o.A, .int .i64 o.B]]) (runX 10000 ?_) (fun Jy14 => ?_)
            · clear hy14
              simp only [go_sem, seval]
              refine cnd_s 10000 h (fun hb h => ?_) (fun hb h => ?_)
              · simp only [go_sem, seval]
                refine ret_s (fun x => .bool x) h ?_
                first | rfl | simp only [go_sem, resAV, resAll, resOne, seval]
              · simp only [go_sem, seval]
                refine cnd_s 10000 h (fun hb h => ?_) (fun hb h => ?_)
                · simp only [go_sem, seval]
                  refine ret_s (fun x => .bool x) h ?_
                  first | rfl | simp only [go_sem, resAV, resAll, resOne, seval]
                · simp only [go_sem, seval]
                  refine cnd_s 10000 h (fun hb h => ?_) (fun hb h => ?_)
                  · simp only [go_sem, seval]
                    refine bsome h fun y16 hy16 h => ?_
                    refine rgJ 102 10000 (.inl rfl) (fun w => w [(10, .bool y16)] [some [.str m.Sel, .sl none (List.map enc_method_Lit m.Lits), .sl none (List.map enc_method_Part m.Parts)], some [.int .u8 o.Code, .int .i64 o.A, .int .i64 o.B]]) (runX 10000 ?_) (fun Jy16 => ?_)
                    · clear hy16
                      simp only [go_sem, seval]
                      refine ret_s (fun x => .bool x) h ?_
                      first | rfl | simp only [go_sem, resAV, resAll, resOne, seval]
                    · clear h
                      have h := hy16
                      simp only [go_sem, seval]
                      refine grd_ (fun hb18 => ?_) (fun hb18 => ?_)
                      · have h := ite_t hb18 h
                        simp only [go_sem, seval]
                        refine grd_ (fun hb19 => ?_) (fun hb19 => ?_)
                        · have h := ite_t hb19 h
                          refine lAt_s enc_method_Part none .i64 ⟨63, 4, true, 48⟩ (fun _ => rfl) h fun v22 _ b20 e21 h => ?_
                          simp only [go_sem, seval, b20, e21]
                          obtain rfl := Option.some.inj h
                          exact atJ (wkn (Jy16) ⟨rfl, trivial⟩)
                        · have h := ite_f hb19 h
                          simp only [go_sem, seval]
                          obtain rfl := Option.some.inj h
                          exact atJ (wkn (Jy16) ⟨rfl, trivial⟩)
                      · have h := ite_f hb18 h
                        simp only [go_sem, seval]
                        obtain rfl := Option.some.inj h
                        exact atJ (wkn (Jy16) ⟨rfl, trivial⟩)
                  · simp only [go_sem, seval]
                    refine cnd_s 10000 h (fun hb h => ?_) (fun hb h => ?_)
                    · simp only [go_sem, seval]
                      refine ret_s (fun x => .bool x) h ?_
                      first | rfl | simp only [go_sem, resAV, resAll, resOne, seval]
                    · simp only [go_sem, seval]
                      refine cnd_s 10000 h (fun hb h => ?_) (fun hb h => ?_)
                      · simp only [go_sem, seval]
                        refine ret_s (fun x => .bool x) h ?_
                        first | rfl | simp only [go_sem, resAV, resAll, resOne, seval]
                      · simp only [go_sem, seval]
                        refine ret_s (fun x => .bool x) h ?_
                        first | rfl | simp only [go_sem, resAV, resAll, resOne, seval]
            · clear h
              have h := hy14
              refine cnd_s 10000 h (fun hb h => ?_) (fun hb h => ?_)
              · simp only [go_sem, seval]
                obtain rfl := Option.some.inj h
                exact atJ (wkn (Jy14) ⟨rfl, rfl, rfl, rfl, rfl, rfl, rfl, trivial⟩)
              · simp only [go_sem, seval]
                obtain rfl := Option.some.inj h
                exact atJ (wkn (Jy14) ⟨rfl, rfl, rfl, rfl, rfl, rfl, rfl, trivial⟩)
        · clear h
          have h := hy11
          refine cnd_s 10000 h (fun hb h => ?_) (fun hb h => ?_)
          · simp only [go_sem, seval]
            obtain rfl := Option.some.inj h
            exact atJ (wkn (Jy11) ⟨rfl, rfl, rfl, rfl, rfl, rfl, rfl, trivial⟩)
          · simp only [go_sem, seval]
            obtain rfl := Option.some.inj h
            exact atJ (wkn (Jy11) ⟨rfl, rfl, rfl, rfl, rfl, rfl, rfl, trivial⟩)
    · clear h
      have h := hy2
      refine cnd_s 10000 h (fun hb h => ?_) (fun hb h => ?_)
      · simp only [go_sem, seval]
        obtain rfl := Option.some.inj h
        exact atJ (wkn (Jy2) ⟨rfl, rfl, rfl, rfl, rfl, rfl, rfl, trivial⟩)
      · simp only [go_sem, seval]
        obtain rfl := Option.some.inj h
        exact atJ (wkn (Jy2) ⟨rfl, rfl, rfl, rfl, rfl, rfl, rfl, trivial⟩)
theorem w_method_Method_part_1 {o : op_Op} {p1 : method_Method} {p2 : Int} {p3 : Int} {p4 : Int}   {r : (Bool × method_Method × Int × Int × Int)} (h : method_Method_part_1 o p1 p2 p3 p4 = some r) : ACall Tryz.prog 56 [enc_op_Op o, .ptr 0 0, .ptr 1 0, .ptr 2 0, .ptr 3 0] [some [.str p1.Sel, .sl none (List.map enc_method_Lit p1.Lits), .sl none (List.map enc_method_Part p1.Parts)], some [.int .i64 p2], some [.int .i64 p3], some [.int .i64 p4]] (.bool r.1) [some [.str r.2.1.Sel, .sl none (List.map enc_method_Lit r.2.1.Lits), .sl none (List.map enc_method_Part r.2.1.Parts)], some [.int .i64 r.2.2.1], some [.int .i64 r.2.2.2.1], some [.int .i64 r.2.2.2.2]] := by
  refine acallHX 10000 hf56 ok56 (by first | rfl | simp only [go_sem]) meek_bool rfl (by first | rfl | simp only [go_sem, allLt]) ?_
  dsimp only [Tryz.f56, nums, Option.getD, List.append]
  unfold method_Method_part_1 at h
  refine bsome h fun v1 hv1 h => ?_
  simp only [go_sem, seval]
  refine callX_ 10000 (w_method_Method_fits  hv1) (by first | rfl | simp only [go_sem]) (by first | rfl | simp only [go_sem]) ?_
  simp only [go_sem, seval]
  refine retH_s (fun x => .bool x.1) (fun x => [some [.str x.2.1.Sel, .sl none (List.map enc_method_Lit x.2.1.Lits), .sl none (List.map enc_method_Part x.2.1.Parts)], some [.int .i64 x.2.2.1], some [.int .i64 x.2.2.2.1], some [.int .i64 x.2.2.2.2]]) h ?_ ?_
  · first | rfl | simp only [go_sem, resAV, resAll, resOne, seval]
  · first | rfl | simp only [go_sem, resAV, resAll, resOne, seval]
theorem w_slices_IndexFunc_Lop_Op_op_Op_c56 {s : (List op_Op)} {p1_f0 : method_Method} {p1_f1 : Int} {p1_f2 : Int} {p1_f3 : Int}   {r : (Int × method_Method × Int × Int × Int)} (h : slices_IndexFunc_Lop_Op_op_Op_c56 s p1_f0 p1_f1 p1_f2 p1_f3 = some r) : ACall Tryz.prog 101 [.sl none (List.map enc_op_Op s), .fn (.func 56) [] [.ptr 0 0, .ptr 1 0, .ptr 2 0, .ptr 3 0]] [some [.str p1_f0.Sel, .sl none (List.map enc_method_Lit p1_f0.Lits), .sl none (List.map enc_method_Part p1_f0.Parts)], some [.int .i64 p1_f1], some [.int .i64 p1_f2], some [.int .i64 p1_f3]] (.int .i64 r.1) [some [.str r.2.1.Sel, .sl none (List.map enc_method_Lit r.2.1.Lits), .sl none (List.map enc_method_Part r.2.1.Parts)], some [.int .i64 r.2.2.1], some [.int .i64 r.2.2.2.1], some [.int .i64 r.2.2.2.2]] := by
  refine acallHX 10000 hf101 ok101 (by first | rfl | simp only [go_sem]) meek_int rfl (by first | rfl | simp only [go_sem, allLt]) ?_
  dsimp only [Tryz.f101, nums, Option.getD, List.append]
  unfold slices_IndexFunc_Lop_Op_op_Op_c56 at h
  simp only [go_sem, seval]
  refine letK_s h fun K2 hK2 h => ?_
  refine blkJ 19 10000 (fun w => ∀ (v21 : method_Method) (v22 : Int) (v23 : Int) (v24 : Int), K2 v21 v22 v23 v24 = some r → w [] [some [.str v21.Sel, .sl none (List.map enc_method_Lit v21.Lits), .sl none (List.map enc_method_Part v21.Parts)], some [.int .i64 v22], some [.int .i64 v23], some [.int .i64 v24]]) (fun v21 v22 v23 v24 h => runX 10000 ?_) (fun JK2 => ?_)
  · subst hK2
    dsimp only at h
    simp only [go_sem, seval]
    refine retH_s (fun x => .int .i64 x.1) (fun x => [some [.str x.2.1.Sel, .sl none (List.map enc_method_Lit x.2.1.Lits), .sl none (List.map enc_method_Part x.2.1.Parts)], some [.int .i64 x.2.2.1], some [.int .i64 x.2.2.2.1], some [.int .i64 x.2.2.2.2]]) h ?_ ?_
    · first | rfl | simp only [go_sem, resAV, resAll, resOne, seval]
    · first | rfl | simp only [go_sem, resAV, resAll, resOne, seval]
  · clear hK2
    simp only [go_sem, seval]
    refine lpJ 19 fuel (fun q1 w => ∀ (v10 : Int) (v11 : method_Method) (v12 : Int) (v13 : Int) (v14 : Int), slices_IndexFunc_Lop_Op_op_Op_c56_l1 s K2 q1 v10 v11 v12 v13 v14 = some r → w [(0, .sl none (List.map enc_op_Op s)), (1, .fn (.func 56) [] [.ptr 0 0, .ptr 1 0, .ptr 2 0, .ptr 3 0]), (7, .int .i64 (s.length : Int)), (8, .int .i64 v10)] [some [.str v11.Sel, .sl none (List.map enc_method_Lit v11.Lits), .sl none (List.map enc_method_Part v11.Parts)], some [.int .i64 v12], some [.int .i64 v13], some [.int .i64 v14]]) (fun w _ _ _ _ _ h => nomatch h) (fun q1 ih1 v10 v11 v12 v13 v14 h => ?_) (fun L1 => ?_)
    · unfold slices_IndexFunc_Lop_Op_op_Op_c56_l1 at h
      refine runL 10000 ?_
      simp only [go_sem, seval]
      refine cnd_s 10000 h (fun hb h => ?_) (fun hb h => ?_)
      · simp only [go_sem, seval]
        refine blk_ 10000 ?_
        refine lAt_s enc_op_Op none .i64 ⟨116, 3, true, 24⟩ (fun _ => rfl) h fun v17 _ b15 e16 h => ?_
        refine bsome h fun v18 hv18 h => ?_
        simp only [go_sem, seval, b15, e16]
        refine callH_ 10000 [0, 1, 2, 3] (w_method_Method_part_1  hv18) (by first | rfl | simp only [go_sem]) (by first | rfl | simp only [go_sem]) (by first | rfl | simp only [go_sem]) ?_
        simp only [go_sem, seval]
        refine cnd_s 10000 h (fun hb h => ?_) (fun hb h => ?_)
        · simp only [go_sem, seval]
          refine retH_s (fun x => .int .i64 x.1) (fun x => [some [.str x.2.1.Sel, .sl none (List.map enc_method_Lit x.2.1.Lits), .sl none (List.map enc_method_Part x.2.1.Parts)], some [.int .i64 x.2.2.1], some [.int .i64 x.2.2.2.1], some [.int .i64 x.2.2.2.2]]) h ?_ ?_
          · first | rfl | simp only [go_sem, resAV, resAll, resOne, seval]
          · first | rfl | simp only [go_sem, resAV, resAll, resOne, seval]
        · refine add_s h fun v20 _ e19 h => ?_
          simp only [go_sem, seval, e19]
          exact lp_back (ih1 v20 v18.2.1 v18.2.2.1 v18.2.2.2.1 v18.2.2.2.2 h) ⟨rfl, rfl, rfl, rfl, trivial⟩
      · simp only [go_sem, seval]
        exact atJ (wkn (JK2 v11 v12 v13 v14 h) trivial)
    · exact lp_back (L1 0 p1_f0 p1_f1 p1_f2 p1_f3 h) ⟨rfl, rfl, rfl, rfl, trivial⟩
theorem w_slices_ContainsFunc_Lop_Op_op_Op_c56 {s : (List op_Op)} {p1_f0 : method_Method} {p1_f1 : Int} {p1_f2 : Int} {p1_f3 : Int}   {r : (Bool × method_Method × Int × Int × Int)} (h : slices_ContainsFunc_Lop_Op_op_Op_c56 s p1_f0 p1_f1 p1_f2 p1_f3 = some r) : ACall Tryz.prog 55 [.sl none (List.map enc_op_Op s), .fn (.func 56) [] [.ptr 0 0, .ptr 1 0, .ptr 2 0, .ptr 3 0]] [some [.str p1_f0.Sel, .sl none (List.map enc_method_Lit p1_f0.Lits), .sl none (List.map enc_method_Part p1_f0.Parts)], some [.int .i64 p1_f1], some [.int .i64 p1_f2], some [.int .i64 p1_f3]] (.bool r.1) [some [.str r.2.1.Sel, .sl none (List.map enc_method_Lit r.2.1.Lits), .sl none (List.map enc_method_Part r.2.1.Parts)], some [.int .i64 r.2.2.1], some [.int .i64 r.2.2.2.1], some [.int .i64 r.2.2.2.2]] := by
  refine acallHX 10000 hf55 ok55 (by first | rfl | simp only [go_sem]) meek_bool rfl (by first | rfl | simp only [go_sem, allLt]) ?_
  dsimp only [Tryz.f55, nums, Option.getD, List.append]
  unfold slices_ContainsFunc_Lop_Op_op_Op_c56 at h
  refine bsome h fun v1 hv1 h => ?_
  simp only [go_sem, seval]
  refine callH_ 10000 [0, 1, 2, 3] (w_slices_IndexFunc_Lop_Op_op_Op_c56  hv1) (by first | rfl | simp only [go_sem]) (by first | rfl | simp only [go_sem]) (by first | rfl | simp only [go_sem]) ?_
  simp only [go_sem, seval]
  refine retH_s (fun x => .bool x.1) (fun x => [some [.str x.2.1.Sel, .sl none (List.map enc_method_Lit x.2.1.Lits), .sl none (List.map enc_method_Part x.2.1.Parts)], some [.int .i64 x.2.2.1], some [.int .i64 x.2.2.2.1], some [.int .i64 x.2.2.2.2]]) h ?_ ?_
  · first | rfl | simp only [go_sem, resAV, resAll, resOne, seval]
  · first | rfl | simp only [go_sem, resAV, resAll, resOne, seval]
theorem w_method_Method_part {m : method_Method} {p : Int} {vars : Int} {classes : Int}   {r : Bool} (h : method_Method_part m p vars classes = some r) : ACall Tryz.prog 24 [enc_method_Method m, .int .i64 p, .int .i64 vars, .int .i64 classes] [] (.bool r) [] := by
  refine acallX 10000 hf24 ok24 (by first | rfl | simp only [go_sem]) meek_bool ?_
  dsimp only [Tryz.f24, nums, Option.getD, List.append]
  unfold method_Method_part at h
  refine lAt_s enc_method_Part none .i64 ⟨63, 4, true, 48⟩ (fun _ => rfl) h fun v3 _ b1 e2 h => ?_
  simp only [go_sem, seval, b1, e2]
  refine bsome h fun y4 hy4 h => ?_
  refine rgJ 78 10000 (.inl rfl) (fun w => w [(4, .ptr 0 0), (5, .ptr 1 0), (6, .ptr 2 0), (7, .ptr 3 0), (9, .ptr 4 0), (62, .bool y4)] [some [.str m.Sel, .sl none (List.map enc_method_Lit m.Lits), .sl none (List.map enc_method_Part m.Parts)], some [.int .i64 p], some [.int .i64 vars], some [.int .i64 classes], some [.int .i64 v3.Outer, .int .i64 v3.Args, .int .i64 v3.Temps, .sl none (List.map (AV.int .u8) v3.Code)]]) (runX 10000 ?_) (fun Jy4 => ?_)
  · clear hy4
    simp only [go_sem, seval]
    refine cnd_s 10000 h (fun hb h => ?_) (fun hb h => ?_)
    · simp only [go_sem, seval]
      refine ret_s (fun x => .bool x) h ?_
      first | rfl | simp only [go_sem, resAV, resAll, resOne, seval]
    · refine bsome h fun v14 hv14 h => ?_
      simp only [go_sem, seval]
      refine callX_ 10000 (w_op_Decode  hv14) (by first | rfl | simp only [go_sem]) (by first | rfl | simp only [go_sem]) ?_
      simp only [go_sem, seval]
      refine bsome h fun y15 hy15 h => ?_
      refine rgJ 78 10000 (.inl rfl) (fun w => w [(8, .bool y15.1)] [some [.str y15.2.1.Sel, .sl none (List.map enc_method_Lit y15.2.1.Lits), .sl none (List.map enc_method_Part y15.2.1.Parts)], some [.int .i64 y15.2.2.1], some [.int .i64 y15.2.2.2.1], some [.int .i64 y15.2.2.2.2], some [.int .i64 v3.Outer, .int .i64 v3.Args, .int .i64 v3.Temps, .sl none (List.map (AV.int .u8) v3.Code)]]) (runX 10000 ?_) (fun Jy15 => ?_)
      · clear hy15
        simp only [go_sem, seval]
        refine ret_s (fun x => .bool x) h ?_
        first | rfl | simp only [go_sem, resAV, resAll, resOne, seval]
      · clear h
        have h := hy15
        simp only [go_sem, seval]
        refine grd_ (fun hb17 => ?_) (fun hb17 => ?_)
        · have h := ite_t hb17 h
          refine bsome h fun v18 hv18 h => ?_
          simp only [go_sem, seval]
          refine callH_ 10000 [0, 1, 2, 3] (w_slices_ContainsFunc_Lop_Op_op_Op_c56  hv18) (by first | rfl | simp only [go_sem]) (by first | rfl | simp only [go_sem]) (by first | rfl | simp only [go_sem]) ?_
          simp only [go_sem, seval]
          obtain rfl := Option.some.inj h
          exact atJ (wkn (Jy15) ⟨rfl, trivial⟩)
        · have h := ite_f hb17 h
          simp only [go_sem, seval]
          obtain rfl := Option.some.inj h
          exact atJ (wkn (Jy15) ⟨rfl, trivial⟩)
  · clear h
    have h := hy4
    simp only [go_sem, seval]
    refine grd_ (fun hb6 => ?_) (fun hb6 => ?_)
    · have h := ite_f hb6 h
      simp only [go_sem, seval]
      refine grd_ (fun hb7 => ?_) (fun hb7 => ?_)
      · have h := ite_f hb7 h
        simp only [go_sem, seval]
        refine grd_ (fun hb8 => ?_) (fun hb8 => ?_)
        · have h := ite_f hb8 h
          simp only [go_sem, seval]
          refine grd_ (fun hb9 => ?_) (fun hb9 => ?_)
          · have h := ite_f hb9 h
            simp only [go_sem, seval]
            refine grd_ (fun hb10 => ?_) (fun hb10 => ?_)
            · have h := ite_f hb10 h
              simp only [go_sem, seval]
              refine grd_ (fun hb11 => ?_) (fun hb11 => ?_)
              · have h := ite_f hb11 h
                simp only [go_sem, seval]
                refine grd_ (fun hb12 => ?_) (fun hb12 => ?_)
                · have h := ite_f hb12 h
                  refine bsome h fun v13 hv13 h => ?_
                  simp only [go_sem, seval]
                  refine callX_ 10000 (w_flow_Check  hv13) (by first | rfl | simp only [go_sem]) (by first | rfl | simp only [go_sem]) ?_
                  simp only [go_sem, seval]
                  obtain rfl := Option.some.inj h
                  exact atJ (wkn (Jy4) ⟨rfl, rfl, rfl, rfl, rfl, rfl, trivial⟩)
                · have h := ite_t hb12 h
                  simp only [go_sem, seval]
                  obtain rfl := Option.some.inj h
                  exact atJ (wkn (Jy4) ⟨rfl, rfl, rfl, rfl, rfl, rfl, trivial⟩)
              · have h := ite_t hb11 h
                simp only [go_sem, seval]
                obtain rfl := Option.some.inj h
                exact atJ (wkn (Jy4) ⟨rfl, rfl, rfl, rfl, rfl, rfl, trivial⟩)
            · have h := ite_t hb10 h
              simp only [go_sem, seval]
              obtain rfl := Option.some.inj h
              exact atJ (wkn (Jy4) ⟨rfl, rfl, rfl, rfl, rfl, rfl, trivial⟩)
          · have h := ite_t hb9 h
            simp only [go_sem, seval]
            obtain rfl := Option.some.inj h
            exact atJ (wkn (Jy4) ⟨rfl, rfl, rfl, rfl, rfl, rfl, trivial⟩)
        · have h := ite_t hb8 h
          simp only [go_sem, seval]
          obtain rfl := Option.some.inj h
          exact atJ (wkn (Jy4) ⟨rfl, rfl, rfl, rfl, rfl, rfl, trivial⟩)
      · have h := ite_t hb7 h
        simp only [go_sem, seval]
        obtain rfl := Option.some.inj h
        exact atJ (wkn (Jy4) ⟨rfl, rfl, rfl, rfl, rfl, rfl, trivial⟩)
    · have h := ite_t hb6 h
      simp only [go_sem, seval]
      obtain rfl := Option.some.inj h
      exact atJ (wkn (Jy4) ⟨rfl, rfl, rfl, rfl, rfl, rfl, trivial⟩)
theorem w_method_Check {m : method_Method} {vars : Int} {classes : Int}   {r : (Option Int)} (h : method_Check m vars classes = some r) : ACall Tryz.prog 9 [enc_method_Method m, .int .i64 vars, .int .i64 classes] [] (encE 66 r) [] := by
  refine acallX 10000 hf9 ok9 (by first | rfl | simp only [go_sem]) meek_encE ?_
  dsimp only [Tryz.f9, nums, Option.getD, List.append]
  unfold method_Check at h
  refine bsome h fun v1 hv1 h => ?_
  simp only [go_sem, seval]
  refine callX_ 10000 (w_method_Arity  hv1) (by first | rfl | simp only [go_sem]) (by first | rfl | simp only [go_sem]) ?_
  simp only [go_sem, seval]
  refine bsome h fun y2 hy2 h => ?_
  refine rgJ 65 10000 (.inl rfl) (fun w => w [(1, .int .i64 vars), (2, .int .i64 classes), (3, .ptr 0 0), (49, .bool y2)] [some [.str m.Sel, .sl none (List.map enc_method_Lit m.Lits), .sl none (List.map enc_method_Part m.Parts)]]) (runX 10000 ?_) (fun Jy2 => ?_)
  · clear hy2
    simp only [go_sem, seval]
    refine cnd_s 10000 h (fun hb h => ?_) (fun hb h => ?_)
    · simp only [go_sem, seval]
      refine ret_s (fun x => encE 66 x) h ?_
      first | rfl | simp only [go_sem, resAV, resAll, resOne, seval]
    · simp only [go_sem, seval]
      refine letK_s h fun K14 hK14 h => ?_
      refine blkJ 65 10000 (fun w => K14 () = some r → w [] [some [.str m.Sel, .sl none (List.map enc_method_Lit m.Lits), .sl none (List.map enc_method_Part m.Parts)]]) (fun  h => runX 10000 ?_) (fun JK14 => ?_)
      · subst hK14
        dsimp only at h
        simp only [go_sem, seval]
        refine ret_s (fun x => encE 66 x) h ?_
        first | rfl | simp only [go_sem, resAV, resAll, resOne, seval]
      · clear hK14
        simp only [go_sem, seval]
        refine lpJ 65 fuel (fun q1 w => ∀ (v15 : Int), method_Check_l1 m vars classes K14 q1 v15 = some r → w [(1, .int .i64 vars), (2, .int .i64 classes), (3, .ptr 0 0), (53, .int .i64 (m.Parts.length : Int)), (54, .int .i64 v15)] [some [.str m.Sel, .sl none (List.map enc_method_Lit m.Lits), .sl none (List.map enc_method_Part m.Parts)]]) (fun w _ h => nomatch h) (fun q1 ih1 v15 h => ?_) (fun L1 => ?_)
        · unfold method_Check_l1 at h
          refine runL 10000 ?_
          simp only [go_sem, seval]
          refine cnd_s 10000 h (fun hb h => ?_) (fun hb h => ?_)
          · simp only [go_sem, seval]
            refine blk_ 10000 ?_
            refine bsome h fun v16 hv16 h => ?_
            simp only [go_sem, seval]
            refine callX_ 10000 (w_method_Method_part  hv16) (by first | rfl | simp only [go_sem]) (by first | rfl | simp only [go_sem]) ?_
            simp only [go_sem, seval]
            refine cnd_s 10000 h (fun hb h => ?_) (fun hb h => ?_)
            · simp only [go_sem, seval]
              refine ret_s (fun x => encE 66 x) h ?_
              first | rfl | simp only [go_sem, resAV, resAll, resOne, seval]
            · refine add_s h fun v18 _ e17 h => ?_
              simp only [go_sem, seval, e17]
              exact lp_back (ih1 v18 h) ⟨rfl, rfl, rfl, rfl, rfl, trivial⟩
          · simp only [go_sem, seval]
            exact atJ (wkn (JK14  h) trivial)
        · exact lp_back (L1 0 h) ⟨rfl, rfl, rfl, rfl, rfl, trivial⟩
  · clear h
    have h := hy2
    simp only [go_sem, seval]
    refine grd_ (fun hb4 => ?_) (fun hb4 => ?_)
    · have h := ite_f hb4 h
      simp only [go_sem, seval]
      refine grd_ (fun hb5 => ?_) (fun hb5 => ?_)
      · have h := ite_f hb5 h
        refine bsome h fun v6 hv6 h => ?_
        simp only [go_sem, seval]
        refine callX_ 10000 (w_slices_ContainsFunc_Lmethod_Lit_method_Lit 22 (fun _ _ h => w_method_Check_1 h) hv6) (by first | rfl | simp only [go_sem]) (by first | rfl | simp only [go_sem]) ?_
        simp only [go_sem, seval]
        refine grd_ (fun hb7 => ?_) (fun hb7 => ?_)
        · have h := ite_f hb7 h
          simp only [go_sem, seval]
          refine grd_ (fun hb8 => ?_) (fun hb8 => ?_)
          · have h := ite_f hb8 h
            simp only [go_sem, seval]
            refine grd_ (fun hb9 => ?_) (fun hb9 => ?_)
            · have h := ite_f hb9 h
              refine lAt_s enc_method_Part none .i64 ⟨63, 4, true, 48⟩ (fun _ => rfl) h fun v12 _ b10 e11 h => ?_
              simp only [go_sem, seval, b10, e11]
              obtain rfl := Option.some.inj h
              exact atJ (wkn (Jy2) ⟨rfl, rfl, rfl, rfl, trivial⟩)
            · have h := ite_t hb9 h
              simp only [go_sem, seval]
              obtain rfl := Option.some.inj h
              exact atJ (wkn (Jy2) ⟨rfl, rfl, rfl, rfl, trivial⟩)
          · have h := ite_t hb8 h
            simp only [go_sem, seval]
            obtain rfl := Option.some.inj h
            exact atJ (wkn (Jy2) ⟨rfl, rfl, rfl, rfl, trivial⟩)
        · have h := ite_t hb7 h
          simp only [go_sem, seval]
          obtain rfl := Option.some.inj h
          exact atJ (wkn (Jy2) ⟨rfl, rfl, rfl, rfl, trivial⟩)
      · have h := ite_t hb5 h
        simp only [go_sem, seval]
        obtain rfl := Option.some.inj h
        exact atJ (wkn (Jy2) ⟨rfl, rfl, rfl, rfl, trivial⟩)
    · have h := ite_t hb4 h
      simp only [go_sem, seval]
      obtain rfl := Option.some.inj h
      exact atJ (wkn (Jy2) ⟨rfl, rfl, rfl, rfl, trivial⟩)
theorem w_method_Method_written {m : method_Method}   {r : Bool} (h : method_Method_written m = some r) : ACall Tryz.prog 25 [enc_method_Method m] [] (.bool r) [] := by
  refine acallX 10000 hf25 ok25 (by first | rfl | simp only [go_sem]) meek_bool ?_
  dsimp only [Tryz.f25, nums, Option.getD, List.append]
  unfold method_Method_written at h
  simp only [go_sem, seval]
  refine rgJ 82 10000 (.inl rfl) (fun w => w [(1, .ptr 0 0), (22, .bool (((decide ((1024 : Int) < (m.Sel.length : Int))) || (decide ((64 : Int) < (m.Lits.length : Int)))) || (decide ((64 : Int) < (m.Parts.length : Int)))))] [some [.str m.Sel, .sl none (List.map enc_method_Lit m.Lits), .sl none (List.map enc_method_Part m.Parts)]]) (runX 10000 ?_) (fun Jg1 => ?_)
  · simp only [go_sem, seval]
    refine cnd_s 10000 h (fun hb h => ?_) (fun hb h => ?_)
    · simp only [go_sem, seval]
      refine ret_s (fun x => .bool x) h ?_
      first | rfl | simp only [go_sem, resAV, resAll, resOne, seval]
    · simp only [go_sem, seval]
      refine letK_s h fun K3 hK3 h => ?_
      refine blkJ 82 10000 (fun w => K3 () = some r → w [(1, .ptr 0 0)] [some [.str m.Sel, .sl none (List.map enc_method_Lit m.Lits), .sl none (List.map enc_method_Part m.Parts)]]) (fun  h => runX 10000 ?_) (fun JK3 => ?_)
      · subst hK3
        dsimp only at h
        simp only [go_sem, seval]
        refine letK_s h fun K13 hK13 h => ?_
        refine blkJ 82 10000 (fun w => K13 () = some r → w [] [some [.str m.Sel, .sl none (List.map enc_method_Lit m.Lits), .sl none (List.map enc_method_Part m.Parts)]]) (fun  h => runX 10000 ?_) (fun JK13 => ?_)
        · subst hK13
          dsimp only at h
          simp only [go_sem, seval]
          refine ret_s (fun x => .bool x) h ?_
          first | rfl | simp only [go_sem, resAV, resAll, resOne, seval]
        · clear hK13
          simp only [go_sem, seval]
          refine lpJ 82 fuel (fun q2 w => ∀ (v14 : Int), method_Method_written_l2 m K13 q2 v14 = some r → w [(41, .sl none (List.map enc_method_Part m.Parts)), (42, .int .i64 (m.Parts.length : Int)), (43, .int .i64 v14)] [some [.str m.Sel, .sl none (List.map enc_method_Lit m.Lits), .sl none (List.map enc_method_Part m.Parts)]]) (fun w _ h => nomatch h) (fun q2 ih2 v14 h => ?_) (fun L2 => ?_)
          · unfold method_Method_written_l2 at h
            refine runL 10000 ?_
            simp only [go_sem, seval]
            refine cnd_s 10000 h (fun hb h => ?_) (fun hb h => ?_)
            · simp only [go_sem, seval]
              refine blk_ 10000 ?_
              refine lAt_s enc_method_Part none .i64 ⟨63, 4, true, 48⟩ (fun _ => rfl) h fun v17 _ b15 e16 h => ?_
              simp only [go_sem, seval, b15, e16]
              refine rgJ 82 10000 (.inl rfl) (fun w => w [(41, .sl none (List.map enc_method_Part m.Parts)), (42, .int .i64 (m.Parts.length : Int)), (43, .int .i64 v14), (80, .bool (((((((decide (v17.Outer < (-1))) || (decide ((64 : Int) ≤ v17.Outer))) || (decide (v17.Args < 0))) || (decide ((16 : Int) < v17.Args))) || (decide (v17.Temps < 0))) || (decide ((16 : Int) < v17.Temps))) || (decide ((512 : Int) < (v17.Code.length : Int)))))] [some [.str m.Sel, .sl none (List.map enc_method_Lit m.Lits), .sl none (List.map enc_method_Part m.Parts)], some [.int .i64 v17.Outer, .int .i64 v17.Args, .int .i64 v17.Temps, .sl none (List.map (AV.int .u8) v17.Code)]]) (runX 10000 ?_) (fun Jg18 => ?_)
              · simp only [go_sem, seval]
                refine cnd_s 10000 h (fun hb h => ?_) (fun hb h => ?_)
                · simp only [go_sem, seval]
                  refine ret_s (fun x => .bool x) h ?_
                  first | rfl | simp only [go_sem, resAV, resAll, resOne, seval]
                · refine add_s h fun v20 _ e19 h => ?_
                  simp only [go_sem, seval, e19]
                  exact lp_backH 1 (ih2 v20 h) ⟨rfl, rfl, rfl, trivial⟩ rfl rfl rfl (by first | rfl | simp only [go_sem, ltF]) (by first | rfl | simp only [go_sem, allLt])
              · simp only [go_sem, seval]
                refine grd_ (fun hb21 => ?_) (fun hb21 => ?_)
                · simp only [go_sem, seval]
                  refine grd_ (fun hb22 => ?_) (fun hb22 => ?_)
                  · simp only [go_sem, seval]
                    refine grd_ (fun hb23 => ?_) (fun hb23 => ?_)
                    · simp only [go_sem, seval]
                      refine grd_ (fun hb24 => ?_) (fun hb24 => ?_)
                      · simp only [go_sem, seval]
                        refine grd_ (fun hb25 => ?_) (fun hb25 => ?_)
                        · simp only [go_sem, seval]
                          refine grd_ (fun hb26 => ?_) (fun hb26 => ?_)
                          · simp only [go_sem, seval]
                            exact atJ (wkn Jg18 ⟨rfl, rfl, rfl, congrArg AV.bool (by first | rfl | (rw [hb21, hb22, hb23, hb24, hb25, hb26]; rfl) | (simp [hb21, hb22, hb23, hb24, hb25, hb26]; done) | simp_all), trivial⟩)
                          · simp only [go_sem, seval]
                            exact atJ (wkn Jg18 ⟨rfl, rfl, rfl, congrArg AV.bool (by first | rfl | (rw [hb21, hb22, hb23, hb24, hb25, hb26]; rfl) | (simp [hb21, hb22, hb23, hb24, hb25, hb26]; done) | simp_all), trivial⟩)
                        · simp only [go_sem, seval]
                          exact atJ (wkn Jg18 ⟨rfl, rfl, rfl, congrArg AV.bool (by first | rfl | (rw [hb21, hb22, hb23, hb24, hb25]; rfl) | (simp [hb21, hb22, hb23, hb24, hb25]; done) | simp_all), trivial⟩)
                      · simp only [go_sem, seval]
                        exact atJ (wkn Jg18 ⟨rfl, rfl, rfl, congrArg AV.bool (by first | rfl | (rw [hb21, hb22, hb23, hb24]; rfl) | (simp [hb21, hb22, hb23, hb24]; done) | simp_all), trivial⟩)
                    · simp only [go_sem, seval]
                      exact atJ (wkn Jg18 ⟨rfl, rfl, rfl, congrArg AV.bool (by first | rfl | (rw [hb21, hb22, hb23]; rfl) | (simp [hb21, hb22, hb23]; done) | simp_all), trivial⟩)
                  · simp only [go_sem, seval]
                    exact atJ (wkn Jg18 ⟨rfl, rfl, rfl, congrArg AV.bool (by first | rfl | (rw [hb21, hb22]; rfl) | (simp [hb21, hb22]; done) | simp_all), trivial⟩)
                · simp only [go_sem, seval]
                  exact atJ (wkn Jg18 ⟨rfl, rfl, rfl, congrArg AV.bool (by first | rfl | (rw [hb21]; rfl) | (simp [hb21]; done) | simp_all), trivial⟩)
            · simp only [go_sem, seval]
              exact atJ (wkn (JK13  h) trivial)
          · exact lp_back (L2 0 h) ⟨rfl, rfl, rfl, trivial⟩
      · clear hK3
        simp only [go_sem, seval]
        refine lpJ 82 fuel (fun q1 w => ∀ (v4 : Int), method_Method_written_l1 m K3 q1 v4 = some r → w [(1, .ptr 0 0), (24, .sl none (List.map enc_method_Lit m.Lits)), (25, .int .i64 (m.Lits.length : Int)), (26, .int .i64 v4)] [some [.str m.Sel, .sl none (List.map enc_method_Lit m.Lits), .sl none (List.map enc_method_Part m.Parts)]]) (fun w _ h => nomatch h) (fun q1 ih1 v4 h => ?_) (fun L1 => ?_)
        · unfold method_Method_written_l1 at h
          refine runL 10000 ?_
          simp only [go_sem, seval]
          refine cnd_s 10000 h (fun hb h => ?_) (fun hb h => ?_)
          · simp only [go_sem, seval]
            refine blk_ 10000 ?_
            refine lAt_s enc_method_Lit none .i64 ⟨62, 2, true, 24⟩ (fun _ => rfl) h fun v7 _ b5 e6 h => ?_
            simp only [go_sem, seval, b5, e6]
            refine rgJ 82 10000 (.inl rfl) (fun w => w [(1, .ptr 0 0), (24, .sl none (List.map enc_method_Lit m.Lits)), (25, .int .i64 (m.Lits.length : Int)), (26, .int .i64 v4), (38, .bool ((decide ((2 : Int) < v7.K)) || (decide ((1024 : Int) < (v7.S.length : Int)))))] [some [.str m.Sel, .sl none (List.map enc_method_Lit m.Lits), .sl none (List.map enc_method_Part m.Parts)], some [.int .u8 v7.K, .str v7.S]]) (runX 10000 ?_) (fun Jg8 => ?_)
            · simp only [go_sem, seval]
              refine cnd_s 10000 h (fun hb h => ?_) (fun hb h => ?_)
              · simp only [go_sem, seval]
                refine ret_s (fun x => .bool x) h ?_
                first | rfl | simp only [go_sem, resAV, resAll, resOne, seval]
              · refine add_s h fun v10 _ e9 h => ?_
                simp only [go_sem, seval, e9]
                exact lp_backH 1 (ih1 v10 h) ⟨rfl, rfl, rfl, rfl, trivial⟩ rfl rfl rfl (by first | rfl | simp only [go_sem, ltF]) (by first | rfl | simp only [go_sem, allLt])
            · simp only [go_sem, seval]
              refine grd_ (fun hb11 => ?_) (fun hb11 => ?_)
              · simp only [go_sem, seval]
                exact atJ (wkn Jg8 ⟨rfl, rfl, rfl, rfl, congrArg AV.bool (by first | rfl | (rw [hb11]; rfl) | (simp [hb11]; done) | simp_all), trivial⟩)
              · simp only [go_sem, seval]
                exact atJ (wkn Jg8 ⟨rfl, rfl, rfl, rfl, congrArg AV.bool (by first | rfl | (rw [hb11]; rfl) | (simp [hb11]; done) | simp_all), trivial⟩)
          · simp only [go_sem, seval]
            exact atJ (wkn (JK3  h) ⟨rfl, trivial⟩)
        · exact lp_back (L1 0 h) ⟨rfl, rfl, rfl, rfl, trivial⟩
  · simp only [go_sem, seval]
    refine grd_ (fun hb27 => ?_) (fun hb27 => ?_)
    · simp only [go_sem, seval]
      refine grd_ (fun hb28 => ?_) (fun hb28 => ?_)
      · simp only [go_sem, seval]
        exact atJ (wkn Jg1 ⟨rfl, congrArg AV.bool (by first | rfl | (rw [hb27, hb28]; rfl) | (simp [hb27, hb28]; done) | simp_all), trivial⟩)
      · simp only [go_sem, seval]
        exact atJ (wkn Jg1 ⟨rfl, congrArg AV.bool (by first | rfl | (rw [hb27, hb28]; rfl) | (simp [hb27, hb28]; done) | simp_all), trivial⟩)
    · simp only [go_sem, seval]
      exact atJ (wkn Jg1 ⟨rfl, congrArg AV.bool (by first | rfl | (rw [hb27]; rfl) | (simp [hb27]; done) | simp_all), trivial⟩)
theorem w_varint_Put {p0_b : (List Int)} {n : Int}   {r : (List Int)} (h : varint_Put p0_b n = some r) : ACall Tryz.prog 58 [.sl none (List.map (AV.int .u8) p0_b), .int .i64 n] [] (.sl none (List.map (AV.int .u8) r)) [] := by
  refine acallX 10000 hf58 ok58 (by first | rfl | simp only [go_sem]) meek_sl ?_
  dsimp only [Tryz.f58, nums, Option.getD, List.append]
  unfold varint_Put at h
  refine bsome h fun v1 hv1 h => ?_
  simp only [go_sem, seval]
  refine callO_ 10000 (w_slices_Clone_byte hv1) (by first | rfl | simp only [go_sem]) (by first | rfl | simp only [go_sem]) ?_
  simp only [go_sem, seval]
  refine blk_ 10000 ?_
  simp only [go_sem, seval]
  refine lpJ 39 fuel (fun q1 w => ∀ (v2 : Int) (v3 : (List Int)), varint_Put_l1  q1 v2 v3 = some r → w [(1, .int .i64 v2), (5, .sl (some (some (5, 1))) (List.map (AV.int .u8) v3))] []) (fun w _ _ h => nomatch h) (fun q1 ih1 v2 v3 h => ?_) (fun L1 => ?_)
  · unfold varint_Put_l1 at h
    refine runL 10000 ?_
    simp only [go_sem, seval]
    refine blk_ 10000 ?_
    refine shr_s h fun v6 _ b5 e4 h => ?_
    simp only [go_sem, seval, (show intv .and .i64 v2 127 = .int .i64 (bitv .and .i64 v2 127) from rfl), (cvw_e (s := 3) (k := .i64) io5 (bitv .and .i64 v2 127)), e4, Int.reduceLE]
    refine rgJ 39 10000 (.inl rfl) (fun w => w [(1, .int .i64 v6), (5, .sl (some (some (5, 1))) (List.map (AV.int .u8) v3)), (6, .int .u8 (IntKind.wrap .u8 (bitv .and .i64 v2 127))), (29, .bool (((decide (v6 = 0)) && (decide ((bitv .and .u8 (IntKind.wrap .u8 (bitv .and .i64 v2 127)) 64) = 0))) || ((decide (v6 = (-1))) && (!decide ((bitv .and .u8 (IntKind.wrap .u8 (bitv .and .i64 v2 127)) 64) = 0)))))] []) (runX 10000 ?_) (fun Jg7 => ?_)
    · simp only [go_sem, seval]
      refine cnd_s 10000 h (fun hb h => ?_) (fun hb h => ?_)
      · refine appE_s (E := (5, 1)) (AV.int .u8) (some none) ⟨5, 1, false, 1⟩ (fun _ => rfl) (by decide) ⟨rfl, by first | exact .inl rfl | exact .inr rfl⟩ rfl h fun v10 _ (b8 : appc ⟨5, 1, false, 1⟩ (.sl (some (some (5, 1))) (List.map (AV.int .u8) v3)) (.sl (some none) [.int .u8 (IntKind.wrap .u8 (bitv .and .i64 v2 127))])) (e9 : appv (.sl (some (some (5, 1))) (List.map (AV.int .u8) v3)) (.sl (some none) [.int .u8 (IntKind.wrap .u8 (bitv .and .i64 v2 127))]) = .sl (some (some (5, 1))) (List.map (AV.int .u8) v10)) h => ?_
        simp only [go_sem, seval, b8, e9]
        refine ret_s (fun x => .sl none (List.map (AV.int .u8) x)) h ?_
        first | rfl | simp only [go_sem, resAV, resAll, resOne, seval]
      · refine appE_s (E := (5, 1)) (AV.int .u8) (some none) ⟨5, 1, false, 1⟩ (fun _ => rfl) (by decide) ⟨rfl, by first | exact .inl rfl | exact .inr rfl⟩ rfl h fun v13 _ (b11 : appc ⟨5, 1, false, 1⟩ (.sl (some (some (5, 1))) (List.map (AV.int .u8) v3)) (.sl (some none) [.int .u8 (bitv .or .u8 (IntKind.wrap .u8 (bitv .and .i64 v2 127)) 128)])) (e12 : appv (.sl (some (some (5, 1))) (List.map (AV.int .u8) v3)) (.sl (some none) [.int .u8 (bitv .or .u8 (IntKind.wrap .u8 (bitv .and .i64 v2 127)) 128)]) = .sl (some (some (5, 1))) (List.map (AV.int .u8) v13)) h => ?_
        simp only [go_sem, seval, (show intv .or .u8 (IntKind.wrap .u8 (bitv .and .i64 v2 127)) 128 = .int .u8 (bitv .or .u8 (IntKind.wrap .u8 (bitv .and .i64 v2 127)) 128) from rfl), b11, e12]
        exact lp_back (ih1 v6 v13 h) ⟨rfl, rfl, trivial⟩
    · simp only [go_sem, seval]
      refine grd_ (fun hb14 => ?_) (fun hb14 => ?_)
      · simp only [go_sem, seval, (show intv .and .u8 (IntKind.wrap .u8 (bitv .and .i64 v2 127)) 64 = .int .u8 (bitv .and .u8 (IntKind.wrap .u8 (bitv .and .i64 v2 127)) 64) from rfl)]
        refine grd_ (fun hb15 => ?_) (fun hb15 => ?_)
        · simp only [go_sem, seval]
          refine grd_ (fun hb16 => ?_) (fun hb16 => ?_)
          · simp only [go_sem, seval, (show intv .and .u8 (IntKind.wrap .u8 (bitv .and .i64 v2 127)) 64 = .int .u8 (bitv .and .u8 (IntKind.wrap .u8 (bitv .and .i64 v2 127)) 64) from rfl)]
            exact atJ (wkn Jg7 ⟨rfl, rfl, rfl, congrArg AV.bool (by first | rfl | (rw [hb14, hb15, hb16]; rfl) | (simp [hb14, hb15, hb16]; done) | simp_all), trivial⟩)
          · simp only [go_sem, seval]
            exact atJ (wkn Jg7 ⟨rfl, rfl, rfl, congrArg AV.bool (by first | rfl | (rw [hb14, hb15, hb16]; rfl) | (simp [hb14, hb15, hb16]; done) | simp_all), trivial⟩)
        · simp only [go_sem, seval]
          exact atJ (wkn Jg7 ⟨rfl, rfl, rfl, congrArg AV.bool (by first | rfl | (rw [hb14, hb15]; rfl) | (simp [hb14, hb15]; done) | simp_all), trivial⟩)
      · simp only [go_sem, seval]
        refine grd_ (fun hb17 => ?_) (fun hb17 => ?_)
        · simp only [go_sem, seval, (show intv .and .u8 (IntKind.wrap .u8 (bitv .and .i64 v2 127)) 64 = .int .u8 (bitv .and .u8 (IntKind.wrap .u8 (bitv .and .i64 v2 127)) 64) from rfl)]
          exact atJ (wkn Jg7 ⟨rfl, rfl, rfl, congrArg AV.bool (by first | rfl | (rw [hb14, hb17]; rfl) | (simp [hb14, hb17]; done) | simp_all), trivial⟩)
        · simp only [go_sem, seval]
          exact atJ (wkn Jg7 ⟨rfl, rfl, rfl, congrArg AV.bool (by first | rfl | (rw [hb14, hb17]; rfl) | (simp [hb14, hb17]; done) | simp_all), trivial⟩)
  · exact lp_back (L1 n v1 h) ⟨rfl, rfl, trivial⟩
theorem w_pack_Writer_Int {p0_w : pack_Writer} {l : (List Int)}   {r : pack_Writer} (h : pack_Writer_Int p0_w l = some r) : ACall Tryz.prog 27 [.ptr 0 0, .sl none (List.map (AV.int .i64) l)] [some [.sl (some none) (List.map (AV.int .u8) p0_w.b)]] (.tup []) [some [.sl (some none) (List.map (AV.int .u8) r.b)]] := by
  refine acallHX 10000 hf27 ok27 (by first | rfl | simp only [go_sem]) meek_tup rfl (by first | rfl | simp only [go_sem, allLt]) ?_
  dsimp only [Tryz.f27, nums, Option.getD, List.append]
  unfold pack_Writer_Int at h
  simp only [go_sem, seval]
  refine cnd_f 10000 ?_
  simp only [go_sem, seval]
  refine bsome h fun y1 hy1 h => ?_
  refine blkJ 25 10000 (fun w => w [] [some [.sl (some none) (List.map (AV.int .u8) y1)]]) (runX 10000 ?_) (fun Jy1 => ?_)
  · clear hy1
    simp only [go_sem, seval]
    refine atEndF (retH_s (fun x => .tup []) (fun x => [some [.sl (some none) (List.map (AV.int .u8) x.b)]]) h ?_ ?_)
    · first | rfl | simp only [go_sem, resAV, resAll, resOne, seval]
    · first | rfl | simp only [go_sem, resAV, resAll, resOne, seval]
  · clear h
    have h := hy1
    simp only [go_sem, seval]
    refine lpJ 25 fuel (fun q1 w => ∀ (v13 : Int) (v14 : (List Int)), pack_Writer_Int_l1 l q1 v13 v14 = some y1 → w [(0, .ptr 0 0), (8, .sl none (List.map (AV.int .i64) l)), (9, .int .i64 (l.length : Int)), (10, .int .i64 v13)] [some [.sl (some none) (List.map (AV.int .u8) v14)]]) (fun w _ _ h => nomatch h) (fun q1 ih1 v13 v14 h => ?_) (fun L1 => ?_)
    · unfold pack_Writer_Int_l1 at h
      refine runL 10000 ?_
      simp only [go_sem, seval]
      refine cnd_s 10000 h (fun hb h => ?_) (fun hb h => ?_)
      · simp only [go_sem, seval]
        refine blk_ 10000 ?_
        refine lAt_s (AV.int .i64) none .i64 ⟨3, 1, false, 8⟩ (fun _ => rfl) h fun v17 _ b15 e16 h => ?_
        simp only [go_sem, seval, b15, e16]
        refine rg_ 10000 (.inr ⟨[(0, 0), (14, 0), (15, 0), (16, 0), (17, 0), (22, 0), (23, 0)], by kernel_rfl, by kernel_rfl, by rfl⟩) ?_
        refine bsome h fun v18 hv18 h => ?_
        simp only [go_sem, seval]
        refine callX_ 10000 (w_varint_Put  hv18) (by first | rfl | simp only [go_sem]) (by first | rfl | simp only [go_sem]) ?_
        refine app_s (AV.int .u8) none ⟨5, 1, false, 1⟩ (fun _ => rfl) (by decide) rfl h fun v21 _ b19 e20 h => ?_
        refine add_s h fun v23 _ e22 h => ?_
        simp only [go_sem, seval, b19, e20, e22]
        exact lp_back (ih1 v23 v21 h) ⟨rfl, rfl, rfl, rfl, trivial⟩
      · simp only [go_sem, seval]
        obtain rfl := Option.some.inj h
        exact atJ (wkn (Jy1) trivial)
    · exact lp_back (L1 0 p0_w.b h) ⟨rfl, rfl, rfl, rfl, trivial⟩
theorem w_pack_Writer_Text {p0_w : pack_Writer} {s : Str}   {r : pack_Writer} (h : pack_Writer_Text p0_w s = some r) : ACall Tryz.prog 26 [.ptr 0 0, .str s] [some [.sl (some none) (List.map (AV.int .u8) p0_w.b)]] (.tup []) [some [.sl (some none) (List.map (AV.int .u8) r.b)]] := by
  refine acallHX 10000 hf26 ok26 (by first | rfl | simp only [go_sem]) meek_tup rfl (by first | rfl | simp only [go_sem, allLt]) ?_
  dsimp only [Tryz.f26, nums, Option.getD, List.append]
  unfold pack_Writer_Text at h
  refine bsome h fun v1 hv1 h => ?_
  simp only [go_sem, seval]
  refine callH_ 10000 [0] (w_pack_Writer_Int  hv1) (by first | rfl | simp only [go_sem]) (by first | rfl | simp only [go_sem]) (by first | rfl | simp only [go_sem]) ?_
  simp only [go_sem, seval]
  refine cnd_t 10000 ?_
  refine appS_s ⟨5, 1, false, 1⟩ rfl rfl h fun v4 _ b2 e3 h => ?_
  simp only [go_sem, seval, b2, e3]
  refine atEndF (retH_s (fun x => .tup []) (fun x => [some [.sl (some none) (List.map (AV.int .u8) x.b)]]) h ?_ ?_)
  · first | rfl | simp only [go_sem, resAV, resAll, resOne, seval]
  · first | rfl | simp only [go_sem, resAV, resAll, resOne, seval]
theorem w_pack_Writer_All {p0_w : pack_Writer}   {r : ((List Int) × pack_Writer)} (h : pack_Writer_All p0_w = some r) : ACall Tryz.prog 28 [.ptr 0 0] [some [.sl (some none) (List.map (AV.int .u8) p0_w.b)]] (.sl none (List.map (AV.int .u8) r.1)) [some [.sl (some none) (List.map (AV.int .u8) r.2.b)]] := by
  refine acallHX 10000 hf28 ok28 (by first | rfl | simp only [go_sem]) meek_sl rfl (by first | rfl | simp only [go_sem, allLt]) ?_
  dsimp only [Tryz.f28, nums, Option.getD, List.append]
  unfold pack_Writer_All at h
  simp only [go_sem, seval]
  refine cnd_f 10000 ?_
  refine bsome h fun v1 hv1 h => ?_
  simp only [go_sem, seval]
  refine callO_ 10000 (w_slices_Clone_byte hv1) (by first | rfl | simp only [go_sem]) (by first | rfl | simp only [go_sem]) ?_
  simp only [go_sem, seval]
  refine retH_s (fun x => .sl none (List.map (AV.int .u8) x.1)) (fun x => [some [.sl (some none) (List.map (AV.int .u8) x.2.b)]]) h ?_ ?_
  · first | rfl | simp only [go_sem, resAV, resAll, resOne, seval]
  · first | rfl | simp only [go_sem, resAV, resAll, resOne, seval]
theorem w_method_Encode {m : method_Method}   {r : ((List Int) × (Option Int))} (h : method_Encode m = some r) : ACall Tryz.prog 11 [enc_method_Method m] [] (.tup [.sl none (List.map (AV.int .u8) r.1), encE 66 r.2]) [] := by
  refine acallX 10000 hf11 ok11 (by first | rfl | simp only [go_sem]) meek_tup ?_
  dsimp only [Tryz.f11, nums, Option.getD, List.append]
  unfold method_Encode at h
  refine bsome h fun v1 hv1 h => ?_
  simp only [go_sem, seval]
  refine callX_ 10000 (w_method_Method_written  hv1) (by first | rfl | simp only [go_sem]) (by first | rfl | simp only [go_sem]) ?_
  simp only [go_sem, seval]
  refine cnd_s 10000 h (fun hb h => ?_) (fun hb h => ?_)
  · simp only [go_sem, seval]
    refine ret_s (fun x => .tup [.sl none (List.map (AV.int .u8) x.1), encE 66 x.2]) h ?_
    first | rfl | simp only [go_sem, resAV, resAll, resOne, seval]
  · refine bsome h fun v2 hv2 h => ?_
    simp only [go_sem, seval]
    refine callH_ 10000 [1] (w_pack_Writer_Text  hv2) (by first | rfl | simp only [go_sem]) (by first | rfl | simp only [go_sem]) (by first | rfl | simp only [go_sem]) ?_
    refine bsome h fun v3 hv3 h => ?_
    simp only [go_sem, seval]
    refine callH_ 10000 [1] (w_pack_Writer_Int  hv3) (by first | rfl | simp only [go_sem]) (by first | rfl | simp only [go_sem]) (by first | rfl | simp only [go_sem]) ?_
    simp only [go_sem, seval]
    refine bsome h fun y4 hy4 h => ?_
    refine blkJ 73 10000 (fun w => w [(1, .ptr 0 0), (4, .ptr 1 0)] [some [.str m.Sel, .sl none (List.map enc_method_Lit m.Lits), .sl none (List.map enc_method_Part m.Parts)], some [.sl (some none) (List.map (AV.int .u8) y4)]]) (runX 10000 ?_) (fun Jy4 => ?_)
    · clear hy4
      refine bsome h fun v27 hv27 h => ?_
      simp only [go_sem, seval]
      refine callH_ 10000 [1] (w_pack_Writer_Int  hv27) (by first | rfl | simp only [go_sem]) (by first | rfl | simp only [go_sem]) (by first | rfl | simp only [go_sem]) ?_
      simp only [go_sem, seval]
      refine bsome h fun y28 hy28 h => ?_
      refine blkJ 73 10000 (fun w => w [(4, .ptr 1 0)] [some [.str m.Sel, .sl none (List.map enc_method_Lit m.Lits), .sl none (List.map enc_method_Part m.Parts)], some [.sl (some none) (List.map (AV.int .u8) y28)]]) (runX 10000 ?_) (fun Jy28 => ?_)
      · clear hy28
        refine bsome h fun v47 hv47 h => ?_
        simp only [go_sem, seval]
        refine callH_ 10000 [1] (w_pack_Writer_All  hv47) (by first | rfl | simp only [go_sem]) (by first | rfl | simp only [go_sem]) (by first | rfl | simp only [go_sem]) ?_
        simp only [go_sem, seval]
        refine ret_s (fun x => .tup [.sl none (List.map (AV.int .u8) x.1), encE 66 x.2]) h ?_
        first | rfl | simp only [go_sem, resAV, resAll, resOne, seval]
      · clear h
        have h := hy28
        simp only [go_sem, seval]
        refine lpJ 73 fuel (fun q2 w => ∀ (v38 : Int) (v39 : (List Int)), method_Encode_l2 m q2 v38 v39 = some y28 → w [(4, .ptr 1 0), (50, .sl none (List.map enc_method_Part m.Parts)), (51, .int .i64 (m.Parts.length : Int)), (52, .int .i64 v38)] [some [.str m.Sel, .sl none (List.map enc_method_Lit m.Lits), .sl none (List.map enc_method_Part m.Parts)], some [.sl (some none) (List.map (AV.int .u8) v39)]]) (fun w _ _ h => nomatch h) (fun q2 ih2 v38 v39 h => ?_) (fun L2 => ?_)
        · unfold method_Encode_l2 at h
          refine runL 10000 ?_
          simp only [go_sem, seval]
          refine cnd_s 10000 h (fun hb h => ?_) (fun hb h => ?_)
          · simp only [go_sem, seval]
            refine blk_ 10000 ?_
            refine lAt_s enc_method_Part none .i64 ⟨63, 4, true, 48⟩ (fun _ => rfl) h fun v42 _ b40 e41 h => ?_
            refine bsome h fun v43 hv43 h => ?_
            simp only [go_sem, seval, b40, e41]
            refine callH_ 10000 [1] (w_pack_Writer_Int  hv43) (by first | rfl | simp only [go_sem]) (by first | rfl | simp only [go_sem]) (by first | rfl | simp only [go_sem]) ?_
            refine bsome h fun v44 hv44 h => ?_
            simp only [go_sem, seval, (text_e (P := Tryz.prog) (s := 26) (d := 9) (by rw [kd9]; rfl) none v42.Code), (isBytes_e v42.Code)]
            refine callH_ 10000 [1] (w_pack_Writer_Text  hv44) (by first | rfl | simp only [go_sem]) (by first | rfl | simp only [go_sem]) (by first | rfl | simp only [go_sem]) ?_
            refine add_s h fun v46 _ e45 h => ?_
            simp only [go_sem, seval, e45]
            exact lp_backH 2 (ih2 v46 v44.b h) ⟨rfl, rfl, rfl, rfl, trivial⟩ rfl rfl rfl (by first | rfl | simp only [go_sem, ltF]) (by first | rfl | simp only [go_sem, allLt])
          · simp only [go_sem, seval]
            obtain rfl := Option.some.inj h
            exact atJ (wkn (Jy28) ⟨rfl, trivial⟩)
        · exact lp_back (L2 0 v27.b h) ⟨rfl, rfl, rfl, rfl, trivial⟩
    · clear h
      have h := hy4
      simp only [go_sem, seval]
      refine lpJ 73 fuel (fun q1 w => ∀ (v16 : Int) (v17 : (List Int)), method_Encode_l1 m q1 v16 v17 = some y4 → w [(1, .ptr 0 0), (4, .ptr 1 0), (26, .sl none (List.map enc_method_Lit m.Lits)), (27, .int .i64 (m.Lits.length : Int)), (28, .int .i64 v16)] [some [.str m.Sel, .sl none (List.map enc_method_Lit m.Lits), .sl none (List.map enc_method_Part m.Parts)], some [.sl (some none) (List.map (AV.int .u8) v17)]]) (fun w _ _ h => nomatch h) (fun q1 ih1 v16 v17 h => ?_) (fun L1 => ?_)
      · unfold method_Encode_l1 at h
        refine runL 10000 ?_
        simp only [go_sem, seval]
        refine cnd_s 10000 h (fun hb h => ?_) (fun hb h => ?_)
        · simp only [go_sem, seval]
          refine blk_ 10000 ?_
          refine lAt_s enc_method_Lit none .i64 ⟨62, 2, true, 24⟩ (fun _ => rfl) h fun v20 _ b18 e19 h => ?_
          refine cvt_s (s := 5) (k := .u8) io3 h fun v22 _ e21 h => ?_
          refine bsome h fun v23 hv23 h => ?_
          simp only [go_sem, seval, b18, e19, e21]
          refine callH_ 10000 [1] (w_pack_Writer_Int  hv23) (by first | rfl | simp only [go_sem]) (by first | rfl | simp only [go_sem]) (by first | rfl | simp only [go_sem]) ?_
          refine bsome h fun v24 hv24 h => ?_
          simp only [go_sem, seval]
          refine callH_ 10000 [1] (w_pack_Writer_Text  hv24) (by first | rfl | simp only [go_sem]) (by first | rfl | simp only [go_sem]) (by first | rfl | simp only [go_sem]) ?_
          refine add_s h fun v26 _ e25 h => ?_
          simp only [go_sem, seval, e25]
          exact lp_backH 2 (ih1 v26 v24.b h) ⟨rfl, rfl, rfl, rfl, rfl, trivial⟩ rfl rfl rfl (by first | rfl | simp only [go_sem, ltF]) (by first | rfl | simp only [go_sem, allLt])
        · simp only [go_sem, seval]
          obtain rfl := Option.some.inj h
          exact atJ (wkn (Jy4) ⟨rfl, rfl, trivial⟩)
      · exact lp_back (L1 0 v3.b h) ⟨rfl, rfl, rfl, rfl, rfl, trivial⟩
theorem w_pack_Read {p0_b : (List Int)}   {r : pack_Reader} (h : pack_Read p0_b = some r) : ACallB Tryz.prog 30 [.sl none (List.map (AV.int .u8) p0_b)] (.ptr 0 0) [.sl none (List.map (AV.int .u8) r.b), .bool r.wrong] := by
  refine acallXB 10000 hf30 ok30 rfl (by first | rfl | simp only [go_sem]) (by intro oe l; simp) ?_
  dsimp only [Tryz.f30, nums, Option.getD, List.append]
  unfold pack_Read at h
  refine bsome h fun v1 hv1 h => ?_
  simp only [go_sem, seval]
  refine callO_ 10000 (w_slices_Clone_byte hv1) (by first | rfl | simp only [go_sem]) (by first | rfl | simp only [go_sem]) ?_
  simp only [go_sem, seval]
  refine retH_s (fun _ => .ptr 0 0) (fun x => [some [.sl none (List.map (AV.int .u8) x.b), .bool x.wrong]]) h ?_ ?_
  · first | rfl | simp only [go_sem, resAV, resAll, resOne, seval]
  · first | rfl | simp only [go_sem, resAV, resAll, resOne, seval]
theorem w_pack_Reader_ok {p0_r : pack_Reader}   {r : (Bool × pack_Reader)} (h : pack_Reader_ok p0_r = some r) : ACall Tryz.prog 62 [.ptr 0 0] [some [.sl none (List.map (AV.int .u8) p0_r.b), .bool p0_r.wrong]] (.bool r.1) [some [.sl none (List.map (AV.int .u8) r.2.b), .bool r.2.wrong]] := by
  refine acallHX 10000 hf62 ok62 (by first | rfl | simp only [go_sem]) meek_bool rfl (by first | rfl | simp only [go_sem, allLt]) ?_
  dsimp only [Tryz.f62, nums, Option.getD, List.append]
  unfold pack_Reader_ok at h
  simp only [go_sem, seval]
  refine rgJ 12 10000 (.inl rfl) (fun w => w [(2, .bool (!p0_r.wrong))] [some [.sl none (List.map (AV.int .u8) p0_r.b), .bool p0_r.wrong]]) (runX 10000 ?_) (fun Jg1 => ?_)
  · simp only [go_sem, seval]
    refine retH_s (fun x => .bool x.1) (fun x => [some [.sl none (List.map (AV.int .u8) x.2.b), .bool x.2.wrong]]) h ?_ ?_
    · first | rfl | simp only [go_sem, resAV, resAll, resOne, seval]
    · first | rfl | simp only [go_sem, resAV, resAll, resOne, seval]
  · simp only [go_sem, seval]
    exact atJ (wkn Jg1 ⟨rfl, trivial⟩)
theorem w_slices_Equal_Lbyte_byte {s1 : (List Int)} {s2 : (List Int)}   {r : Bool} (h : slices_Equal_Lbyte_byte s1 s2 = some r) : ACall Tryz.prog 79 [.sl none (List.map (AV.int .u8) s1), .sl none (List.map (AV.int .u8) s2)] [] (.bool r) [] := by
  refine acallX 10000 hf79 ok79 (by first | rfl | simp only [go_sem]) meek_bool ?_
  dsimp only [Tryz.f79, nums, Option.getD, List.append]
  unfold slices_Equal_Lbyte_byte at h
  simp only [go_sem, seval]
  refine cnd_s 10000 h (fun hb h => ?_) (fun hb h => ?_)
  · simp only [go_sem, seval]
    refine ret_s (fun x => .bool x) h ?_
    first | rfl | simp only [go_sem, resAV, resAll, resOne, seval]
  · simp only [go_sem, seval]
    refine letK_s h fun K2 hK2 h => ?_
    refine blkJ 26 10000 (fun w => K2 () = some r → w [] []) (fun  h => runX 10000 ?_) (fun JK2 => ?_)
    · subst hK2
      dsimp only at h
      simp only [go_sem, seval]
      refine ret_s (fun x => .bool x) h ?_
      first | rfl | simp only [go_sem, resAV, resAll, resOne, seval]
    · clear hK2
      simp only [go_sem, seval]
      refine lpJ 26 fuel (fun q1 w => ∀ (v3 : Int), slices_Equal_Lbyte_byte_l1 s1 s2 K2 q1 v3 = some r → w [(0, .sl none (List.map (AV.int .u8) s1)), (1, .sl none (List.map (AV.int .u8) s2)), (12, .int .i64 (s1.length : Int)), (13, .int .i64 v3)] []) (fun w _ h => nomatch h) (fun q1 ih1 v3 h => ?_) (fun L1 => ?_)
      · unfold slices_Equal_Lbyte_byte_l1 at h
        refine runL 10000 ?_
        simp only [go_sem, seval]
        refine cnd_s 10000 h (fun hb h => ?_) (fun hb h => ?_)
        · simp only [go_sem, seval]
          refine blk_ 10000 ?_
          simp only [go_sem, seval]
          refine rg_ 10000 (.inr ⟨[], by kernel_rfl, by kernel_rfl, by rfl⟩) ?_
          refine lAt_s (AV.int .u8) none .i64 ⟨5, 1, false, 1⟩ (fun _ => rfl) h fun v6 _ b4 e5 h => ?_
          refine lAt_s (AV.int .u8) none .i64 ⟨5, 1, false, 1⟩ (fun _ => rfl) h fun v9 _ b7 e8 h => ?_
          simp only [go_sem, seval, b4, e5, b7, e8]
          refine cnd_s 10000 h (fun hb h => ?_) (fun hb h => ?_)
          · simp only [go_sem, seval]
            refine ret_s (fun x => .bool x) h ?_
            first | rfl | simp only [go_sem, resAV, resAll, resOne, seval]
          · refine add_s h fun v11 _ e10 h => ?_
            simp only [go_sem, seval, e10]
            exact lp_back (ih1 v11 h) ⟨rfl, rfl, rfl, rfl, trivial⟩
        · simp only [go_sem, seval]
          exact atJ (wkn (JK2  h) trivial)
      · exact lp_back (L1 0 h) ⟨rfl, rfl, rfl, rfl, trivial⟩
theorem w_varint_Get {p0_b : (List Int)}   {r : (Int × Int × (Option Int))} (h : varint_Get p0_b = some r) : ACall Tryz.prog 63 [.sl none (List.map (AV.int .u8) p0_b)] [] (.tup [.int .i64 r.1, .int .i64 r.2.1, encE 66 r.2.2]) [] := by
  refine acallX 10000 hf63 ok63 (by first | rfl | simp only [go_sem]) meek_tup ?_
  dsimp only [Tryz.f63, nums, Option.getD, List.append]
  unfold varint_Get at h
  simp only [go_sem, seval]
  refine letK_s h fun K2 hK2 h => ?_
  refine blkJ 54 10000 (fun w => K2 () = some r → w [] []) (fun  h => runX 10000 ?_) (fun JK2 => ?_)
  · subst hK2
    dsimp only at h
    simp only [go_sem, seval]
    refine ret_s (fun x => .tup [.int .i64 x.1, .int .i64 x.2.1, encE 66 x.2.2]) h ?_
    first | rfl | simp only [go_sem, resAV, resAll, resOne, seval]
  · clear hK2
    simp only [go_sem, seval]
    refine lpJ 54 fuel (fun q1 w => ∀ (v3 : Int) (v4 : Int) (v5 : Int), varint_Get_l1 p0_b K2 q1 v3 v4 v5 = some r → w [(0, .sl none (List.map (AV.int .u8) p0_b)), (5, .int .i64 v3), (6, .int .u64 v4), (9, .sl none (List.map (AV.int .u8) p0_b)), (10, .int .i64 (p0_b.length : Int)), (11, .int .i64 v5)] []) (fun w _ _ _ h => nomatch h) (fun q1 ih1 v3 v4 v5 h => ?_) (fun L1 => ?_)
    · unfold varint_Get_l1 at h
      refine runL 10000 ?_
      simp only [go_sem, seval]
      refine cnd_s 10000 h (fun hb h => ?_) (fun hb h => ?_)
      · simp only [go_sem, seval]
        refine blk_ 10000 ?_
        refine lAt_s (AV.int .u8) none .i64 ⟨5, 1, false, 1⟩ (fun _ => rfl) h fun v8 _ b6 e7 h => ?_
        simp only [go_sem, seval, b6, e7]
        refine cnd_s 10000 h (fun hb h => ?_) (fun hb h => ?_)
        · simp only [go_sem, seval]
          exact atJ (wkn (JK2  h) trivial)
        · refine cvt_s (s := 5) (k := .u8) io3 h fun v10 _ e9 h => ?_
          refine shl_s h fun v13 _ b12 e11 h => ?_
          simp only [go_sem, seval, (show intv .and .u8 v8 127 = .int .u8 (bitv .and .u8 v8 127) from rfl), e9, e11, b12, (show intv .or .i64 v3 v13 = .int .i64 (bitv .or .i64 v3 v13) from rfl), (show intv .add .u64 v4 7 = .int .u64 (IntKind.wrap .u64 (v4 + 7)) from rfl), (show intv .and .u8 v8 128 = .int .u8 (bitv .and .u8 v8 128) from rfl)]
          refine cnd_s 10000 h (fun hb h => ?_) (fun hb h => ?_)
          · refine add_s h fun v15 _ e14 h => ?_
            simp only [go_sem, seval, e14]
            exact lp_back (ih1 (bitv .or .i64 v3 v13) (IntKind.wrap .u64 (v4 + 7)) v15 h) ⟨rfl, rfl, rfl, rfl, rfl, rfl, trivial⟩
          · simp only [go_sem, seval]
            refine rgJ 54 10000 (.inl rfl) (fun w => w [(0, .sl none (List.map (AV.int .u8) p0_b)), (5, .int .i64 (bitv .or .i64 v3 v13)), (6, .int .u64 (IntKind.wrap .u64 (v4 + 7))), (7, .int .i64 v5), (36, .bool ((!decide ((bitv .and .u8 v8 64) = 0)) && (decide ((IntKind.wrap .u64 (v4 + 7)) < 64))))] []) (runX 10000 ?_) (fun Jg16 => ?_)
            · simp only [go_sem, seval]
              refine bsome h fun y17 hy17 h => ?_
              refine cndJ 54 10000 (fun w => w [(0, .sl none (List.map (AV.int .u8) p0_b)), (5, .int .i64 y17), (7, .int .i64 v5)] []) (runX 10000 ?_) (fun Jy17 => ?_)
              · clear hy17
                simp only [go_sem, seval]
                refine rg_ 10000 (.inr ⟨[], by kernel_rfl, by kernel_rfl, by rfl⟩) ?_
                refine bsome h fun v22 hv22 h => ?_
                simp only [go_sem, seval]
                refine callX_ 10000 (w_varint_Put  hv22) (by first | rfl | simp only [go_sem]) (by first | rfl | simp only [go_sem]) ?_
                refine add_s h fun v24 _ e23 h => ?_
                refine subL_s (AV.int .u8) none ⟨5, 1, false, 1⟩ (fun _ => rfl) none (some (.int .i64 v24)) rfl rfl h fun v27 _ b25 e26 h => ?_
                refine bsome h fun v28 hv28 h => ?_
                simp only [go_sem, seval, e23, b25, e26]
                refine callX_ 10000 (w_slices_Equal_Lbyte_byte  hv28) (by first | rfl | simp only [go_sem]) (by first | rfl | simp only [go_sem]) ?_
                simp only [go_sem, seval]
                refine cnd_s 10000 h (fun hb h => ?_) (fun hb h => ?_)
                · simp only [go_sem, seval]
                  exact atJ (wkn (JK2  h) trivial)
                · simp only [go_sem, seval, e23]
                  refine ret_s (fun x => .tup [.int .i64 x.1, .int .i64 x.2.1, encE 66 x.2.2]) h ?_
                  first | rfl | simp only [go_sem, resAV, resAll, resOne, seval]
              · clear h
                have h := hy17
                refine cnd_s 10000 h (fun hb h => ?_) (fun hb h => ?_)
                · refine shl_s h fun v21 _ b20 e19 h => ?_
                  simp only [go_sem, seval, e19, b20, (show intv .or .i64 (bitv .or .i64 v3 v13) v21 = .int .i64 (bitv .or .i64 (bitv .or .i64 v3 v13) v21) from rfl)]
                  obtain rfl := Option.some.inj h
                  exact atJ (wkn (Jy17) ⟨rfl, rfl, rfl, trivial⟩)
                · simp only [go_sem, seval]
                  obtain rfl := Option.some.inj h
                  exact atJ (wkn (Jy17) ⟨rfl, rfl, rfl, trivial⟩)
            · simp only [go_sem, seval, (show intv .and .u8 v8 64 = .int .u8 (bitv .and .u8 v8 64) from rfl)]
              refine grd_ (fun hb30 => ?_) (fun hb30 => ?_)
              · simp only [go_sem, seval]
                exact atJ (wkn Jg16 ⟨rfl, rfl, rfl, rfl, congrArg AV.bool (by first | rfl | (rw [hb30]; rfl) | (simp [hb30]; done) | simp_all), trivial⟩)
              · simp only [go_sem, seval]
                exact atJ (wkn Jg16 ⟨rfl, rfl, rfl, rfl, congrArg AV.bool (by first | rfl | (rw [hb30]; rfl) | (simp [hb30]; done) | simp_all), trivial⟩)
      · simp only [go_sem, seval]
        exact atJ (wkn (JK2  h) trivial)
    · exact lp_back (L1 0 0 0 h) ⟨rfl, rfl, rfl, rfl, rfl, rfl, trivial⟩
theorem w_pack_Reader_fail {p0_r : pack_Reader}   {r : pack_Reader} (h : pack_Reader_fail p0_r = some r) : ACall Tryz.prog 64 [.ptr 0 0] [some [.sl none (List.map (AV.int .u8) p0_r.b), .bool p0_r.wrong]] (.tup []) [some [.sl none (List.map (AV.int .u8) r.b), .bool r.wrong]] := by
  refine acallHX 10000 hf64 ok64 (by first | rfl | simp only [go_sem]) meek_tup rfl (by first | rfl | simp only [go_sem, allLt]) ?_
  dsimp only [Tryz.f64, nums, Option.getD, List.append]
  unfold pack_Reader_fail at h
  simp only [go_sem, seval]
  refine cnd_t 10000 ?_
  simp only [go_sem, seval]
  refine atEndF (retH_s (fun x => .tup []) (fun x => [some [.sl none (List.map (AV.int .u8) x.b), .bool x.wrong]]) h ?_ ?_)
  · first | rfl | simp only [go_sem, resAV, resAll, resOne, seval]
  · first | rfl | simp only [go_sem, resAV, resAll, resOne, seval]
theorem w_pack_Reader_Int {p0_r : pack_Reader} {lo : Int} {hi : Int}   {r : (Int × pack_Reader)} (h : pack_Reader_Int p0_r lo hi = some r) : ACall Tryz.prog 32 [.ptr 0 0, .int .i64 lo, .int .i64 hi] [some [.sl none (List.map (AV.int .u8) p0_r.b), .bool p0_r.wrong]] (.int .i64 r.1) [some [.sl none (List.map (AV.int .u8) r.2.b), .bool r.2.wrong]] := by
  refine acallHX 10000 hf32 ok32 (by first | rfl | simp only [go_sem]) meek_int rfl (by first | rfl | simp only [go_sem, allLt]) ?_
  dsimp only [Tryz.f32, nums, Option.getD, List.append]
  unfold pack_Reader_Int at h
  refine bsome h fun v1 hv1 h => ?_
  simp only [go_sem, seval]
  refine callH_ 10000 [0] (w_pack_Reader_ok  hv1) (by first | rfl | simp only [go_sem]) (by first | rfl | simp only [go_sem]) (by first | rfl | simp only [go_sem]) ?_
  simp only [go_sem, seval]
  refine cnd_s 10000 h (fun hb h => ?_) (fun hb h => ?_)
  · simp only [go_sem, seval]
    refine retH_s (fun x => .int .i64 x.1) (fun x => [some [.sl none (List.map (AV.int .u8) x.2.b), .bool x.2.wrong]]) h ?_ ?_
    · first | rfl | simp only [go_sem, resAV, resAll, resOne, seval]
    · first | rfl | simp only [go_sem, resAV, resAll, resOne, seval]
  · refine bsome h fun v2 hv2 h => ?_
    simp only [go_sem, seval]
    refine callX_ 10000 (w_varint_Get  hv2) (by first | rfl | simp only [go_sem]) (by first | rfl | simp only [go_sem]) ?_
    simp only [go_sem, seval]
    refine rgJ 46 10000 (.inl rfl) (fun w => w [(0, .ptr 0 0), (7, .int .i64 v2.1), (8, .int .i64 v2.2.1), (33, .bool ((v2.2.2.isSome || (decide (v2.1 < lo))) || (decide (hi < v2.1))))] [some [.sl none (List.map (AV.int .u8) v1.2.b), .bool v1.2.wrong]]) (runX 10000 ?_) (fun Jg3 => ?_)
    · simp only [go_sem, seval]
      refine cnd_s 10000 h (fun hb h => ?_) (fun hb h => ?_)
      · refine bsome h fun v4 hv4 h => ?_
        simp only [go_sem, seval]
        refine callH_ 10000 [0] (w_pack_Reader_fail  hv4) (by first | rfl | simp only [go_sem]) (by first | rfl | simp only [go_sem]) (by first | rfl | simp only [go_sem]) ?_
        simp only [go_sem, seval]
        refine retH_s (fun x => .int .i64 x.1) (fun x => [some [.sl none (List.map (AV.int .u8) x.2.b), .bool x.2.wrong]]) h ?_ ?_
        · first | rfl | simp only [go_sem, resAV, resAll, resOne, seval]
        · first | rfl | simp only [go_sem, resAV, resAll, resOne, seval]
      · refine subL_s (AV.int .u8) none ⟨5, 1, false, 1⟩ (fun _ => rfl) (some (.int .i64 v2.2.1)) none rfl rfl h fun v7 _ b5 e6 h => ?_
        simp only [go_sem, seval, b5, e6]
        refine retH_s (fun x => .int .i64 x.1) (fun x => [some [.sl none (List.map (AV.int .u8) x.2.b), .bool x.2.wrong]]) h ?_ ?_
        · first | rfl | simp only [go_sem, resAV, resAll, resOne, seval]
        · first | rfl | simp only [go_sem, resAV, resAll, resOne, seval]
    · simp only [go_sem, seval]
      refine grd_ (fun hb8 => ?_) (fun hb8 => ?_)
      · simp only [go_sem, seval]
        refine grd_ (fun hb9 => ?_) (fun hb9 => ?_)
        · simp only [go_sem, seval]
          exact atJ (wkn Jg3 ⟨rfl, rfl, rfl, congrArg AV.bool (by first | rfl | (rw [hb8, hb9]; rfl) | (simp [hb8, hb9]; done) | simp_all), trivial⟩)
        · simp only [go_sem, seval]
          exact atJ (wkn Jg3 ⟨rfl, rfl, rfl, congrArg AV.bool (by first | rfl | (rw [hb8, hb9]; rfl) | (simp [hb8, hb9]; done) | simp_all), trivial⟩)
      · simp only [go_sem, seval]
        exact atJ (wkn Jg3 ⟨rfl, rfl, rfl, congrArg AV.bool (by first | rfl | (rw [hb8]; rfl) | (simp [hb8]; done) | simp_all), trivial⟩)
theorem w_pack_Reader_count {p0_r : pack_Reader} {many : Int}   {r : (Int × pack_Reader)} (h : pack_Reader_count p0_r many = some r) : ACall Tryz.prog 61 [.ptr 0 0, .int .i64 many] [some [.sl none (List.map (AV.int .u8) p0_r.b), .bool p0_r.wrong]] (.int .i64 r.1) [some [.sl none (List.map (AV.int .u8) r.2.b), .bool r.2.wrong]] := by
  refine acallHX 10000 hf61 ok61 (by first | rfl | simp only [go_sem]) meek_int rfl (by first | rfl | simp only [go_sem, allLt]) ?_
  dsimp only [Tryz.f61, nums, Option.getD, List.append]
  unfold pack_Reader_count at h
  refine bsome h fun v1 hv1 h => ?_
  simp only [go_sem, seval]
  refine callH_ 10000 [0] (w_pack_Reader_Int  hv1) (by first | rfl | simp only [go_sem]) (by first | rfl | simp only [go_sem]) (by first | rfl | simp only [go_sem]) ?_
  simp only [go_sem, seval]
  refine bsome h fun y2 hy2 h => ?_
  refine rgJ 24 10000 (.inl rfl) (fun w => w [(0, .ptr 0 0), (5, .int .i64 v1.1), (20, .bool y2.1)] [some [.sl none (List.map (AV.int .u8) y2.2.b), .bool y2.2.wrong]]) (runX 10000 ?_) (fun Jy2 => ?_)
  · clear hy2
    simp only [go_sem, seval]
    refine cnd_s 10000 h (fun hb h => ?_) (fun hb h => ?_)
    · refine bsome h fun v6 hv6 h => ?_
      simp only [go_sem, seval]
      refine callH_ 10000 [0] (w_pack_Reader_fail  hv6) (by first | rfl | simp only [go_sem]) (by first | rfl | simp only [go_sem]) (by first | rfl | simp only [go_sem]) ?_
      simp only [go_sem, seval]
      refine retH_s (fun x => .int .i64 x.1) (fun x => [some [.sl none (List.map (AV.int .u8) x.2.b), .bool x.2.wrong]]) h ?_ ?_
      · first | rfl | simp only [go_sem, resAV, resAll, resOne, seval]
      · first | rfl | simp only [go_sem, resAV, resAll, resOne, seval]
    · simp only [go_sem, seval]
      refine retH_s (fun x => .int .i64 x.1) (fun x => [some [.sl none (List.map (AV.int .u8) x.2.b), .bool x.2.wrong]]) h ?_ ?_
      · first | rfl | simp only [go_sem, resAV, resAll, resOne, seval]
      · first | rfl | simp only [go_sem, resAV, resAll, resOne, seval]
  · clear h
    have h := hy2
    refine bsome h fun v4 hv4 h => ?_
    simp only [go_sem, seval]
    refine callH_ 10000 [0] (w_pack_Reader_ok  hv4) (by first | rfl | simp only [go_sem]) (by first | rfl | simp only [go_sem]) (by first | rfl | simp only [go_sem]) ?_
    simp only [go_sem, seval]
    refine grd_ (fun hb5 => ?_) (fun hb5 => ?_)
    · have h := ite_f hb5 h
      simp only [go_sem, seval]
      obtain rfl := Option.some.inj h
      exact atJ (wkn (Jy2) ⟨rfl, rfl, rfl, trivial⟩)
    · have h := ite_t hb5 h
      simp only [go_sem, seval]
      obtain rfl := Option.some.inj h
      exact atJ (wkn (Jy2) ⟨rfl, rfl, rfl, trivial⟩)
theorem w_pack_Reader_Text {p0_r : pack_Reader} {many : Int}   {r : (Str × pack_Reader)} (h : pack_Reader_Text p0_r many = some r) : ACall Tryz.prog 31 [.ptr 0 0, .int .i64 many] [some [.sl none (List.map (AV.int .u8) p0_r.b), .bool p0_r.wrong]] (.str r.1) [some [.sl none (List.map (AV.int .u8) r.2.b), .bool r.2.wrong]] := by
  refine acallHX 10000 hf31 ok31 (by first | rfl | simp only [go_sem]) meek_str rfl (by first | rfl | simp only [go_sem, allLt]) ?_
  dsimp only [Tryz.f31, nums, Option.getD, List.append]
  unfold pack_Reader_Text at h
  refine bsome h fun v1 hv1 h => ?_
  simp only [go_sem, seval]
  refine callH_ 10000 [0] (w_pack_Reader_count  hv1) (by first | rfl | simp only [go_sem]) (by first | rfl | simp only [go_sem]) (by first | rfl | simp only [go_sem]) ?_
  refine bsome h fun v2 hv2 h => ?_
  simp only [go_sem, seval]
  refine callH_ 10000 [0] (w_pack_Reader_ok  hv2) (by first | rfl | simp only [go_sem]) (by first | rfl | simp only [go_sem]) (by first | rfl | simp only [go_sem]) ?_
  simp only [go_sem, seval]
  refine cnd_s 10000 h (fun hb h => ?_) (fun hb h => ?_)
  · simp only [go_sem, seval]
    refine retH_s (fun x => .str x.1) (fun x => [some [.sl none (List.map (AV.int .u8) x.2.b), .bool x.2.wrong]]) h ?_ ?_
    · first | rfl | simp only [go_sem, resAV, resAll, resOne, seval]
    · first | rfl | simp only [go_sem, resAV, resAll, resOne, seval]
  · refine subL_s (AV.int .u8) none ⟨5, 1, false, 1⟩ (fun _ => rfl) none (some (.int .i64 v1.1)) rfl rfl h fun v5 _ b3 e4 h => ?_
    refine subL_s (AV.int .u8) none ⟨5, 1, false, 1⟩ (fun _ => rfl) (some (.int .i64 v1.1)) none rfl rfl h fun v8 _ b6 e7 h => ?_
    simp only [go_sem, seval, b3, e4, (text_e (P := Tryz.prog) (s := 26) (d := 9) (by rw [kd9]; rfl) none v5), (isBytes_e v5), b6, e7]
    refine retH_s (fun x => .str x.1) (fun x => [some [.sl none (List.map (AV.int .u8) x.2.b), .bool x.2.wrong]]) h ?_ ?_
    · first | rfl | simp only [go_sem, resAV, resAll, resOne, seval]
    · first | rfl | simp only [go_sem, resAV, resAll, resOne, seval]
theorem w_pack_Reader_Done {p0_r : pack_Reader}   {r : ((Option Int) × pack_Reader)} (h : pack_Reader_Done p0_r = some r) : ACall Tryz.prog 33 [.ptr 0 0] [some [.sl none (List.map (AV.int .u8) p0_r.b), .bool p0_r.wrong]] (encE 66 r.1) [some [.sl none (List.map (AV.int .u8) r.2.b), .bool r.2.wrong]] := by
  refine acallHX 10000 hf33 ok33 (by first | rfl | simp only [go_sem]) meek_encE rfl (by first | rfl | simp only [go_sem, allLt]) ?_
  dsimp only [Tryz.f33, nums, Option.getD, List.append]
  unfold pack_Reader_Done at h
  simp only [go_sem, seval]
  refine bsome h fun y1 hy1 h => ?_
  refine rgJ 15 10000 (.inl rfl) (fun w => w [(13, .bool y1.1)] [some [.sl none (List.map (AV.int .u8) y1.2.b), .bool y1.2.wrong]]) (runX 10000 ?_) (fun Jy1 => ?_)
  · clear hy1
    simp only [go_sem, seval]
    refine cnd_s 10000 h (fun hb h => ?_) (fun hb h => ?_)
    · simp only [go_sem, seval]
      refine retH_s (fun x => encE 66 x.1) (fun x => [some [.sl none (List.map (AV.int .u8) x.2.b), .bool x.2.wrong]]) h ?_ ?_
      · first | rfl | simp only [go_sem, resAV, resAll, resOne, seval]
      · first | rfl | simp only [go_sem, resAV, resAll, resOne, seval]
    · simp only [go_sem, seval]
      refine retH_s (fun x => encE 66 x.1) (fun x => [some [.sl none (List.map (AV.int .u8) x.2.b), .bool x.2.wrong]]) h ?_ ?_
      · first | rfl | simp only [go_sem, resAV, resAll, resOne, seval]
      · first | rfl | simp only [go_sem, resAV, resAll, resOne, seval]
  · clear h
    have h := hy1
    refine bsome h fun v3 hv3 h => ?_
    simp only [go_sem, seval]
    refine callH_ 10000 [0] (w_pack_Reader_ok  hv3) (by first | rfl | simp only [go_sem]) (by first | rfl | simp only [go_sem]) (by first | rfl | simp only [go_sem]) ?_
    simp only [go_sem, seval]
    refine grd_ (fun hb4 => ?_) (fun hb4 => ?_)
    · have h := ite_f hb4 h
      simp only [go_sem, seval]
      obtain rfl := Option.some.inj h
      exact atJ (wkn (Jy1) ⟨rfl, trivial⟩)
    · have h := ite_t hb4 h
      simp only [go_sem, seval]
      obtain rfl := Option.some.inj h
      exact atJ (wkn (Jy1) ⟨rfl, trivial⟩)
theorem w_method_Decode {p0_b : (List Int)}   {r : (method_Method × (Option Int))} (h : method_Decode p0_b = some r) : ACall Tryz.prog 13 [.sl none (List.map (AV.int .u8) p0_b)] [] (.tup [enc_method_Method r.1, encE 66 r.2]) [] := by
  refine acallX 10000 hf13 ok13 (by first | rfl | simp only [go_sem]) meek_tup ?_
  dsimp only [Tryz.f13, nums, Option.getD, List.append]
  unfold method_Decode at h
  refine bsome h fun v1 hv1 h => ?_
  simp only [go_sem, seval]
  refine callB_ 10000 1 (r' := .ptr 1 0) (hp2 := [some [.str [], .sl (some none) [], .sl (some none) []], some [.sl none (List.map (AV.int .u8) v1.b), .bool v1.wrong]]) (w_pack_Read hv1) (by first | rfl | simp only [go_sem]) (by first | rfl | simp only [go_sem]) rfl rfl rfl ?_
  refine bsome h fun v2 hv2 h => ?_
  simp only [go_sem, seval]
  refine callH_ 10000 [1] (w_pack_Reader_Text  hv2) (by first | rfl | simp only [go_sem]) (by first | rfl | simp only [go_sem]) (by first | rfl | simp only [go_sem]) ?_
  refine bsome h fun v3 hv3 h => ?_
  simp only [go_sem, seval]
  refine callH_ 10000 [1] (w_pack_Reader_Int  hv3) (by first | rfl | simp only [go_sem]) (by first | rfl | simp only [go_sem]) (by first | rfl | simp only [go_sem]) ?_
  simp only [go_sem, seval]
  refine bsome h fun y4 hy4 h => ?_
  refine blkJ 58 10000 (fun w => w [(2, .ptr 0 0), (4, .ptr 1 0), (5, .ptr 2 0)] [some [.str [], .sl (some none) [], .sl (some none) []], some [.sl none (List.map (AV.int .u8) y4.1.b), .bool y4.1.wrong], some [.str v2.1, .sl (some none) (List.map enc_method_Lit y4.2), .sl (some none) []]]) (runX 10000 ?_) (fun Jy4 => ?_)
  · clear hy4
    refine bsome h fun v24 hv24 h => ?_
    simp only [go_sem, seval]
    refine callH_ 10000 [1] (w_pack_Reader_Int  hv24) (by first | rfl | simp only [go_sem]) (by first | rfl | simp only [go_sem]) (by first | rfl | simp only [go_sem]) ?_
    simp only [go_sem, seval]
    refine bsome h fun y25 hy25 h => ?_
    refine blkJ 58 10000 (fun w => w [(2, .ptr 0 0), (4, .ptr 1 0), (5, .ptr 2 0)] [some [.str [], .sl (some none) [], .sl (some none) []], some [.sl none (List.map (AV.int .u8) y25.1.b), .bool y25.1.wrong], some [.str v2.1, .sl (some none) (List.map enc_method_Lit y4.2), .sl (some none) (List.map enc_method_Part y25.2)]]) (runX 10000 ?_) (fun Jy25 => ?_)
    · clear hy25
      refine bsome h fun v49 hv49 h => ?_
      simp only [go_sem, seval]
      refine callH_ 10000 [1] (w_pack_Reader_Done  hv49) (by first | rfl | simp only [go_sem]) (by first | rfl | simp only [go_sem]) (by first | rfl | simp only [go_sem]) ?_
      simp only [go_sem, seval]
      refine cnd_s 10000 h (fun hb h => ?_) (fun hb h => ?_)
      · simp only [go_sem, seval]
        refine ret_s (fun x => .tup [enc_method_Method x.1, encE 66 x.2]) h ?_
        first | rfl | simp only [go_sem, resAV, resAll, resOne, seval]
      · simp only [go_sem, seval]
        refine ret_s (fun x => .tup [enc_method_Method x.1, encE 66 x.2]) h ?_
        first | rfl | simp only [go_sem, resAV, resAll, resOne, seval]
    · clear h
      have h := hy25
      simp only [go_sem, seval]
      refine lpJ 58 fuel (fun q2 w => ∀ (v37 : Int) (v38 : pack_Reader) (v39 : (List method_Part)), method_Decode_l2 v24 q2 v37 v38 v39 = some y25 → w [(2, .ptr 0 0), (4, .ptr 1 0), (5, .ptr 2 0), (31, .int .i64 v24.1), (32, .int .i64 v37)] [some [.str [], .sl (some none) [], .sl (some none) []], some [.sl none (List.map (AV.int .u8) v38.b), .bool v38.wrong], some [.str v2.1, .sl (some none) (List.map enc_method_Lit y4.2), .sl (some none) (List.map enc_method_Part v39)]]) (fun w _ _ _ h => nomatch h) (fun q2 ih2 v37 v38 v39 h => ?_) (fun L2 => ?_)
      · unfold method_Decode_l2 at h
        refine runL 10000 ?_
        simp only [go_sem, seval]
        refine cnd_s 10000 h (fun hb h => ?_) (fun hb h => ?_)
        · simp only [go_sem, seval]
          refine blk_ 10000 ?_
          refine bsome h fun v40 hv40 h => ?_
          simp only [go_sem, seval]
          refine callH_ 10000 [1] (w_pack_Reader_Int  hv40) (by first | rfl | simp only [go_sem]) (by first | rfl | simp only [go_sem]) (by first | rfl | simp only [go_sem]) ?_
          refine bsome h fun v41 hv41 h => ?_
          simp only [go_sem, seval]
          refine callH_ 10000 [1] (w_pack_Reader_Int  hv41) (by first | rfl | simp only [go_sem]) (by first | rfl | simp only [go_sem]) (by first | rfl | simp only [go_sem]) ?_
          refine bsome h fun v42 hv42 h => ?_
          simp only [go_sem, seval]
          refine callH_ 10000 [1] (w_pack_Reader_Int  hv42) (by first | rfl | simp only [go_sem]) (by first | rfl | simp only [go_sem]) (by first | rfl | simp only [go_sem]) ?_
          refine bsome h fun v43 hv43 h => ?_
          simp only [go_sem, seval]
          refine callH_ 10000 [1] (w_pack_Reader_Text  hv43) (by first | rfl | simp only [go_sem]) (by first | rfl | simp only [go_sem]) (by first | rfl | simp only [go_sem]) ?_
          refine app_s enc_method_Part (some none) ⟨63, 4, true, 48⟩ (fun _ => rfl) (by decide) rfl h fun v46 _ (b44 : appc ⟨63, 4, true, 48⟩ (.sl (some none) (List.map enc_method_Part v39)) (.sl (some none) [.agg [.int .i64 v40.1, .int .i64 v41.1, .int .i64 v42.1, .sl none (List.map (AV.int .u8) (toInts v43.1))]])) (e45 : appv (.sl (some none) (List.map enc_method_Part v39)) (.sl (some none) [.agg [.int .i64 v40.1, .int .i64 v41.1, .int .i64 v42.1, .sl none (List.map (AV.int .u8) (toInts v43.1))]]) = .sl (some none) (List.map enc_method_Part v46)) h => ?_
          refine add_s h fun v48 _ e47 h => ?_
          simp only [go_sem, seval, (bytes_e (P := Tryz.prog) (s := 9) (d := 26) (by rw [kd26]; rfl) (by rw [kd26]; rfl) v43.1), b44, e45, e47]
          exact lp_backH 3 (ih2 v48 v43.2 v46 h) ⟨rfl, rfl, rfl, rfl, rfl, trivial⟩ rfl rfl rfl (by first | rfl | simp only [go_sem, ltF]) (by first | rfl | simp only [go_sem, allLt])
        · simp only [go_sem, seval]
          obtain rfl := Option.some.inj h
          exact atJ (wkn (Jy25) ⟨rfl, rfl, rfl, trivial⟩)
      · exact lp_back (L2 0 v24.2 [] h) ⟨rfl, rfl, rfl, rfl, rfl, trivial⟩
  · clear h
    have h := hy4
    simp only [go_sem, seval]
    refine lpJ 58 fuel (fun q1 w => ∀ (v14 : Int) (v15 : pack_Reader) (v16 : (List method_Lit)), method_Decode_l1 v3 q1 v14 v15 v16 = some y4 → w [(2, .ptr 0 0), (4, .ptr 1 0), (5, .ptr 2 0), (14, .int .i64 v3.1), (15, .int .i64 v14)] [some [.str [], .sl (some none) [], .sl (some none) []], some [.sl none (List.map (AV.int .u8) v15.b), .bool v15.wrong], some [.str v2.1, .sl (some none) (List.map enc_method_Lit v16), .sl (some none) []]]) (fun w _ _ _ h => nomatch h) (fun q1 ih1 v14 v15 v16 h => ?_) (fun L1 => ?_)
    · unfold method_Decode_l1 at h
      refine runL 10000 ?_
      simp only [go_sem, seval]
      refine cnd_s 10000 h (fun hb h => ?_) (fun hb h => ?_)
      · simp only [go_sem, seval]
        refine blk_ 10000 ?_
        refine bsome h fun v17 hv17 h => ?_
        simp only [go_sem, seval]
        refine callH_ 10000 [1] (w_pack_Reader_Int  hv17) (by first | rfl | simp only [go_sem]) (by first | rfl | simp only [go_sem]) (by first | rfl | simp only [go_sem]) ?_
        simp only [go_sem, seval]
        refine rg_ 10000 (.inr ⟨[(4, 1), (5, 2), (19, 2), (23, 1), (28, 2)], by kernel_rfl, by kernel_rfl, by rfl⟩) ?_
        refine bsome h fun v18 hv18 h => ?_
        simp only [go_sem, seval, (cvw_e (s := 3) (k := .i64) io5 v17.1)]
        refine callHM_ 10000 1 (.inr (by kernel_rfl)) (w_pack_Reader_Text  hv18) rfl (by first | rfl | simp only [go_sem]) (by first | rfl | simp only [go_sem]) (by first | rfl | simp only [go_sem]) ?_
        refine app_s enc_method_Lit (some none) ⟨62, 2, true, 24⟩ (fun _ => rfl) (by decide) rfl h fun v21 _ (b19 : appc ⟨62, 2, true, 24⟩ (.sl (some none) (List.map enc_method_Lit v16)) (.sl (some none) [.agg [.int .u8 (IntKind.wrap .u8 v17.1), .str v18.1]])) (e20 : appv (.sl (some none) (List.map enc_method_Lit v16)) (.sl (some none) [.agg [.int .u8 (IntKind.wrap .u8 v17.1), .str v18.1]]) = .sl (some none) (List.map enc_method_Lit v21)) h => ?_
        refine add_s h fun v23 _ e22 h => ?_
        simp only [go_sem, seval, b19, e20, e22]
        exact lp_back (ih1 v23 v18.2 v21 h) ⟨rfl, rfl, rfl, rfl, rfl, trivial⟩
      · simp only [go_sem, seval]
        obtain rfl := Option.some.inj h
        exact atJ (wkn (Jy4) ⟨rfl, rfl, rfl, trivial⟩)
    · exact lp_back (L1 0 v3.2 [] h) ⟨rfl, rfl, rfl, rfl, rfl, trivial⟩
theorem w_slices_Equal_Lmethod_Lit_method_Lit {s1 : (List method_Lit)} {s2 : (List method_Lit)}   {r : Bool} (h : slices_Equal_Lmethod_Lit_method_Lit s1 s2 = some r) : ACall Tryz.prog 41 [.sl none (List.map enc_method_Lit s1), .sl none (List.map enc_method_Lit s2)] [] (.bool r) [] := by
  refine acallX 10000 hf41 ok41 (by first | rfl | simp only [go_sem]) meek_bool ?_
  dsimp only [Tryz.f41, nums, Option.getD, List.append]
  unfold slices_Equal_Lmethod_Lit_method_Lit at h
  simp only [go_sem, seval]
  refine cnd_s 10000 h (fun hb h => ?_) (fun hb h => ?_)
  · simp only [go_sem, seval]
    refine ret_s (fun x => .bool x) h ?_
    first | rfl | simp only [go_sem, resAV, resAll, resOne, seval]
  · simp only [go_sem, seval]
    refine letK_s h fun K2 hK2 h => ?_
    refine blkJ 26 10000 (fun w => K2 () = some r → w [] []) (fun  h => runX 10000 ?_) (fun JK2 => ?_)
    · subst hK2
      dsimp only at h
      simp only [go_sem, seval]
      refine ret_s (fun x => .bool x) h ?_
      first | rfl | simp only [go_sem, resAV, resAll, resOne, seval]
    · clear hK2
      simp only [go_sem, seval]
      refine lpJ 26 fuel (fun q1 w => ∀ (v3 : Int), slices_Equal_Lmethod_Lit_method_Lit_l1 s1 s2 K2 q1 v3 = some r → w [(0, .sl none (List.map enc_method_Lit s1)), (1, .sl none (List.map enc_method_Lit s2)), (12, .int .i64 (s1.length : Int)), (13, .int .i64 v3)] []) (fun w _ h => nomatch h) (fun q1 ih1 v3 h => ?_) (fun L1 => ?_)
      · unfold slices_Equal_Lmethod_Lit_method_Lit_l1 at h
        refine runL 10000 ?_
        simp only [go_sem, seval]
        refine cnd_s 10000 h (fun hb h => ?_) (fun hb h => ?_)
        · simp only [go_sem, seval]
          refine blk_ 10000 ?_
          simp only [go_sem, seval]
          refine rg_ 10000 (.inr ⟨[], by kernel_rfl, by kernel_rfl, by rfl⟩) ?_
          refine lAt_s enc_method_Lit none .i64 ⟨62, 2, true, 24⟩ (fun _ => rfl) h fun v6 _ b4 e5 h => ?_
          refine lAt_s enc_method_Lit none .i64 ⟨62, 2, true, 24⟩ (fun _ => rfl) h fun v9 _ b7 e8 h => ?_
          simp only [go_sem, seval, b4, e5, b7, e8]
          refine cnd_s 10000 h (fun hb h => ?_) (fun hb h => ?_)
          · simp only [go_sem, seval]
            refine ret_s (fun x => .bool x) h ?_
            first | rfl | simp only [go_sem, resAV, resAll, resOne, seval]
          · refine add_s h fun v11 _ e10 h => ?_
            simp only [go_sem, seval, e10]
            exact lp_back (ih1 v11 h) ⟨rfl, rfl, rfl, rfl, trivial⟩
        · simp only [go_sem, seval]
          exact atJ (wkn (JK2  h) trivial)
      · exact lp_back (L1 0 h) ⟨rfl, rfl, rfl, rfl, trivial⟩
theorem w_slices_EqualFunc_Lmethod_Part_Lmethod_Part_method_Part_method_Part {s1 : (List method_Part)} {s2 : (List method_Part)} {eq : (method_Part → method_Part → Option Bool)}  (fv_eq : FuncId) (hf_eq : ∀ (a0 : method_Part) (a1 : method_Part) (z : Bool), eq a0 a1 = some z → ACall Tryz.prog fv_eq [enc_method_Part a0, enc_method_Part a1] [] (.bool z) []) {r : Bool} (h : slices_EqualFunc_Lmethod_Part_Lmethod_Part_method_Part_method_Part s1 s2 eq = some r) : ACall Tryz.prog 42 [.sl none (List.map enc_method_Part s1), .sl none (List.map enc_method_Part s2), .fn (.func fv_eq) [] []] [] (.bool r) [] := by
  refine acallX 10000 hf42 ok42 (by first | rfl | simp only [go_sem]) meek_bool ?_
  dsimp only [Tryz.f42, nums, Option.getD, List.append]
  unfold slices_EqualFunc_Lmethod_Part_Lmethod_Part_method_Part_method_Part at h
  simp only [go_sem, seval]
  refine cnd_s 10000 h (fun hb h => ?_) (fun hb h => ?_)
  · simp only [go_sem, seval]
    refine ret_s (fun x => .bool x) h ?_
    first | rfl | simp only [go_sem, resAV, resAll, resOne, seval]
  · simp only [go_sem, seval]
    refine letK_s h fun K2 hK2 h => ?_
    refine blkJ 32 10000 (fun w => K2 () = some r → w [] []) (fun  h => runX 10000 ?_) (fun JK2 => ?_)
    · subst hK2
      dsimp only at h
      simp only [go_sem, seval]
      refine ret_s (fun x => .bool x) h ?_
      first | rfl | simp only [go_sem, resAV, resAll, resOne, seval]
    · clear hK2
      simp only [go_sem, seval]
      refine lpJ 32 fuel (fun q1 w => ∀ (v3 : Int), slices_EqualFunc_Lmethod_Part_Lmethod_Part_method_Part_method_Part_l1 s1 s2 eq K2 q1 v3 = some r → w [(1, .sl none (List.map enc_method_Part s2)), (2, .fn (.func fv_eq) [] []), (15, .sl none (List.map enc_method_Part s1)), (16, .int .i64 (s1.length : Int)), (17, .int .i64 v3)] []) (fun w _ h => nomatch h) (fun q1 ih1 v3 h => ?_) (fun L1 => ?_)
      · unfold slices_EqualFunc_Lmethod_Part_Lmethod_Part_method_Part_method_Part_l1 at h
        refine runL 10000 ?_
        simp only [go_sem, seval]
        refine cnd_s 10000 h (fun hb h => ?_) (fun hb h => ?_)
        · simp only [go_sem, seval]
          refine blk_ 10000 ?_
          refine lAt_s enc_method_Part none .i64 ⟨63, 4, true, 48⟩ (fun _ => rfl) h fun v6 _ b4 e5 h => ?_
          refine lAt_s enc_method_Part none .i64 ⟨63, 4, true, 48⟩ (fun _ => rfl) h fun v9 _ b7 e8 h => ?_
          refine bsome h fun v10 hv10 h => ?_
          simp only [go_sem, seval, b4, e5, b7, e8]
          refine callX_ 10000 (hf_eq _ _ _ hv10) (by first | rfl | simp only [go_sem]) (by first | rfl | simp only [go_sem]) ?_
          simp only [go_sem, seval]
          refine cnd_s 10000 h (fun hb h => ?_) (fun hb h => ?_)
          · simp only [go_sem, seval]
            refine ret_s (fun x => .bool x) h ?_
            first | rfl | simp only [go_sem, resAV, resAll, resOne, seval]
          · refine add_s h fun v12 _ e11 h => ?_
            simp only [go_sem, seval, e11]
            exact lp_backH 0 (ih1 v12 h) ⟨rfl, rfl, rfl, rfl, rfl, trivial⟩ rfl rfl rfl (by first | rfl | simp only [go_sem, ltF]) (by first | rfl | simp only [go_sem, allLt])
        · simp only [go_sem, seval]
          exact atJ (wkn (JK2  h) trivial)
      · exact lp_back (L1 0 h) ⟨rfl, rfl, rfl, rfl, rfl, trivial⟩
theorem w_method_Part_same {p : method_Part} {p1_q : method_Part}   {r : Bool} (h : method_Part_same p p1_q = some r) : ACall Tryz.prog 43 [enc_method_Part p, enc_method_Part p1_q] [] (.bool r) [] := by
  refine acallX 10000 hf43 ok43 (by first | rfl | simp only [go_sem]) meek_bool ?_
  dsimp only [Tryz.f43, nums, Option.getD, List.append]
  unfold method_Part_same at h
  simp only [go_sem, seval]
  refine bsome h fun y1 hy1 h => ?_
  refine rgJ 31 10000 (.inl rfl) (fun w => w [(4, .bool y1)] [some [.int .i64 p.Outer, .int .i64 p.Args, .int .i64 p.Temps, .sl none (List.map (AV.int .u8) p.Code)], some [.int .i64 p1_q.Outer, .int .i64 p1_q.Args, .int .i64 p1_q.Temps, .sl none (List.map (AV.int .u8) p1_q.Code)]]) (runX 10000 ?_) (fun Jy1 => ?_)
  · clear hy1
    simp only [go_sem, seval]
    refine ret_s (fun x => .bool x) h ?_
    first | rfl | simp only [go_sem, resAV, resAll, resOne, seval]
  · clear h
    have h := hy1
    simp only [go_sem, seval]
    refine grd_ (fun hb3 => ?_) (fun hb3 => ?_)
    · have h := ite_t hb3 h
      simp only [go_sem, seval]
      refine grd_ (fun hb4 => ?_) (fun hb4 => ?_)
      · have h := ite_t hb4 h
        simp only [go_sem, seval]
        refine grd_ (fun hb5 => ?_) (fun hb5 => ?_)
        · have h := ite_t hb5 h
          refine bsome h fun v6 hv6 h => ?_
          simp only [go_sem, seval]
          refine callX_ 10000 (w_slices_Equal_Lbyte_byte  hv6) (by first | rfl | simp only [go_sem]) (by first | rfl | simp only [go_sem]) ?_
          simp only [go_sem, seval]
          obtain rfl := Option.some.inj h
          exact atJ (wkn (Jy1) ⟨rfl, trivial⟩)
        · have h := ite_f hb5 h
          simp only [go_sem, seval]
          obtain rfl := Option.some.inj h
          exact atJ (wkn (Jy1) ⟨rfl, trivial⟩)
      · have h := ite_f hb4 h
        simp only [go_sem, seval]
        obtain rfl := Option.some.inj h
        exact atJ (wkn (Jy1) ⟨rfl, trivial⟩)
    · have h := ite_f hb3 h
      simp only [go_sem, seval]
      obtain rfl := Option.some.inj h
      exact atJ (wkn (Jy1) ⟨rfl, trivial⟩)
theorem w_method_Same {a : method_Method} {p1_b : method_Method}   {r : Bool} (h : method_Same a p1_b = some r) : ACall Tryz.prog 19 [enc_method_Method a, enc_method_Method p1_b] [] (.bool r) [] := by
  refine acallX 10000 hf19 ok19 (by first | rfl | simp only [go_sem]) meek_bool ?_
  dsimp only [Tryz.f19, nums, Option.getD, List.append]
  unfold method_Same at h
  simp only [go_sem, seval]
  refine bsome h fun y1 hy1 h => ?_
  refine rgJ 24 10000 (.inl rfl) (fun w => w [(4, .bool y1)] [some [.str a.Sel, .sl none (List.map enc_method_Lit a.Lits), .sl none (List.map enc_method_Part a.Parts)], some [.str p1_b.Sel, .sl none (List.map enc_method_Lit p1_b.Lits), .sl none (List.map enc_method_Part p1_b.Parts)]]) (runX 10000 ?_) (fun Jy1 => ?_)
  · clear hy1
    simp only [go_sem, seval]
    refine ret_s (fun x => .bool x) h ?_
    first | rfl | simp only [go_sem, resAV, resAll, resOne, seval]
  · clear h
    have h := hy1
    simp only [go_sem, seval]
    refine grd_ (fun hb3 => ?_) (fun hb3 => ?_)
    · have h := ite_t hb3 h
      refine bsome h fun v4 hv4 h => ?_
      simp only [go_sem, seval]
      refine callX_ 10000 (w_slices_Equal_Lmethod_Lit_method_Lit  hv4) (by first | rfl | simp only [go_sem]) (by first | rfl | simp only [go_sem]) ?_
      simp only [go_sem, seval]
      refine grd_ (fun hb5 => ?_) (fun hb5 => ?_)
      · have h := ite_t hb5 h
        refine bsome h fun v6 hv6 h => ?_
        simp only [go_sem, seval]
        refine callX_ 10000 (w_slices_EqualFunc_Lmethod_Part_Lmethod_Part_method_Part_method_Part 43 (fun _ _ _ h => w_method_Part_same h) hv6) (by first | rfl | simp only [go_sem]) (by first | rfl | simp only [go_sem]) ?_
        simp only [go_sem, seval]
        obtain rfl := Option.some.inj h
        exact atJ (wkn (Jy1) ⟨rfl, trivial⟩)
      · have h := ite_f hb5 h
        simp only [go_sem, seval]
        obtain rfl := Option.some.inj h
        exact atJ (wkn (Jy1) ⟨rfl, trivial⟩)
    · have h := ite_f hb3 h
      simp only [go_sem, seval]
      obtain rfl := Option.some.inj h
      exact atJ (wkn (Jy1) ⟨rfl, trivial⟩)
theorem w_law09_sure    {r : Bool} (h : law09_sure  = some r) : ACall Tryz.prog 8 [] [] (.bool r) [] := by
  refine acallX 10000 hf8 ok8 (by first | rfl | simp only [go_sem]) meek_bool ?_
  dsimp only [Tryz.f8, nums, Option.getD, List.append]
  unfold law09_sure at h
  refine bsome h fun v1 hv1 h => ?_
  simp only [go_sem, seval]
  refine callX_ 10000 (w_method_Encode  hv1) (by first | rfl | simp only [go_sem]) (by first | rfl | simp only [go_sem]) ?_
  refine bsome h fun v2 hv2 h => ?_
  simp only [go_sem, seval]
  refine callX_ 10000 (w_method_Decode  hv2) (by first | rfl | simp only [go_sem]) (by first | rfl | simp only [go_sem]) ?_
  refine bsome h fun v3 hv3 h => ?_
  simp only [go_sem, seval]
  refine callX_ 10000 (w_method_Arity  hv3) (by first | rfl | simp only [go_sem]) (by first | rfl | simp only [go_sem]) ?_
  refine bsome h fun v4 hv4 h => ?_
  simp only [go_sem, seval]
  refine callX_ 10000 (w_method_Arity  hv4) (by first | rfl | simp only [go_sem]) (by first | rfl | simp only [go_sem]) ?_
  refine bsome h fun v5 hv5 h => ?_
  simp only [go_sem, seval]
  refine callX_ 10000 (w_method_Arity  hv5) (by first | rfl | simp only [go_sem]) (by first | rfl | simp only [go_sem]) ?_
  refine bsome h fun v6 hv6 h => ?_
  simp only [go_sem, seval]
  refine callX_ 10000 (w_method_Decode  hv6) (by first | rfl | simp only [go_sem]) (by first | rfl | simp only [go_sem]) ?_
  simp only [go_sem, seval]
  refine bsome h fun y7 hy7 h => ?_
  refine rgJ 91 10000 (.inl rfl) (fun w => w [(0, .bool y7)] [some [.str [102, 111, 111, 58], .sl (some none) [.agg [.int .u8 0, .str [53]]], .sl (some none) [.agg [.int .i64 (-1), .int .i64 1, .int .i64 1, .sl none [.int .u8 4, .int .u8 0, .int .u8 17]]]], some [.str v2.1.Sel, .sl none (List.map enc_method_Lit v2.1.Lits), .sl none (List.map enc_method_Part v2.1.Parts)], some [.str v6.1.Sel, .sl none (List.map enc_method_Lit v6.1.Lits), .sl none (List.map enc_method_Part v6.1.Parts)]]) (runX 10000 ?_) (fun Jy7 => ?_)
  · clear hy7
    simp only [go_sem, seval]
    refine ret_s (fun x => .bool x) h ?_
    first | rfl | simp only [go_sem, resAV, resAll, resOne, seval]
  · clear h
    have h := hy7
    simp only [go_sem, seval]
    refine grd_ (fun hb9 => ?_) (fun hb9 => ?_)
    · have h := ite_t hb9 h
      simp only [go_sem, seval]
      refine grd_ (fun hb10 => ?_) (fun hb10 => ?_)
      · have h := ite_t hb10 h
        refine bsome h fun v11 hv11 h => ?_
        simp only [go_sem, seval]
        refine callX_ 10000 (w_method_Same  hv11) (by first | rfl | simp only [go_sem]) (by first | rfl | simp only [go_sem]) ?_
        simp only [go_sem, seval]
        refine grd_ (fun hb12 => ?_) (fun hb12 => ?_)
        · have h := ite_t hb12 h
          simp only [go_sem, seval]
          refine grd_ (fun hb13 => ?_) (fun hb13 => ?_)
          · have h := ite_t hb13 h
            simp only [go_sem, seval]
            refine grd_ (fun hb14 => ?_) (fun hb14 => ?_)
            · have h := ite_t hb14 h
              simp only [go_sem, seval]
              refine grd_ (fun hb15 => ?_) (fun hb15 => ?_)
              · have h := ite_t hb15 h
                simp only [go_sem, seval]
                refine grd_ (fun hb16 => ?_) (fun hb16 => ?_)
                · have h := ite_t hb16 h
                  simp only [go_sem, seval]
                  refine grd_ (fun hb17 => ?_) (fun hb17 => ?_)
                  · have h := ite_t hb17 h
                    refine bsome h fun v18 hv18 h => ?_
                    simp only [go_sem, seval]
                    refine callX_ 10000 (w_law_num  hv18) (by first | rfl | simp only [go_sem]) (by first | rfl | simp only [go_sem]) ?_
                    simp only [go_sem, seval]
                    refine grd_ (fun hb19 => ?_) (fun hb19 => ?_)
                    · have h := ite_t hb19 h
                      refine bsome h fun v20 hv20 h => ?_
                      simp only [go_sem, seval]
                      refine callX_ 10000 (w_method_Check  hv20) (by first | rfl | simp only [go_sem]) (by first | rfl | simp only [go_sem]) ?_
                      simp only [go_sem, seval]
                      refine grd_ (fun hb21 => ?_) (fun hb21 => ?_)
                      · have h := ite_t hb21 h
                        refine bsome h fun v22 hv22 h => ?_
                        simp only [go_sem, seval]
                        refine callX_ 10000 (w_method_Check  hv22) (by first | rfl | simp only [go_sem]) (by first | rfl | simp only [go_sem]) ?_
                        refine bsome h fun v23 hv23 h => ?_
                        simp only [go_sem, seval]
                        refine callX_ 10000 (w_law_num  hv23) (by first | rfl | simp only [go_sem]) (by first | rfl | simp only [go_sem]) ?_
                        simp only [go_sem, seval]
                        obtain rfl := Option.some.inj h
                        exact atJ (wkn (Jy7) ⟨rfl, trivial⟩)
                      · have h := ite_f hb21 h
                        simp only [go_sem, seval]
                        obtain rfl := Option.some.inj h
                        exact atJ (wkn (Jy7) ⟨rfl, trivial⟩)
                    · have h := ite_f hb19 h
                      simp only [go_sem, seval]
                      obtain rfl := Option.some.inj h
                      exact atJ (wkn (Jy7) ⟨rfl, trivial⟩)
                  · have h := ite_f hb17 h
                    simp only [go_sem, seval]
                    obtain rfl := Option.some.inj h
                    exact atJ (wkn (Jy7) ⟨rfl, trivial⟩)
                · have h := ite_f hb16 h
                  simp only [go_sem, seval]
                  obtain rfl := Option.some.inj h
                  exact atJ (wkn (Jy7) ⟨rfl, trivial⟩)
              · have h := ite_f hb15 h
                simp only [go_sem, seval]
                obtain rfl := Option.some.inj h
                exact atJ (wkn (Jy7) ⟨rfl, trivial⟩)
            · have h := ite_f hb14 h
              simp only [go_sem, seval]
              obtain rfl := Option.some.inj h
              exact atJ (wkn (Jy7) ⟨rfl, trivial⟩)
          · have h := ite_f hb13 h
            simp only [go_sem, seval]
            obtain rfl := Option.some.inj h
            exact atJ (wkn (Jy7) ⟨rfl, trivial⟩)
        · have h := ite_f hb12 h
          simp only [go_sem, seval]
          obtain rfl := Option.some.inj h
          exact atJ (wkn (Jy7) ⟨rfl, trivial⟩)
      · have h := ite_f hb10 h
        simp only [go_sem, seval]
        obtain rfl := Option.some.inj h
        exact atJ (wkn (Jy7) ⟨rfl, trivial⟩)
    · have h := ite_f hb9 h
      simp only [go_sem, seval]
      obtain rfl := Option.some.inj h
      exact atJ (wkn (Jy7) ⟨rfl, trivial⟩)
theorem w_law09_bigMethod {m : ref09_Method}   {r : Bool} (h : law09_bigMethod m = some r) : ACall Tryz.prog 7 [enc_ref09_Method m] [] (.bool r) [] := by
  refine acallX 10000 hf7 ok7 (by first | rfl | simp only [go_sem]) meek_bool ?_
  dsimp only [Tryz.f7, nums, Option.getD, List.append]
  unfold law09_bigMethod at h
  simp only [go_sem, seval]
  refine rgJ 53 10000 (.inl rfl) (fun w => w [(1, .ptr 0 0), (21, .bool (((decide ((1100 : Int) < (m.Sel.length : Int))) || (decide ((70 : Int) < (m.Lits.length : Int)))) || (decide ((70 : Int) < (m.Parts.length : Int)))))] [some [.str m.Sel, .sl none (List.map enc_ref09_Lit m.Lits), .sl none (List.map enc_ref09_Part m.Parts)]]) (runX 10000 ?_) (fun Jg1 => ?_)
  · simp only [go_sem, seval]
    refine cnd_s 10000 h (fun hb h => ?_) (fun hb h => ?_)
    · simp only [go_sem, seval]
      refine ret_s (fun x => .bool x) h ?_
      first | rfl | simp only [go_sem, resAV, resAll, resOne, seval]
    · simp only [go_sem, seval]
      refine letK_s h fun K3 hK3 h => ?_
      refine blkJ 53 10000 (fun w => K3 () = some r → w [(1, .ptr 0 0)] [some [.str m.Sel, .sl none (List.map enc_ref09_Lit m.Lits), .sl none (List.map enc_ref09_Part m.Parts)]]) (fun  h => runX 10000 ?_) (fun JK3 => ?_)
      · subst hK3
        dsimp only at h
        simp only [go_sem, seval]
        refine letK_s h fun K11 hK11 h => ?_
        refine blkJ 53 10000 (fun w => K11 () = some r → w [] [some [.str m.Sel, .sl none (List.map enc_ref09_Lit m.Lits), .sl none (List.map enc_ref09_Part m.Parts)]]) (fun  h => runX 10000 ?_) (fun JK11 => ?_)
        · subst hK11
          dsimp only at h
          simp only [go_sem, seval]
          refine ret_s (fun x => .bool x) h ?_
          first | rfl | simp only [go_sem, resAV, resAll, resOne, seval]
        · clear hK11
          simp only [go_sem, seval]
          refine lpJ 53 fuel (fun q2 w => ∀ (v12 : Int), law09_bigMethod_l2 m K11 q2 v12 = some r → w [(1, .ptr 0 0), (4, .int .i64 v12)] [some [.str m.Sel, .sl none (List.map enc_ref09_Lit m.Lits), .sl none (List.map enc_ref09_Part m.Parts)]]) (fun w _ h => nomatch h) (fun q2 ih2 v12 h => ?_) (fun L2 => ?_)
          · unfold law09_bigMethod_l2 at h
            refine runL 10000 ?_
            simp only [go_sem, seval]
            refine cnd_s 10000 h (fun hb h => ?_) (fun hb h => ?_)
            · simp only [go_sem, seval]
              refine blk_ 10000 ?_
              refine lAt_s enc_ref09_Part none .i64 ⟨61, 4, true, 48⟩ (fun _ => rfl) h fun v15 _ b13 e14 h => ?_
              simp only [go_sem, seval, b13, e14]
              refine cnd_s 10000 h (fun hb h => ?_) (fun hb h => ?_)
              · simp only [go_sem, seval]
                refine ret_s (fun x => .bool x) h ?_
                first | rfl | simp only [go_sem, resAV, resAll, resOne, seval]
              · refine add_s h fun v17 _ e16 h => ?_
                simp only [go_sem, seval, e16]
                exact lp_back (ih2 v17 h) ⟨rfl, rfl, trivial⟩
            · simp only [go_sem, seval]
              exact atJ (wkn (JK11  h) trivial)
          · exact lp_back (L2 0 h) ⟨rfl, rfl, trivial⟩
      · clear hK3
        simp only [go_sem, seval]
        refine lpJ 53 fuel (fun q1 w => ∀ (v4 : Int), law09_bigMethod_l1 m K3 q1 v4 = some r → w [(1, .ptr 0 0), (3, .int .i64 v4)] [some [.str m.Sel, .sl none (List.map enc_ref09_Lit m.Lits), .sl none (List.map enc_ref09_Part m.Parts)]]) (fun w _ h => nomatch h) (fun q1 ih1 v4 h => ?_) (fun L1 => ?_)
        · unfold law09_bigMethod_l1 at h
          refine runL 10000 ?_
          simp only [go_sem, seval]
          refine cnd_s 10000 h (fun hb h => ?_) (fun hb h => ?_)
          · simp only [go_sem, seval]
            refine blk_ 10000 ?_
            refine lAt_s enc_ref09_Lit none .i64 ⟨59, 2, true, 24⟩ (fun _ => rfl) h fun v7 _ b5 e6 h => ?_
            simp only [go_sem, seval, b5, e6]
            refine cnd_s 10000 h (fun hb h => ?_) (fun hb h => ?_)
            · simp only [go_sem, seval]
              refine ret_s (fun x => .bool x) h ?_
              first | rfl | simp only [go_sem, resAV, resAll, resOne, seval]
            · refine add_s h fun v9 _ e8 h => ?_
              simp only [go_sem, seval, e8]
              exact lp_back (ih1 v9 h) ⟨rfl, rfl, trivial⟩
          · simp only [go_sem, seval]
            exact atJ (wkn (JK3  h) ⟨rfl, trivial⟩)
        · exact lp_back (L1 0 h) ⟨rfl, rfl, trivial⟩
  · simp only [go_sem, seval]
    refine grd_ (fun hb18 => ?_) (fun hb18 => ?_)
    · simp only [go_sem, seval]
      refine grd_ (fun hb19 => ?_) (fun hb19 => ?_)
      · simp only [go_sem, seval]
        exact atJ (wkn Jg1 ⟨rfl, congrArg AV.bool (by first | rfl | (rw [hb18, hb19]; rfl) | (simp [hb18, hb19]; done) | simp_all), trivial⟩)
      · simp only [go_sem, seval]
        exact atJ (wkn Jg1 ⟨rfl, congrArg AV.bool (by first | rfl | (rw [hb18, hb19]; rfl) | (simp [hb18, hb19]; done) | simp_all), trivial⟩)
    · simp only [go_sem, seval]
      exact atJ (wkn Jg1 ⟨rfl, congrArg AV.bool (by first | rfl | (rw [hb18]; rfl) | (simp [hb18]; done) | simp_all), trivial⟩)
theorem w_law09_giveMethod {m : ref09_Method}   {r : method_Method} (h : law09_giveMethod m = some r) : ACall Tryz.prog 10 [enc_ref09_Method m] [] (enc_method_Method r) [] := by
  refine acallX 10000 hf10 ok10 (by first | rfl | simp only [go_sem]) meek_agg ?_
  dsimp only [Tryz.f10, nums, Option.getD, List.append]
  unfold law09_giveMethod at h
  simp only [go_sem, seval]
  refine bsome h fun y1 hy1 h => ?_
  refine blkJ 56 10000 (fun w => w [(1, .ptr 0 0), (2, .ptr 1 0), (3, .ptr 2 0)] [some [.str m.Sel, .sl none (List.map enc_ref09_Lit m.Lits), .sl none (List.map enc_ref09_Part m.Parts)], some [.str [], .sl (some none) [], .sl (some none) []], some [.str m.Sel, .sl (some none) (List.map enc_method_Lit y1), .sl (some none) []]]) (runX 10000 ?_) (fun Jy1 => ?_)
  · clear hy1
    simp only [go_sem, seval]
    refine bsome h fun y22 hy22 h => ?_
    refine blkJ 56 10000 (fun w => w [(2, .ptr 1 0), (3, .ptr 2 0)] [some [.str m.Sel, .sl none (List.map enc_ref09_Lit m.Lits), .sl none (List.map enc_ref09_Part m.Parts)], some [.str [], .sl (some none) [], .sl (some none) []], some [.str m.Sel, .sl (some none) (List.map enc_method_Lit y1), .sl (some none) (List.map enc_method_Part y22)]]) (runX 10000 ?_) (fun Jy22 => ?_)
    · clear hy22
      simp only [go_sem, seval]
      refine ret_s (fun x => enc_method_Method x) h ?_
      first | rfl | simp only [go_sem, resAV, resAll, resOne, seval]
    · clear h
      have h := hy22
      simp only [go_sem, seval]
      refine lpJ 56 fuel (fun q2 w => ∀ (v36 : Int) (v37 : (List method_Part)), law09_giveMethod_l2 m q2 v36 v37 = some y22 → w [(1, .ptr 0 0), (2, .ptr 1 0), (3, .ptr 2 0), (5, .int .i64 v36)] [some [.str m.Sel, .sl none (List.map enc_ref09_Lit m.Lits), .sl none (List.map enc_ref09_Part m.Parts)], some [.str [], .sl (some none) [], .sl (some none) []], some [.str m.Sel, .sl (some none) (List.map enc_method_Lit y1), .sl (some none) (List.map enc_method_Part v37)]]) (fun w _ _ h => nomatch h) (fun q2 ih2 v36 v37 h => ?_) (fun L2 => ?_)
      · unfold law09_giveMethod_l2 at h
        refine runL 10000 ?_
        simp only [go_sem, seval]
        refine cnd_s 10000 h (fun hb h => ?_) (fun hb h => ?_)
        · simp only [go_sem, seval]
          refine blk_ 10000 ?_
          refine lAt_s enc_ref09_Part none .i64 ⟨61, 4, true, 48⟩ (fun _ => rfl) h fun v40 _ b38 e39 h => ?_
          simp only [go_sem, seval, b38, e39]
          refine rg_ 10000 (.inr ⟨[(3, 2), (6, 3), (39, 2), (41, 3), (43, 3), (45, 3), (48, 3), (54, 2)], by kernel_rfl, by kernel_rfl, by rfl⟩) ?_
          refine app_s (AV.int .u8) none ⟨5, 1, false, 1⟩ (fun _ => rfl) (by decide) rfl h fun v43 _ (b41 : appc ⟨5, 1, false, 1⟩ (.sl (some none) []) (.sl none (List.map (AV.int .u8) v40.Code))) (e42 : appv (.sl (some none) []) (.sl none (List.map (AV.int .u8) v40.Code)) = .sl (some none) (List.map (AV.int .u8) v43)) h => ?_
          refine app_s enc_method_Part (some none) ⟨63, 4, true, 48⟩ (fun _ => rfl) (by decide) rfl h fun v46 _ (b44 : appc ⟨63, 4, true, 48⟩ (.sl (some none) (List.map enc_method_Part v37)) (.sl (some none) [.agg [.int .i64 v40.Outer, .int .i64 v40.Args, .int .i64 v40.Temps, .sl none (List.map (AV.int .u8) v43)]])) (e45 : appv (.sl (some none) (List.map enc_method_Part v37)) (.sl (some none) [.agg [.int .i64 v40.Outer, .int .i64 v40.Args, .int .i64 v40.Temps, .sl none (List.map (AV.int .u8) v43)]]) = .sl (some none) (List.map enc_method_Part v46)) h => ?_
          refine add_s h fun v48 _ e47 h => ?_
          simp only [go_sem, seval, b41, e42, b44, e45, e47]
          exact lp_backH 3 (ih2 v48 v46 h) ⟨rfl, rfl, rfl, rfl, trivial⟩ rfl rfl rfl (by first | rfl | simp only [go_sem, ltF]) (by first | rfl | simp only [go_sem, allLt])
        · simp only [go_sem, seval]
          obtain rfl := Option.some.inj h
          exact atJ (wkn (Jy22) ⟨rfl, rfl, trivial⟩)
      · exact lp_back (L2 0 [] h) ⟨rfl, rfl, rfl, rfl, trivial⟩
  · clear h
    have h := hy1
    simp only [go_sem, seval]
    refine lpJ 56 fuel (fun q1 w => ∀ (v12 : Int) (v13 : (List method_Lit)), law09_giveMethod_l1 m q1 v12 v13 = some y1 → w [(1, .ptr 0 0), (2, .ptr 1 0), (3, .ptr 2 0), (4, .int .i64 v12)] [some [.str m.Sel, .sl none (List.map enc_ref09_Lit m.Lits), .sl none (List.map enc_ref09_Part m.Parts)], some [.str [], .sl (some none) [], .sl (some none) []], some [.str m.Sel, .sl (some none) (List.map enc_method_Lit v13), .sl (some none) []]]) (fun w _ _ h => nomatch h) (fun q1 ih1 v12 v13 h => ?_) (fun L1 => ?_)
    · unfold law09_giveMethod_l1 at h
      refine runL 10000 ?_
      simp only [go_sem, seval]
      refine cnd_s 10000 h (fun hb h => ?_) (fun hb h => ?_)
      · simp only [go_sem, seval]
        refine blk_ 10000 ?_
        simp only [go_sem, seval]
        refine rg_ 10000 (.inr ⟨[(1, 0), (3, 2), (17, 2), (19, 0), (26, 2)], by kernel_rfl, by kernel_rfl, by rfl⟩) ?_
        refine lAt_s enc_ref09_Lit none .i64 ⟨59, 2, true, 24⟩ (fun _ => rfl) h fun v16 _ b14 e15 h => ?_
        refine app_s enc_method_Lit (some none) ⟨62, 2, true, 24⟩ (fun _ => rfl) (by decide) rfl h fun v19 _ (b17 : appc ⟨62, 2, true, 24⟩ (.sl (some none) (List.map enc_method_Lit v13)) (.sl (some none) [.agg [.int .u8 v16.K, .str v16.S]])) (e18 : appv (.sl (some none) (List.map enc_method_Lit v13)) (.sl (some none) [.agg [.int .u8 v16.K, .str v16.S]]) = .sl (some none) (List.map enc_method_Lit v19)) h => ?_
        refine add_s h fun v21 _ e20 h => ?_
        simp only [go_sem, seval, b14, e15, b17, e18, e20]
        exact lp_back (ih1 v21 v19 h) ⟨rfl, rfl, rfl, rfl, trivial⟩
      · simp only [go_sem, seval]
        obtain rfl := Option.some.inj h
        exact atJ (wkn (Jy1) ⟨rfl, rfl, rfl, trivial⟩)
    · exact lp_back (L1 0 [] h) ⟨rfl, rfl, rfl, rfl, trivial⟩
theorem w_law09_MethodMore {m : ref09_Method} {of : St53} {more : St53}   {r : Bool} (h : law09_MethodMore m of more = some r) : ACall Tryz.prog 5 [enc_ref09_Method m, enc_St53 of, enc_St53 more] [] (.bool r) [] := by
  refine acallX 10000 hf5 ok5 (by first | rfl | simp only [go_sem]) meek_bool ?_
  dsimp only [Tryz.f5, nums, Option.getD, List.append]
  unfold law09_MethodMore at h
  refine bsome h fun v1 hv1 h => ?_
  simp only [go_sem, seval]
  refine callX_ 10000 (w_law09_bigMethod  hv1) (by first | rfl | simp only [go_sem]) (by first | rfl | simp only [go_sem]) ?_
  simp only [go_sem, seval]
  refine cnd_s 10000 h (fun hb h => ?_) (fun hb h => ?_)
  · refine bsome h fun v2 hv2 h => ?_
    simp only [go_sem, seval]
    refine callX_ 10000 (w_law09_sure  hv2) (by first | rfl | simp only [go_sem]) (by first | rfl | simp only [go_sem]) ?_
    simp only [go_sem, seval]
    refine ret_s (fun x => .bool x) h ?_
    first | rfl | simp only [go_sem, resAV, resAll, resOne, seval]
  · refine bsome h fun v3 hv3 h => ?_
    simp only [go_sem, seval]
    refine callX_ 10000 (w_law09_giveMethod  hv3) (by first | rfl | simp only [go_sem]) (by first | rfl | simp only [go_sem]) ?_
    simp only [go_sem, seval]
    refine rg_ 10000 (.inr ⟨[], by kernel_rfl, by kernel_rfl, by rfl⟩) ?_
    refine cvt_s (s := 5) (k := .u8) io3 h fun v5 _ e4 h => ?_
    refine cvt_s (s := 5) (k := .u8) io3 h fun v7 _ e6 h => ?_
    refine bsome h fun v8 hv8 h => ?_
    simp only [go_sem, seval, (show aadC 2 (.ptr 1 0) (.int .i64 0) from ⟨by decide, by decide⟩), (show aadV 1 (.ptr 1 0) (.int .i64 0) = .ptr 1 0 from rfl), e4, (show aadC 2 (.ptr 1 0) (.int .i64 1) from ⟨by decide, by decide⟩), (show aadV 1 (.ptr 1 0) (.int .i64 1) = .ptr 1 1 from rfl), e6]
    refine callX_ 10000 (w_method_Check  hv8) (by first | rfl | simp only [go_sem]) (by first | rfl | simp only [go_sem]) ?_
    simp only [go_sem, seval]
    refine cnd_s 10000 h (fun hb h => ?_) (fun hb h => ?_)
    · simp only [go_sem, seval]
      refine bsome h fun y9 hy9 h => ?_
      refine rgJ 55 10000 (.inl rfl) (fun w => w [(6, .bool y9)] [some [.str m.Sel, .sl none (List.map enc_ref09_Lit m.Lits), .sl none (List.map enc_ref09_Part m.Parts)], some [.int .u8 of.e0, .int .u8 of.e1], some [.int .u8 more.e0, .int .u8 more.e1], some [.str v3.Sel, .sl none (List.map enc_method_Lit v3.Lits), .sl none (List.map enc_method_Part v3.Parts)]]) (runX 10000 ?_) (fun Jy9 => ?_)
      · clear hy9
        simp only [go_sem, seval]
        refine ret_s (fun x => .bool x) h ?_
        first | rfl | simp only [go_sem, resAV, resAll, resOne, seval]
      · clear h
        have h := hy9
        refine bsome h fun v11 hv11 h => ?_
        simp only [go_sem, seval]
        refine callX_ 10000 (w_law_num  hv11) (by first | rfl | simp only [go_sem]) (by first | rfl | simp only [go_sem]) ?_
        simp only [go_sem, seval]
        refine grd_ (fun hb12 => ?_) (fun hb12 => ?_)
        · have h := ite_t hb12 h
          refine bsome h fun v13 hv13 h => ?_
          simp only [go_sem, seval]
          refine callX_ 10000 (w_law09_sure  hv13) (by first | rfl | simp only [go_sem]) (by first | rfl | simp only [go_sem]) ?_
          simp only [go_sem, seval]
          obtain rfl := Option.some.inj h
          exact atJ (wkn (Jy9) ⟨rfl, trivial⟩)
        · have h := ite_f hb12 h
          simp only [go_sem, seval]
          obtain rfl := Option.some.inj h
          exact atJ (wkn (Jy9) ⟨rfl, trivial⟩)
    · simp only [go_sem, seval]
      refine bsome h fun y14 hy14 h => ?_
      refine rgJ 55 10000 (.inl rfl) (fun w => w [(6, .bool y14)] [some [.str m.Sel, .sl none (List.map enc_ref09_Lit m.Lits), .sl none (List.map enc_ref09_Part m.Parts)], some [.int .u8 of.e0, .int .u8 of.e1], some [.int .u8 more.e0, .int .u8 more.e1], some [.str v3.Sel, .sl none (List.map enc_method_Lit v3.Lits), .sl none (List.map enc_method_Part v3.Parts)]]) (runX 10000 ?_) (fun Jy14 => ?_)
      · clear hy14
        simp only [go_sem, seval]
        refine ret_s (fun x => .bool x) h ?_
        first | rfl | simp only [go_sem, resAV, resAll, resOne, seval]
      · clear h
        have h := hy14
        refine cvt_s (s := 5) (k := .u8) io3 h fun v17 _ e16 h => ?_
        refine add_s h fun v19 _ e18 h => ?_
        refine cvt_s (s := 5) (k := .u8) io3 h fun v21 _ e20 h => ?_
        refine add_s h fun v23 _ e22 h => ?_
        refine bsome h fun v24 hv24 h => ?_
        simp only [go_sem, seval, (show aadC 2 (.ptr 2 0) (.int .i64 0) from ⟨by decide, by decide⟩), (show aadV 1 (.ptr 2 0) (.int .i64 0) = .ptr 2 0 from rfl), e16, e18, (show aadC 2 (.ptr 2 0) (.int .i64 1) from ⟨by decide, by decide⟩), (show aadV 1 (.ptr 2 0) (.int .i64 1) = .ptr 2 1 from rfl), e20, e22]
        refine callX_ 10000 (w_method_Check  hv24) (by first | rfl | simp only [go_sem]) (by first | rfl | simp only [go_sem]) ?_
        simp only [go_sem, seval]
        refine grd_ (fun hb25 => ?_) (fun hb25 => ?_)
        · have h := ite_t hb25 h
          refine bsome h fun v26 hv26 h => ?_
          simp only [go_sem, seval]
          refine callX_ 10000 (w_method_Same  hv26) (by first | rfl | simp only [go_sem]) (by first | rfl | simp only [go_sem]) ?_
          simp only [go_sem, seval]
          refine grd_ (fun hb27 => ?_) (fun hb27 => ?_)
          · have h := ite_t hb27 h
            refine bsome h fun v28 hv28 h => ?_
            simp only [go_sem, seval]
            refine callX_ 10000 (w_law09_sure  hv28) (by first | rfl | simp only [go_sem]) (by first | rfl | simp only [go_sem]) ?_
            simp only [go_sem, seval]
            obtain rfl := Option.some.inj h
            exact atJ (wkn (Jy14) ⟨rfl, trivial⟩)
          · have h := ite_f hb27 h
            simp only [go_sem, seval]
            obtain rfl := Option.some.inj h
            exact atJ (wkn (Jy14) ⟨rfl, trivial⟩)
        · have h := ite_f hb25 h
          simp only [go_sem, seval]
          obtain rfl := Option.some.inj h
          exact atJ (wkn (Jy14) ⟨rfl, trivial⟩)
end Go.Cq

