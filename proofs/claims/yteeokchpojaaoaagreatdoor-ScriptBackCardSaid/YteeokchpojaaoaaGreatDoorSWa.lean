import Derived.Test.YteeokchpojaaoaaGreatDoorSW1
set_option linter.unusedSectionVars false
set_option linter.unusedVariables false
set_option linter.unusedSimpArgs false
set_option linter.unusedVariables false
set_option linter.unusedSimpArgs false
set_option maxRecDepth 100000
set_option maxHeartbeats 4000000
set_option pp.maxSteps 400
namespace Go.Cq
open Go Go.Av Go.Proofs
variable [Lay] [SeatLay]
attribute [local irreducible] hold ex W Wr nd cndV rgO exitO grdO grdV grdG callX alcX stX nckX
theorem w_ref30_Line {c : ref30_Command}   {r : (Str × Int)} (h : ref30_Line c = some r) : ACall Tryz.prog 14 [enc_ref30_Command c] [] (.tup [.str r.1, .int .i64 r.2]) [] := by
  refine acallX 10000 hf14 ok14 (by first | rfl | simp only [go_sem]) meek_tup ?_
  dsimp only [Tryz.f14, nums, Option.getD, List.append]
  unfold ref30_Line at h
  refine bsome h fun v1 hv1 h => ?_
  simp only [go_sem, Nat.reduceAdd, Nat.reduceLT, Nat.reduceLeDiff, Nat.reduceEqDiff, Nat.reduceBEq, Nat.reduceBNe]
  refine callX_ 10000 (w_ref30_Form  hv1) (by first | rfl | simp only [go_sem]) (by first | rfl | simp only [go_sem]) ?_
  simp only [go_sem, Nat.reduceAdd, Nat.reduceLT, Nat.reduceLeDiff, Nat.reduceEqDiff, Nat.reduceBEq, Nat.reduceBNe]
  refine cnd_s 10000 h (fun hb h => ?_) (fun hb h => ?_)
  · skip
    simp only [go_sem, Nat.reduceAdd, Nat.reduceLT, Nat.reduceLeDiff, Nat.reduceEqDiff, Nat.reduceBEq, Nat.reduceBNe]
    refine ret_s (fun x => .tup [.str x.1, .int .i64 x.2]) h ?_
    first | rfl | simp only [go_sem, resAV, resAll, resOne]
  · skip
    simp only [go_sem, Nat.reduceAdd, Nat.reduceLT, Nat.reduceLeDiff, Nat.reduceEqDiff, Nat.reduceBEq, Nat.reduceBNe]
    refine letK_s h fun K3 hK3 h => ?_
    refine blkJ 184 10000 (fun w => ∀ (v106 : Str) (v107 : Int) (v108 : Int) (v109 : Bool) (v110 : Bool), K3 v106 v107 v108 v109 v110 = some r → w [(1, .ptr 0 0), (6, .str v106), (7, .int .i64 v107), (8, .int .i64 v108), (9, .bool v109), (10, .bool v110)] [some [.str c.Name, .sl none (List.map (AV.int .i64) c.N), .sl none (List.map enc_ref11_Val c.V), .str c.W, .str c.S]]) (fun v106 v107 v108 v109 v110 h => runX 10000 ?_) (fun JK3 => ?_)
    · subst hK3
      dsimp only at h
      simp only [go_sem, Nat.reduceAdd, Nat.reduceLT, Nat.reduceLeDiff, Nat.reduceEqDiff, Nat.reduceBEq, Nat.reduceBNe]
      refine bsome h fun y111 hy111 h => ?_
      refine rgJ 184 10000 (.inl rfl) (fun w => w [(6, .str v106), (179, .bool y111)] [some [.str c.Name, .sl none (List.map (AV.int .i64) c.N), .sl none (List.map enc_ref11_Val c.V), .str c.W, .str c.S]]) (runX 10000 ?_) (fun Jy111 => ?_)
      · clear hy111
        simp only [go_sem, Nat.reduceAdd, Nat.reduceLT, Nat.reduceLeDiff, Nat.reduceEqDiff, Nat.reduceBEq, Nat.reduceBNe]
        refine cnd_s 10000 h (fun hb h => ?_) (fun hb h => ?_)
        · skip
          simp only [go_sem, Nat.reduceAdd, Nat.reduceLT, Nat.reduceLeDiff, Nat.reduceEqDiff, Nat.reduceBEq, Nat.reduceBNe]
          refine ret_s (fun x => .tup [.str x.1, .int .i64 x.2]) h ?_
          first | rfl | simp only [go_sem, resAV, resAll, resOne]
        · skip
          simp only [go_sem, Nat.reduceAdd, Nat.reduceLT, Nat.reduceLeDiff, Nat.reduceEqDiff, Nat.reduceBEq, Nat.reduceBNe]
          refine cnd_s 10000 h (fun hb h => ?_) (fun hb h => ?_)
          · skip
            simp only [go_sem, Nat.reduceAdd, Nat.reduceLT, Nat.reduceLeDiff, Nat.reduceEqDiff, Nat.reduceBEq, Nat.reduceBNe]
            refine ret_s (fun x => .tup [.str x.1, .int .i64 x.2]) h ?_
            first | rfl | simp only [go_sem, resAV, resAll, resOne]
          · skip
            simp only [go_sem, Nat.reduceAdd, Nat.reduceLT, Nat.reduceLeDiff, Nat.reduceEqDiff, Nat.reduceBEq, Nat.reduceBNe]
            refine ret_s (fun x => .tup [.str x.1, .int .i64 x.2]) h ?_
            first | rfl | simp only [go_sem, resAV, resAll, resOne]
      · clear h
        have h := hy111
        simp only [go_sem, Nat.reduceAdd, Nat.reduceLT, Nat.reduceLeDiff, Nat.reduceEqDiff, Nat.reduceBEq, Nat.reduceBNe]
        refine grd_ (fun hb113 => ?_) (fun hb113 => ?_)
        · skip
          have h := ite_f hb113 h
          simp only [go_sem, Nat.reduceAdd, Nat.reduceLT, Nat.reduceLeDiff, Nat.reduceEqDiff, Nat.reduceBEq, Nat.reduceBNe]
          refine grd_ (fun hb114 => ?_) (fun hb114 => ?_)
          · skip
            have h := ite_f hb114 h
            simp only [go_sem, Nat.reduceAdd, Nat.reduceLT, Nat.reduceLeDiff, Nat.reduceEqDiff, Nat.reduceBEq, Nat.reduceBNe]
            refine grd_ (fun hb115 => ?_) (fun hb115 => ?_)
            · skip
              have h := ite_t hb115 h
              refine bsome h fun v116 hv116 h => ?_
              simp only [go_sem, Nat.reduceAdd, Nat.reduceLT, Nat.reduceLeDiff, Nat.reduceEqDiff, Nat.reduceBEq, Nat.reduceBNe]
              refine callX_ 10000 (w_ref30_Word  hv116) (by first | rfl | simp only [go_sem]) (by first | rfl | simp only [go_sem]) ?_
              simp only [go_sem, Nat.reduceAdd, Nat.reduceLT, Nat.reduceLeDiff, Nat.reduceEqDiff, Nat.reduceBEq, Nat.reduceBNe]
              refine grd_ (fun hb117 => ?_) (fun hb117 => ?_)
              · skip
                have h := ite_f hb117 h
                simp only [go_sem, Nat.reduceAdd, Nat.reduceLT, Nat.reduceLeDiff, Nat.reduceEqDiff, Nat.reduceBEq, Nat.reduceBNe]
                refine grd_ (fun hb118 => ?_) (fun hb118 => ?_)
                · skip
                  have h := ite_t hb118 h
                  simp only [go_sem, Nat.reduceAdd, Nat.reduceLT, Nat.reduceLeDiff, Nat.reduceEqDiff, Nat.reduceBEq, Nat.reduceBNe]
                  refine grd_ (fun hb119 => ?_) (fun hb119 => ?_)
                  · skip
                    have h := ite_f hb119 h
                    simp only [go_sem, Nat.reduceAdd, Nat.reduceLT, Nat.reduceLeDiff, Nat.reduceEqDiff, Nat.reduceBEq, Nat.reduceBNe]
                    refine grd_ (fun hb120 => ?_) (fun hb120 => ?_)
                    · skip
                      have h := ite_t hb120 h
                      refine bsome h fun v121 hv121 h => ?_
                      simp only [go_sem, Nat.reduceAdd, Nat.reduceLT, Nat.reduceLeDiff, Nat.reduceEqDiff, Nat.reduceBEq, Nat.reduceBNe]
                      refine callX_ 10000 (w_ref30_ended  hv121) (by first | rfl | simp only [go_sem]) (by first | rfl | simp only [go_sem]) ?_
                      simp only [go_sem, Nat.reduceAdd, Nat.reduceLT, Nat.reduceLeDiff, Nat.reduceEqDiff, Nat.reduceBEq, Nat.reduceBNe]
                      refine grd_ (fun hb122 => ?_) (fun hb122 => ?_)
                      · skip
                        have h := ite_f hb122 h
                        simp only [go_sem, Nat.reduceAdd, Nat.reduceLT, Nat.reduceLeDiff, Nat.reduceEqDiff, Nat.reduceBEq, Nat.reduceBNe]
                        refine grd_ (fun hb123 => ?_) (fun hb123 => ?_)
                        · skip
                          have h := ite_t hb123 h
                          simp only [go_sem, Nat.reduceAdd, Nat.reduceLT, Nat.reduceLeDiff, Nat.reduceEqDiff, Nat.reduceBEq, Nat.reduceBNe]
                          obtain rfl := Option.some.inj h
                          exact atJ (wkn (Jy111) ⟨rfl, rfl, trivial⟩)
                        · skip
                          have h := ite_f hb123 h
                          simp only [go_sem, Nat.reduceAdd, Nat.reduceLT, Nat.reduceLeDiff, Nat.reduceEqDiff, Nat.reduceBEq, Nat.reduceBNe]
                          obtain rfl := Option.some.inj h
                          exact atJ (wkn (Jy111) ⟨rfl, rfl, trivial⟩)
                      · skip
                        have h := ite_t hb122 h
                        simp only [go_sem, Nat.reduceAdd, Nat.reduceLT, Nat.reduceLeDiff, Nat.reduceEqDiff, Nat.reduceBEq, Nat.reduceBNe]
                        obtain rfl := Option.some.inj h
                        exact atJ (wkn (Jy111) ⟨rfl, rfl, trivial⟩)
                    · skip
                      have h := ite_f hb120 h
                      simp only [go_sem, Nat.reduceAdd, Nat.reduceLT, Nat.reduceLeDiff, Nat.reduceEqDiff, Nat.reduceBEq, Nat.reduceBNe]
                      refine grd_ (fun hb124 => ?_) (fun hb124 => ?_)
                      · skip
                        have h := ite_t hb124 h
                        simp only [go_sem, Nat.reduceAdd, Nat.reduceLT, Nat.reduceLeDiff, Nat.reduceEqDiff, Nat.reduceBEq, Nat.reduceBNe]
                        obtain rfl := Option.some.inj h
                        exact atJ (wkn (Jy111) ⟨rfl, rfl, trivial⟩)
                      · skip
                        have h := ite_f hb124 h
                        simp only [go_sem, Nat.reduceAdd, Nat.reduceLT, Nat.reduceLeDiff, Nat.reduceEqDiff, Nat.reduceBEq, Nat.reduceBNe]
                        obtain rfl := Option.some.inj h
                        exact atJ (wkn (Jy111) ⟨rfl, rfl, trivial⟩)
                  · skip
                    have h := ite_t hb119 h
                    simp only [go_sem, Nat.reduceAdd, Nat.reduceLT, Nat.reduceLeDiff, Nat.reduceEqDiff, Nat.reduceBEq, Nat.reduceBNe]
                    obtain rfl := Option.some.inj h
                    exact atJ (wkn (Jy111) ⟨rfl, rfl, trivial⟩)
                · skip
                  have h := ite_f hb118 h
                  simp only [go_sem, Nat.reduceAdd, Nat.reduceLT, Nat.reduceLeDiff, Nat.reduceEqDiff, Nat.reduceBEq, Nat.reduceBNe]
                  refine grd_ (fun hb125 => ?_) (fun hb125 => ?_)
                  · skip
                    have h := ite_t hb125 h
                    refine bsome h fun v126 hv126 h => ?_
                    simp only [go_sem, Nat.reduceAdd, Nat.reduceLT, Nat.reduceLeDiff, Nat.reduceEqDiff, Nat.reduceBEq, Nat.reduceBNe]
                    refine callX_ 10000 (w_ref30_ended  hv126) (by first | rfl | simp only [go_sem]) (by first | rfl | simp only [go_sem]) ?_
                    simp only [go_sem, Nat.reduceAdd, Nat.reduceLT, Nat.reduceLeDiff, Nat.reduceEqDiff, Nat.reduceBEq, Nat.reduceBNe]
                    refine grd_ (fun hb127 => ?_) (fun hb127 => ?_)
                    · skip
                      have h := ite_f hb127 h
                      simp only [go_sem, Nat.reduceAdd, Nat.reduceLT, Nat.reduceLeDiff, Nat.reduceEqDiff, Nat.reduceBEq, Nat.reduceBNe]
                      refine grd_ (fun hb128 => ?_) (fun hb128 => ?_)
                      · skip
                        have h := ite_t hb128 h
                        simp only [go_sem, Nat.reduceAdd, Nat.reduceLT, Nat.reduceLeDiff, Nat.reduceEqDiff, Nat.reduceBEq, Nat.reduceBNe]
                        obtain rfl := Option.some.inj h
                        exact atJ (wkn (Jy111) ⟨rfl, rfl, trivial⟩)
                      · skip
                        have h := ite_f hb128 h
                        simp only [go_sem, Nat.reduceAdd, Nat.reduceLT, Nat.reduceLeDiff, Nat.reduceEqDiff, Nat.reduceBEq, Nat.reduceBNe]
                        obtain rfl := Option.some.inj h
                        exact atJ (wkn (Jy111) ⟨rfl, rfl, trivial⟩)
                    · skip
                      have h := ite_t hb127 h
                      simp only [go_sem, Nat.reduceAdd, Nat.reduceLT, Nat.reduceLeDiff, Nat.reduceEqDiff, Nat.reduceBEq, Nat.reduceBNe]
                      obtain rfl := Option.some.inj h
                      exact atJ (wkn (Jy111) ⟨rfl, rfl, trivial⟩)
                  · skip
                    have h := ite_f hb125 h
                    simp only [go_sem, Nat.reduceAdd, Nat.reduceLT, Nat.reduceLeDiff, Nat.reduceEqDiff, Nat.reduceBEq, Nat.reduceBNe]
                    refine grd_ (fun hb129 => ?_) (fun hb129 => ?_)
                    · skip
                      have h := ite_t hb129 h
                      simp only [go_sem, Nat.reduceAdd, Nat.reduceLT, Nat.reduceLeDiff, Nat.reduceEqDiff, Nat.reduceBEq, Nat.reduceBNe]
                      obtain rfl := Option.some.inj h
                      exact atJ (wkn (Jy111) ⟨rfl, rfl, trivial⟩)
                    · skip
                      have h := ite_f hb129 h
                      simp only [go_sem, Nat.reduceAdd, Nat.reduceLT, Nat.reduceLeDiff, Nat.reduceEqDiff, Nat.reduceBEq, Nat.reduceBNe]
                      obtain rfl := Option.some.inj h
                      exact atJ (wkn (Jy111) ⟨rfl, rfl, trivial⟩)
              · skip
                have h := ite_t hb117 h
                simp only [go_sem, Nat.reduceAdd, Nat.reduceLT, Nat.reduceLeDiff, Nat.reduceEqDiff, Nat.reduceBEq, Nat.reduceBNe]
                obtain rfl := Option.some.inj h
                exact atJ (wkn (Jy111) ⟨rfl, rfl, trivial⟩)
            · skip
              have h := ite_f hb115 h
              simp only [go_sem, Nat.reduceAdd, Nat.reduceLT, Nat.reduceLeDiff, Nat.reduceEqDiff, Nat.reduceBEq, Nat.reduceBNe]
              refine grd_ (fun hb130 => ?_) (fun hb130 => ?_)
              · skip
                have h := ite_t hb130 h
                simp only [go_sem, Nat.reduceAdd, Nat.reduceLT, Nat.reduceLeDiff, Nat.reduceEqDiff, Nat.reduceBEq, Nat.reduceBNe]
                refine grd_ (fun hb131 => ?_) (fun hb131 => ?_)
                · skip
                  have h := ite_f hb131 h
                  simp only [go_sem, Nat.reduceAdd, Nat.reduceLT, Nat.reduceLeDiff, Nat.reduceEqDiff, Nat.reduceBEq, Nat.reduceBNe]
                  refine grd_ (fun hb132 => ?_) (fun hb132 => ?_)
                  · skip
                    have h := ite_t hb132 h
                    refine bsome h fun v133 hv133 h => ?_
                    simp only [go_sem, Nat.reduceAdd, Nat.reduceLT, Nat.reduceLeDiff, Nat.reduceEqDiff, Nat.reduceBEq, Nat.reduceBNe]
                    refine callX_ 10000 (w_ref30_ended  hv133) (by first | rfl | simp only [go_sem]) (by first | rfl | simp only [go_sem]) ?_
                    simp only [go_sem, Nat.reduceAdd, Nat.reduceLT, Nat.reduceLeDiff, Nat.reduceEqDiff, Nat.reduceBEq, Nat.reduceBNe]
                    refine grd_ (fun hb134 => ?_) (fun hb134 => ?_)
                    · skip
                      have h := ite_f hb134 h
                      simp only [go_sem, Nat.reduceAdd, Nat.reduceLT, Nat.reduceLeDiff, Nat.reduceEqDiff, Nat.reduceBEq, Nat.reduceBNe]
                      refine grd_ (fun hb135 => ?_) (fun hb135 => ?_)
                      · skip
                        have h := ite_t hb135 h
                        simp only [go_sem, Nat.reduceAdd, Nat.reduceLT, Nat.reduceLeDiff, Nat.reduceEqDiff, Nat.reduceBEq, Nat.reduceBNe]
                        obtain rfl := Option.some.inj h
                        exact atJ (wkn (Jy111) ⟨rfl, rfl, trivial⟩)
                      · skip
                        have h := ite_f hb135 h
                        simp only [go_sem, Nat.reduceAdd, Nat.reduceLT, Nat.reduceLeDiff, Nat.reduceEqDiff, Nat.reduceBEq, Nat.reduceBNe]
                        obtain rfl := Option.some.inj h
                        exact atJ (wkn (Jy111) ⟨rfl, rfl, trivial⟩)
                    · skip
                      have h := ite_t hb134 h
                      simp only [go_sem, Nat.reduceAdd, Nat.reduceLT, Nat.reduceLeDiff, Nat.reduceEqDiff, Nat.reduceBEq, Nat.reduceBNe]
                      obtain rfl := Option.some.inj h
                      exact atJ (wkn (Jy111) ⟨rfl, rfl, trivial⟩)
                  · skip
                    have h := ite_f hb132 h
                    simp only [go_sem, Nat.reduceAdd, Nat.reduceLT, Nat.reduceLeDiff, Nat.reduceEqDiff, Nat.reduceBEq, Nat.reduceBNe]
                    refine grd_ (fun hb136 => ?_) (fun hb136 => ?_)
                    · skip
                      have h := ite_t hb136 h
                      simp only [go_sem, Nat.reduceAdd, Nat.reduceLT, Nat.reduceLeDiff, Nat.reduceEqDiff, Nat.reduceBEq, Nat.reduceBNe]
                      obtain rfl := Option.some.inj h
                      exact atJ (wkn (Jy111) ⟨rfl, rfl, trivial⟩)
                    · skip
                      have h := ite_f hb136 h
                      simp only [go_sem, Nat.reduceAdd, Nat.reduceLT, Nat.reduceLeDiff, Nat.reduceEqDiff, Nat.reduceBEq, Nat.reduceBNe]
                      obtain rfl := Option.some.inj h
                      exact atJ (wkn (Jy111) ⟨rfl, rfl, trivial⟩)
                · skip
                  have h := ite_t hb131 h
                  simp only [go_sem, Nat.reduceAdd, Nat.reduceLT, Nat.reduceLeDiff, Nat.reduceEqDiff, Nat.reduceBEq, Nat.reduceBNe]
                  obtain rfl := Option.some.inj h
                  exact atJ (wkn (Jy111) ⟨rfl, rfl, trivial⟩)
              · skip
                have h := ite_f hb130 h
                simp only [go_sem, Nat.reduceAdd, Nat.reduceLT, Nat.reduceLeDiff, Nat.reduceEqDiff, Nat.reduceBEq, Nat.reduceBNe]
                refine grd_ (fun hb137 => ?_) (fun hb137 => ?_)
                · skip
                  have h := ite_t hb137 h
                  refine bsome h fun v138 hv138 h => ?_
                  simp only [go_sem, Nat.reduceAdd, Nat.reduceLT, Nat.reduceLeDiff, Nat.reduceEqDiff, Nat.reduceBEq, Nat.reduceBNe]
                  refine callX_ 10000 (w_ref30_ended  hv138) (by first | rfl | simp only [go_sem]) (by first | rfl | simp only [go_sem]) ?_
                  simp only [go_sem, Nat.reduceAdd, Nat.reduceLT, Nat.reduceLeDiff, Nat.reduceEqDiff, Nat.reduceBEq, Nat.reduceBNe]
                  refine grd_ (fun hb139 => ?_) (fun hb139 => ?_)
                  · skip
                    have h := ite_f hb139 h
                    simp only [go_sem, Nat.reduceAdd, Nat.reduceLT, Nat.reduceLeDiff, Nat.reduceEqDiff, Nat.reduceBEq, Nat.reduceBNe]
                    refine grd_ (fun hb140 => ?_) (fun hb140 => ?_)
                    · skip
                      have h := ite_t hb140 h
                      simp only [go_sem, Nat.reduceAdd, Nat.reduceLT, Nat.reduceLeDiff, Nat.reduceEqDiff, Nat.reduceBEq, Nat.reduceBNe]
                      obtain rfl := Option.some.inj h
                      exact atJ (wkn (Jy111) ⟨rfl, rfl, trivial⟩)
                    · skip
                      have h := ite_f hb140 h
                      simp only [go_sem, Nat.reduceAdd, Nat.reduceLT, Nat.reduceLeDiff, Nat.reduceEqDiff, Nat.reduceBEq, Nat.reduceBNe]
                      obtain rfl := Option.some.inj h
                      exact atJ (wkn (Jy111) ⟨rfl, rfl, trivial⟩)
                  · skip
                    have h := ite_t hb139 h
                    simp only [go_sem, Nat.reduceAdd, Nat.reduceLT, Nat.reduceLeDiff, Nat.reduceEqDiff, Nat.reduceBEq, Nat.reduceBNe]
                    obtain rfl := Option.some.inj h
                    exact atJ (wkn (Jy111) ⟨rfl, rfl, trivial⟩)
                · skip
                  have h := ite_f hb137 h
                  simp only [go_sem, Nat.reduceAdd, Nat.reduceLT, Nat.reduceLeDiff, Nat.reduceEqDiff, Nat.reduceBEq, Nat.reduceBNe]
                  refine grd_ (fun hb141 => ?_) (fun hb141 => ?_)
                  · skip
                    have h := ite_t hb141 h
                    simp only [go_sem, Nat.reduceAdd, Nat.reduceLT, Nat.reduceLeDiff, Nat.reduceEqDiff, Nat.reduceBEq, Nat.reduceBNe]
                    obtain rfl := Option.some.inj h
                    exact atJ (wkn (Jy111) ⟨rfl, rfl, trivial⟩)
                  · skip
                    have h := ite_f hb141 h
                    simp only [go_sem, Nat.reduceAdd, Nat.reduceLT, Nat.reduceLeDiff, Nat.reduceEqDiff, Nat.reduceBEq, Nat.reduceBNe]
                    obtain rfl := Option.some.inj h
                    exact atJ (wkn (Jy111) ⟨rfl, rfl, trivial⟩)
          · skip
            have h := ite_t hb114 h
            simp only [go_sem, Nat.reduceAdd, Nat.reduceLT, Nat.reduceLeDiff, Nat.reduceEqDiff, Nat.reduceBEq, Nat.reduceBNe]
            obtain rfl := Option.some.inj h
            exact atJ (wkn (Jy111) ⟨rfl, rfl, trivial⟩)
        · skip
          have h := ite_t hb113 h
          simp only [go_sem, Nat.reduceAdd, Nat.reduceLT, Nat.reduceLeDiff, Nat.reduceEqDiff, Nat.reduceBEq, Nat.reduceBNe]
          obtain rfl := Option.some.inj h
          exact atJ (wkn (Jy111) ⟨rfl, rfl, trivial⟩)
    · clear hK3
      simp only [go_sem, Nat.reduceAdd, Nat.reduceLT, Nat.reduceLeDiff, Nat.reduceEqDiff, Nat.reduceBEq, Nat.reduceBNe]
      refine lpJ 184 fuel (fun q1 w => ∀ (v4 : Str) (v5 : Int) (v6 : Int) (v7 : Bool) (v8 : Bool) (v9 : Int), ref30_Line_l1 c v1 K3 q1 v4 v5 v6 v7 v8 v9 = some r → w [(1, .ptr 0 0), (4, .str v1.1), (6, .str v4), (7, .int .i64 v5), (8, .int .i64 v6), (9, .bool v7), (10, .bool v8), (11, .int .i64 v9)] [some [.str c.Name, .sl none (List.map (AV.int .i64) c.N), .sl none (List.map enc_ref11_Val c.V), .str c.W, .str c.S]]) (fun w _ _ _ _ _ _ h => nomatch h) (fun q1 ih1 v4 v5 v6 v7 v8 v9 h => ?_) (fun L1 => ?_)
      · unfold ref30_Line_l1 at h
        refine runL 10000 ?_
        simp only [go_sem, Nat.reduceAdd, Nat.reduceLT, Nat.reduceLeDiff, Nat.reduceEqDiff, Nat.reduceBEq, Nat.reduceBNe]
        refine cnd_s 10000 h (fun hb h => ?_) (fun hb h => ?_)
        · skip
          simp only [go_sem, Nat.reduceAdd, Nat.reduceLT, Nat.reduceLeDiff, Nat.reduceEqDiff, Nat.reduceBEq, Nat.reduceBNe]
          refine blk_ 10000 ?_
          refine sIdx_s .i64 h fun v12 _ b10 e11 h => ?_
          simp only [go_sem, Nat.reduceAdd, Nat.reduceLT, Nat.reduceLeDiff, Nat.reduceEqDiff, Nat.reduceBEq, Nat.reduceBNe, b10, e11]
          refine blk_ 10000 ?_
          simp only [go_sem, Nat.reduceAdd, Nat.reduceLT, Nat.reduceLeDiff, Nat.reduceEqDiff, Nat.reduceBEq, Nat.reduceBNe]
          refine letK_s h fun K14 hK14 h => ?_
          refine cndJ 184 10000 (fun w => ∀ (v99 : Str) (v100 : Int) (v101 : Int) (v102 : Bool) (v103 : Bool), K14 v99 v100 v101 v102 v103 = some r → w [(1, .ptr 0 0), (4, .str v1.1), (6, .str v99), (7, .int .i64 v100), (8, .int .i64 v101), (9, .bool v102), (10, .bool v103), (11, .int .i64 v9)] [some [.str c.Name, .sl none (List.map (AV.int .i64) c.N), .sl none (List.map enc_ref11_Val c.V), .str c.W, .str c.S]]) (fun v99 v100 v101 v102 v103 h => runX 10000 ?_) (fun JK14 => ?_)
          · subst hK14
            dsimp only at h
            refine add_s h fun v105 _ e104 h => ?_
            simp only [go_sem, Nat.reduceAdd, Nat.reduceLT, Nat.reduceLeDiff, Nat.reduceEqDiff, Nat.reduceBEq, Nat.reduceBNe, e104]
            exact lp_back (ih1 v99 v100 v101 v102 v103 v105 h) ⟨rfl, rfl, rfl, rfl, rfl, rfl, rfl, rfl, trivial⟩
          · clear hK14
            refine cnd_s 10000 h (fun hb h => ?_) (fun hb h => ?_)
            · skip
              refine cat_s h fun v17 _ (b15 : 1 + c.W.length ≤ maxB) e16 h => ?_
              refine cat_s h fun v20 _ (b18 : v4.length + v17.length ≤ maxB) e19 h => ?_
              simp only [go_sem, Nat.reduceAdd, Nat.reduceLT, Nat.reduceLeDiff, Nat.reduceEqDiff, Nat.reduceBEq, Nat.reduceBNe, b15, e16, b18, e19]
              exact atJ (wkn (JK14 v20 v5 v6 true v8 h) ⟨rfl, rfl, rfl, rfl, rfl, rfl, rfl, rfl, trivial⟩)
            · skip
              simp only [go_sem, Nat.reduceAdd, Nat.reduceLT, Nat.reduceLeDiff, Nat.reduceEqDiff, Nat.reduceBEq, Nat.reduceBNe]
              refine letK_s h fun K22 hK22 h => ?_
              refine cndJ 184 10000 (fun w => ∀ (v95 : Str) (v96 : Int) (v97 : Int) (v98 : Bool), K22 v95 v96 v97 v98 = some r → w [(1, .ptr 0 0), (4, .str v1.1), (6, .str v95), (7, .int .i64 v96), (8, .int .i64 v97), (9, .bool v7), (10, .bool v98), (11, .int .i64 v9)] [some [.str c.Name, .sl none (List.map (AV.int .i64) c.N), .sl none (List.map enc_ref11_Val c.V), .str c.W, .str c.S]]) (fun v95 v96 v97 v98 h => runX 10000 ?_) (fun JK22 => ?_)
              · subst hK22
                dsimp only at h
                simp only [go_sem, Nat.reduceAdd, Nat.reduceLT, Nat.reduceLeDiff, Nat.reduceEqDiff, Nat.reduceBEq, Nat.reduceBNe]
                exact atJ (wkn (JK14 v95 v96 v97 v7 v98 h) ⟨rfl, rfl, rfl, rfl, rfl, rfl, rfl, rfl, trivial⟩)
              · clear hK22
                refine cnd_s 10000 h (fun hb h => ?_) (fun hb h => ?_)
                · skip
                  refine cat_s h fun v25 _ (b23 : 1 + c.S.length ≤ maxB) e24 h => ?_
                  refine cat_s h fun v28 _ (b26 : v4.length + v25.length ≤ maxB) e27 h => ?_
                  simp only [go_sem, Nat.reduceAdd, Nat.reduceLT, Nat.reduceLeDiff, Nat.reduceEqDiff, Nat.reduceBEq, Nat.reduceBNe, b23, e24, b26, e27]
                  exact atJ (wkn (JK22 v28 v5 v6 true h) ⟨rfl, rfl, rfl, rfl, rfl, rfl, rfl, rfl, trivial⟩)
                · skip
                  simp only [go_sem, Nat.reduceAdd, Nat.reduceLT, Nat.reduceLeDiff, Nat.reduceEqDiff, Nat.reduceBEq, Nat.reduceBNe]
                  refine bsome h fun y29 hy29 h => ?_
                  refine cndJ 184 10000 (fun w => w [(1, .ptr 0 0), (4, .str v1.1), (6, .str v4), (7, .int .i64 v5), (8, .int .i64 v6), (9, .bool v7), (10, .bool v8), (11, .int .i64 v9), (12, .int .u8 v12), (91, .bool y29)] [some [.str c.Name, .sl none (List.map (AV.int .i64) c.N), .sl none (List.map enc_ref11_Val c.V), .str c.W, .str c.S]]) (runX 10000 ?_) (fun Jy29 => ?_)
                  · clear hy29
                    simp only [go_sem, Nat.reduceAdd, Nat.reduceLT, Nat.reduceLeDiff, Nat.reduceEqDiff, Nat.reduceBEq, Nat.reduceBNe]
                    refine letK_s h fun K32 hK32 h => ?_
                    refine cndJ 184 10000 (fun w => ∀ (v92 : Str) (v93 : Int) (v94 : Int), K32 v92 v93 v94 = some r → w [(1, .ptr 0 0), (4, .str v1.1), (6, .str v92), (7, .int .i64 v93), (8, .int .i64 v94), (9, .bool v7), (10, .bool v8), (11, .int .i64 v9)] [some [.str c.Name, .sl none (List.map (AV.int .i64) c.N), .sl none (List.map enc_ref11_Val c.V), .str c.W, .str c.S]]) (fun v92 v93 v94 h => runX 10000 ?_) (fun JK32 => ?_)
                    · subst hK32
                      dsimp only at h
                      simp only [go_sem, Nat.reduceAdd, Nat.reduceLT, Nat.reduceLeDiff, Nat.reduceEqDiff, Nat.reduceBEq, Nat.reduceBNe]
                      exact atJ (wkn (JK22 v92 v93 v94 v8 h) ⟨rfl, rfl, rfl, rfl, rfl, rfl, rfl, rfl, trivial⟩)
                    · clear hK32
                      refine cnd_s 10000 h (fun hb h => ?_) (fun hb h => ?_)
                      · skip
                        simp only [go_sem, Nat.reduceAdd, Nat.reduceLT, Nat.reduceLeDiff, Nat.reduceEqDiff, Nat.reduceBEq, Nat.reduceBNe]
                        refine bsome h fun y33 hy33 h => ?_
                        refine blkJ 184 10000 (fun w => w [(1, .ptr 0 0), (4, .str v1.1), (6, .str y33.1), (7, .int .i64 y33.2), (8, .int .i64 v6), (9, .bool v7), (10, .bool v8), (11, .int .i64 v9), (12, .int .u8 v12)] [some [.str c.Name, .sl none (List.map (AV.int .i64) c.N), .sl none (List.map enc_ref11_Val c.V), .str c.W, .str c.S]]) (runX 10000 ?_) (fun Jy33 => ?_)
                        · clear hy33
                          simp only [go_sem, Nat.reduceAdd, Nat.reduceLT, Nat.reduceLeDiff, Nat.reduceEqDiff, Nat.reduceBEq, Nat.reduceBNe]
                          refine bsome h fun y55 hy55 h => ?_
                          refine rgJ 184 10000 (.inl rfl) (fun w => w [(1, .ptr 0 0), (4, .str v1.1), (6, .str y33.1), (7, .int .i64 y33.2), (8, .int .i64 v6), (9, .bool v7), (10, .bool v8), (11, .int .i64 v9), (132, .bool y55)] [some [.str c.Name, .sl none (List.map (AV.int .i64) c.N), .sl none (List.map enc_ref11_Val c.V), .str c.W, .str c.S]]) (runX 10000 ?_) (fun Jy55 => ?_)
                          · clear hy55
                            simp only [go_sem, Nat.reduceAdd, Nat.reduceLT, Nat.reduceLeDiff, Nat.reduceEqDiff, Nat.reduceBEq, Nat.reduceBNe]
                            refine cnd_s 10000 h (fun hb h => ?_) (fun hb h => ?_)
                            · skip
                              simp only [go_sem, Nat.reduceAdd, Nat.reduceLT, Nat.reduceLeDiff, Nat.reduceEqDiff, Nat.reduceBEq, Nat.reduceBNe]
                              refine ret_s (fun x => .tup [.str x.1, .int .i64 x.2]) h ?_
                              first | rfl | simp only [go_sem, resAV, resAll, resOne]
                            · skip
                              simp only [go_sem, Nat.reduceAdd, Nat.reduceLT, Nat.reduceLeDiff, Nat.reduceEqDiff, Nat.reduceBEq, Nat.reduceBNe]
                              exact atJ (wkn (JK32 y33.1 y33.2 v6 h) ⟨rfl, rfl, rfl, rfl, rfl, rfl, rfl, rfl, trivial⟩)
                          · clear h
                            have h := hy55
                            simp only [go_sem, Nat.reduceAdd, Nat.reduceLT, Nat.reduceLeDiff, Nat.reduceEqDiff, Nat.reduceBEq, Nat.reduceBNe]
                            refine grd_ (fun hb57 => ?_) (fun hb57 => ?_)
                            · skip
                              have h := ite_t hb57 h
                              refine add_s h fun v59 _ e58 h => ?_
                              refine subS_s none (some (.int .i64 v9)) rfl rfl h fun v62 _ b60 e61 h => ?_
                              refine bsome h fun v63 hv63 h => ?_
                              simp only [go_sem, Nat.reduceAdd, Nat.reduceLT, Nat.reduceLeDiff, Nat.reduceEqDiff, Nat.reduceBEq, Nat.reduceBNe, e58, b60, e61]
                              refine callX_ 10000 (w_ref30_wide  hv63) (by first | rfl | simp only [go_sem]) (by first | rfl | simp only [go_sem]) ?_
                              refine sub_s h fun v65 _ e64 h => ?_
                              simp only [go_sem, Nat.reduceAdd, Nat.reduceLT, Nat.reduceLeDiff, Nat.reduceEqDiff, Nat.reduceBEq, Nat.reduceBNe, e64]
                              obtain rfl := Option.some.inj h
                              exact atJ (wkn (Jy55) ⟨rfl, rfl, rfl, rfl, rfl, rfl, rfl, rfl, rfl, trivial⟩)
                            · skip
                              have h := ite_f hb57 h
                              simp only [go_sem, Nat.reduceAdd, Nat.reduceLT, Nat.reduceLeDiff, Nat.reduceEqDiff, Nat.reduceBEq, Nat.reduceBNe]
                              obtain rfl := Option.some.inj h
                              exact atJ (wkn (Jy55) ⟨rfl, rfl, rfl, rfl, rfl, rfl, rfl, rfl, rfl, trivial⟩)
                        · clear h
                          have h := hy33
                          simp only [go_sem, Nat.reduceAdd, Nat.reduceLT, Nat.reduceLeDiff, Nat.reduceEqDiff, Nat.reduceBEq, Nat.reduceBNe]
                          refine lpJ 184 fuel (fun q2 w => ∀ (v35 : Str) (v36 : Int) (v37 : Int), ref30_Line_l2 c v12 q2 v35 v36 v37 = some y33 → w [(1, .ptr 0 0), (4, .str v1.1), (6, .str v35), (7, .int .i64 v36), (8, .int .i64 v6), (9, .bool v7), (10, .bool v8), (11, .int .i64 v9), (12, .int .u8 v12), (13, .int .i64 v37)] [some [.str c.Name, .sl none (List.map (AV.int .i64) c.N), .sl none (List.map enc_ref11_Val c.V), .str c.W, .str c.S]]) (fun w _ _ _ h => nomatch h) (fun q2 ih2 v35 v36 v37 h => ?_) (fun L2 => ?_)
                          · unfold ref30_Line_l2 at h
                            refine runL 10000 ?_
                            simp only [go_sem, Nat.reduceAdd, Nat.reduceLT, Nat.reduceLeDiff, Nat.reduceEqDiff, Nat.reduceBEq, Nat.reduceBNe]
                            refine rgJ 184 10000 (.inl rfl) (fun w => w [(1, .ptr 0 0), (4, .str v1.1), (6, .str v35), (7, .int .i64 v36), (8, .int .i64 v6), (9, .bool v7), (10, .bool v8), (11, .int .i64 v9), (12, .int .u8 v12), (13, .int .i64 v37), (106, .bool ((decide (v36 < (c.N.length : Int))) && ((decide (v12 = 42)) || (decide (v37 < 1)))))] [some [.str c.Name, .sl none (List.map (AV.int .i64) c.N), .sl none (List.map enc_ref11_Val c.V), .str c.W, .str c.S]]) (runX 10000 ?_) (fun Jg38 => ?_)
                            · skip
                              simp only [go_sem, Nat.reduceAdd, Nat.reduceLT, Nat.reduceLeDiff, Nat.reduceEqDiff, Nat.reduceBEq, Nat.reduceBNe]
                              refine cnd_s 10000 h (fun hb h => ?_) (fun hb h => ?_)
                              · skip
                                simp only [go_sem, Nat.reduceAdd, Nat.reduceLT, Nat.reduceLeDiff, Nat.reduceEqDiff, Nat.reduceBEq, Nat.reduceBNe]
                                refine blk_ 10000 ?_
                                refine lAt_s (AV.int .i64) none .i64 ⟨3, 1, false, 8⟩ (fun _ => rfl) h fun v41 _ b39 e40 h => ?_
                                refine bsome h fun v42 hv42 h => ?_
                                simp only [go_sem, Nat.reduceAdd, Nat.reduceLT, Nat.reduceLeDiff, Nat.reduceEqDiff, Nat.reduceBEq, Nat.reduceBNe, b39, e40]
                                refine callX_ 10000 (w_ref30_Digits  hv42) (by first | rfl | simp only [go_sem]) (by first | rfl | simp only [go_sem]) ?_
                                refine cat_s h fun v45 _ (b43 : 1 + v42.length ≤ maxB) e44 h => ?_
                                refine cat_s h fun v48 _ (b46 : v35.length + v45.length ≤ maxB) e47 h => ?_
                                refine add_s h fun v50 _ e49 h => ?_
                                refine add_s h fun v52 _ e51 h => ?_
                                simp only [go_sem, Nat.reduceAdd, Nat.reduceLT, Nat.reduceLeDiff, Nat.reduceEqDiff, Nat.reduceBEq, Nat.reduceBNe, b43, e44, b46, e47, e49, e51]
                                exact lp_back (ih2 v48 v50 v52 h) ⟨rfl, rfl, rfl, rfl, rfl, rfl, rfl, rfl, rfl, rfl, trivial⟩
                              · skip
                                simp only [go_sem, Nat.reduceAdd, Nat.reduceLT, Nat.reduceLeDiff, Nat.reduceEqDiff, Nat.reduceBEq, Nat.reduceBNe]
                                obtain rfl := Option.some.inj h
                                exact atJ (wkn (Jy33) ⟨rfl, rfl, rfl, rfl, rfl, rfl, rfl, rfl, rfl, trivial⟩)
                            · skip
                              simp only [go_sem, Nat.reduceAdd, Nat.reduceLT, Nat.reduceLeDiff, Nat.reduceEqDiff, Nat.reduceBEq, Nat.reduceBNe]
                              refine grd_ (fun hb53 => ?_) (fun hb53 => ?_)
                              · skip
                                simp only [go_sem, Nat.reduceAdd, Nat.reduceLT, Nat.reduceLeDiff, Nat.reduceEqDiff, Nat.reduceBEq, Nat.reduceBNe]
                                refine grd_ (fun hb54 => ?_) (fun hb54 => ?_)
                                · skip
                                  simp only [go_sem, Nat.reduceAdd, Nat.reduceLT, Nat.reduceLeDiff, Nat.reduceEqDiff, Nat.reduceBEq, Nat.reduceBNe]
                                  exact atJ (wkn Jg38 ⟨rfl, rfl, rfl, rfl, rfl, rfl, rfl, rfl, rfl, rfl, congrArg AV.bool (by first | rfl | (rw [hb53, hb54]; rfl) | (simp [hb53, hb54]; done) | simp_all), trivial⟩)
                                · skip
                                  simp only [go_sem, Nat.reduceAdd, Nat.reduceLT, Nat.reduceLeDiff, Nat.reduceEqDiff, Nat.reduceBEq, Nat.reduceBNe]
                                  exact atJ (wkn Jg38 ⟨rfl, rfl, rfl, rfl, rfl, rfl, rfl, rfl, rfl, rfl, congrArg AV.bool (by first | rfl | (rw [hb53, hb54]; rfl) | (simp [hb53, hb54]; done) | simp_all), trivial⟩)
                              · skip
                                simp only [go_sem, Nat.reduceAdd, Nat.reduceLT, Nat.reduceLeDiff, Nat.reduceEqDiff, Nat.reduceBEq, Nat.reduceBNe]
                                exact atJ (wkn Jg38 ⟨rfl, rfl, rfl, rfl, rfl, rfl, rfl, rfl, rfl, rfl, congrArg AV.bool (by first | rfl | (rw [hb53]; rfl) | (simp [hb53]; done) | simp_all), trivial⟩)
                          · exact lp_back (L2 v4 v5 0 h) ⟨rfl, rfl, rfl, rfl, rfl, rfl, rfl, rfl, rfl, rfl, trivial⟩
                      · skip
                        simp only [go_sem, Nat.reduceAdd, Nat.reduceLT, Nat.reduceLeDiff, Nat.reduceEqDiff, Nat.reduceBEq, Nat.reduceBNe]
                        refine rgJ 184 10000 (.inl rfl) (fun w => w [(1, .ptr 0 0), (4, .str v1.1), (6, .str v4), (7, .int .i64 v5), (8, .int .i64 v6), (9, .bool v7), (10, .bool v8), (11, .int .i64 v9), (12, .int .u8 v12), (44, .bool ((decide (v12 = 118)) && (decide ((c.V.length : Int) = 0))))] [some [.str c.Name, .sl none (List.map (AV.int .i64) c.N), .sl none (List.map enc_ref11_Val c.V), .str c.W, .str c.S]]) (runX 10000 ?_) (fun Jg66 => ?_)
                        · skip
                          simp only [go_sem, Nat.reduceAdd, Nat.reduceLT, Nat.reduceLeDiff, Nat.reduceEqDiff, Nat.reduceBEq, Nat.reduceBNe]
                          refine cnd_s 10000 h (fun hb h => ?_) (fun hb h => ?_)
                          · skip
                            simp only [go_sem, Nat.reduceAdd, Nat.reduceLT, Nat.reduceLeDiff, Nat.reduceEqDiff, Nat.reduceBEq, Nat.reduceBNe]
                            refine ret_s (fun x => .tup [.str x.1, .int .i64 x.2]) h ?_
                            first | rfl | simp only [go_sem, resAV, resAll, resOne]
                          · skip
                            simp only [go_sem, Nat.reduceAdd, Nat.reduceLT, Nat.reduceLeDiff, Nat.reduceEqDiff, Nat.reduceBEq, Nat.reduceBNe]
                            refine letK_s h fun K68 hK68 h => ?_
                            refine blkJ 184 10000 (fun w => ∀ (v89 : Str) (v90 : Int), K68 v89 v90 = some r → w [(1, .ptr 0 0), (4, .str v1.1), (6, .str v89), (7, .int .i64 v5), (8, .int .i64 v90), (9, .bool v7), (10, .bool v8), (11, .int .i64 v9)] [some [.str c.Name, .sl none (List.map (AV.int .i64) c.N), .sl none (List.map enc_ref11_Val c.V), .str c.W, .str c.S]]) (fun v89 v90 h => runX 10000 ?_) (fun JK68 => ?_)
                            · subst hK68
                              dsimp only at h
                              simp only [go_sem, Nat.reduceAdd, Nat.reduceLT, Nat.reduceLeDiff, Nat.reduceEqDiff, Nat.reduceBEq, Nat.reduceBNe]
                              exact atJ (wkn (JK32 v89 v5 v90 h) ⟨rfl, rfl, rfl, rfl, rfl, rfl, rfl, rfl, trivial⟩)
                            · clear hK68
                              simp only [go_sem, Nat.reduceAdd, Nat.reduceLT, Nat.reduceLeDiff, Nat.reduceEqDiff, Nat.reduceBEq, Nat.reduceBNe]
                              refine lpJ 184 fuel (fun q3 w => ∀ (v69 : Str) (v70 : Int) (v71 : Int), ref30_Line_l3 c v12 K68 q3 v69 v70 v71 = some r → w [(1, .ptr 0 0), (4, .str v1.1), (6, .str v69), (7, .int .i64 v5), (8, .int .i64 v70), (9, .bool v7), (10, .bool v8), (11, .int .i64 v9), (12, .int .u8 v12), (14, .int .i64 v71)] [some [.str c.Name, .sl none (List.map (AV.int .i64) c.N), .sl none (List.map enc_ref11_Val c.V), .str c.W, .str c.S]]) (fun w _ _ _ h => nomatch h) (fun q3 ih3 v69 v70 v71 h => ?_) (fun L3 => ?_)
                              · unfold ref30_Line_l3 at h
                                refine runL 10000 ?_
                                simp only [go_sem, Nat.reduceAdd, Nat.reduceLT, Nat.reduceLeDiff, Nat.reduceEqDiff, Nat.reduceBEq, Nat.reduceBNe]
                                refine rgJ 184 10000 (.inl rfl) (fun w => w [(1, .ptr 0 0), (4, .str v1.1), (6, .str v69), (7, .int .i64 v5), (8, .int .i64 v70), (9, .bool v7), (10, .bool v8), (11, .int .i64 v9), (12, .int .u8 v12), (14, .int .i64 v71), (57, .bool ((decide (v70 < (c.V.length : Int))) && ((decide (v12 = 86)) || (decide (v71 < 1)))))] [some [.str c.Name, .sl none (List.map (AV.int .i64) c.N), .sl none (List.map enc_ref11_Val c.V), .str c.W, .str c.S]]) (runX 10000 ?_) (fun Jg72 => ?_)
                                · skip
                                  simp only [go_sem, Nat.reduceAdd, Nat.reduceLT, Nat.reduceLeDiff, Nat.reduceEqDiff, Nat.reduceBEq, Nat.reduceBNe]
                                  refine cnd_s 10000 h (fun hb h => ?_) (fun hb h => ?_)
                                  · skip
                                    simp only [go_sem, Nat.reduceAdd, Nat.reduceLT, Nat.reduceLeDiff, Nat.reduceEqDiff, Nat.reduceBEq, Nat.reduceBNe]
                                    refine blk_ 10000 ?_
                                    refine lAt_s enc_ref11_Val none .i64 ⟨43, 3, true, 24⟩ (fun _ => rfl) h fun v75 _ b73 e74 h => ?_
                                    refine bsome h fun v76 hv76 h => ?_
                                    simp only [go_sem, Nat.reduceAdd, Nat.reduceLT, Nat.reduceLeDiff, Nat.reduceEqDiff, Nat.reduceBEq, Nat.reduceBNe, b73, e74]
                                    refine callX_ 10000 (w_ref30_Value  hv76) (by first | rfl | simp only [go_sem]) (by first | rfl | simp only [go_sem]) ?_
                                    simp only [go_sem, Nat.reduceAdd, Nat.reduceLT, Nat.reduceLeDiff, Nat.reduceEqDiff, Nat.reduceBEq, Nat.reduceBNe]
                                    refine cnd_s 10000 h (fun hb h => ?_) (fun hb h => ?_)
                                    · skip
                                      simp only [go_sem, Nat.reduceAdd, Nat.reduceLT, Nat.reduceLeDiff, Nat.reduceEqDiff, Nat.reduceBEq, Nat.reduceBNe]
                                      refine ret_s (fun x => .tup [.str x.1, .int .i64 x.2]) h ?_
                                      first | rfl | simp only [go_sem, resAV, resAll, resOne]
                                    · skip
                                      refine cat_s h fun v79 _ (b77 : 1 + v76.1.length ≤ maxB) e78 h => ?_
                                      refine cat_s h fun v82 _ (b80 : v69.length + v79.length ≤ maxB) e81 h => ?_
                                      refine add_s h fun v84 _ e83 h => ?_
                                      refine add_s h fun v86 _ e85 h => ?_
                                      simp only [go_sem, Nat.reduceAdd, Nat.reduceLT, Nat.reduceLeDiff, Nat.reduceEqDiff, Nat.reduceBEq, Nat.reduceBNe, b77, e78, b80, e81, e83, e85]
                                      exact lp_back (ih3 v82 v84 v86 h) ⟨rfl, rfl, rfl, rfl, rfl, rfl, rfl, rfl, rfl, rfl, trivial⟩
                                  · skip
                                    simp only [go_sem, Nat.reduceAdd, Nat.reduceLT, Nat.reduceLeDiff, Nat.reduceEqDiff, Nat.reduceBEq, Nat.reduceBNe]
                                    exact atJ (wkn (JK68 v69 v70 h) ⟨rfl, rfl, rfl, rfl, rfl, rfl, rfl, rfl, trivial⟩)
                                · skip
                                  simp only [go_sem, Nat.reduceAdd, Nat.reduceLT, Nat.reduceLeDiff, Nat.reduceEqDiff, Nat.reduceBEq, Nat.reduceBNe]
                                  refine grd_ (fun hb87 => ?_) (fun hb87 => ?_)
                                  · skip
                                    simp only [go_sem, Nat.reduceAdd, Nat.reduceLT, Nat.reduceLeDiff, Nat.reduceEqDiff, Nat.reduceBEq, Nat.reduceBNe]
                                    refine grd_ (fun hb88 => ?_) (fun hb88 => ?_)
                                    · skip
                                      simp only [go_sem, Nat.reduceAdd, Nat.reduceLT, Nat.reduceLeDiff, Nat.reduceEqDiff, Nat.reduceBEq, Nat.reduceBNe]
                                      exact atJ (wkn Jg72 ⟨rfl, rfl, rfl, rfl, rfl, rfl, rfl, rfl, rfl, rfl, congrArg AV.bool (by first | rfl | (rw [hb87, hb88]; rfl) | (simp [hb87, hb88]; done) | simp_all), trivial⟩)
                                    · skip
                                      simp only [go_sem, Nat.reduceAdd, Nat.reduceLT, Nat.reduceLeDiff, Nat.reduceEqDiff, Nat.reduceBEq, Nat.reduceBNe]
                                      exact atJ (wkn Jg72 ⟨rfl, rfl, rfl, rfl, rfl, rfl, rfl, rfl, rfl, rfl, congrArg AV.bool (by first | rfl | (rw [hb87, hb88]; rfl) | (simp [hb87, hb88]; done) | simp_all), trivial⟩)
                                  · skip
                                    simp only [go_sem, Nat.reduceAdd, Nat.reduceLT, Nat.reduceLeDiff, Nat.reduceEqDiff, Nat.reduceBEq, Nat.reduceBNe]
                                    exact atJ (wkn Jg72 ⟨rfl, rfl, rfl, rfl, rfl, rfl, rfl, rfl, rfl, rfl, congrArg AV.bool (by first | rfl | (rw [hb87]; rfl) | (simp [hb87]; done) | simp_all), trivial⟩)
                              · exact lp_back (L3 v4 v6 0 h) ⟨rfl, rfl, rfl, rfl, rfl, rfl, rfl, rfl, rfl, rfl, trivial⟩
                        · skip
                          simp only [go_sem, Nat.reduceAdd, Nat.reduceLT, Nat.reduceLeDiff, Nat.reduceEqDiff, Nat.reduceBEq, Nat.reduceBNe]
                          refine grd_ (fun hb91 => ?_) (fun hb91 => ?_)
                          · skip
                            simp only [go_sem, Nat.reduceAdd, Nat.reduceLT, Nat.reduceLeDiff, Nat.reduceEqDiff, Nat.reduceBEq, Nat.reduceBNe]
                            exact atJ (wkn Jg66 ⟨rfl, rfl, rfl, rfl, rfl, rfl, rfl, rfl, rfl, congrArg AV.bool (by first | rfl | (rw [hb91]; rfl) | (simp [hb91]; done) | simp_all), trivial⟩)
                          · skip
                            simp only [go_sem, Nat.reduceAdd, Nat.reduceLT, Nat.reduceLeDiff, Nat.reduceEqDiff, Nat.reduceBEq, Nat.reduceBNe]
                            exact atJ (wkn Jg66 ⟨rfl, rfl, rfl, rfl, rfl, rfl, rfl, rfl, rfl, congrArg AV.bool (by first | rfl | (rw [hb91]; rfl) | (simp [hb91]; done) | simp_all), trivial⟩)
                  · clear h
                    have h := hy29
                    refine cnd_s 10000 h (fun hb h => ?_) (fun hb h => ?_)
                    · skip
                      simp only [go_sem, Nat.reduceAdd, Nat.reduceLT, Nat.reduceLeDiff, Nat.reduceEqDiff, Nat.reduceBEq, Nat.reduceBNe]
                      obtain rfl := Option.some.inj h
                      exact atJ (wkn (Jy29) ⟨rfl, rfl, rfl, rfl, rfl, rfl, rfl, rfl, rfl, rfl, trivial⟩)
                    · skip
                      simp only [go_sem, Nat.reduceAdd, Nat.reduceLT, Nat.reduceLeDiff, Nat.reduceEqDiff, Nat.reduceBEq, Nat.reduceBNe]
                      obtain rfl := Option.some.inj h
                      exact atJ (wkn (Jy29) ⟨rfl, rfl, rfl, rfl, rfl, rfl, rfl, rfl, rfl, rfl, trivial⟩)
        · skip
          simp only [go_sem, Nat.reduceAdd, Nat.reduceLT, Nat.reduceLeDiff, Nat.reduceEqDiff, Nat.reduceBEq, Nat.reduceBNe]
          exact atJ (wkn (JK3 v4 v5 v6 v7 v8 h) ⟨rfl, rfl, rfl, rfl, rfl, rfl, trivial⟩)
      · exact lp_back (L1 c.Name 0 0 false false 0 h) ⟨rfl, rfl, rfl, rfl, rfl, rfl, rfl, rfl, trivial⟩
theorem w_law30_ScriptWrites {c : ref30_Command} {p1_v : ref11_Val}   {r : Bool} (h : law30_ScriptWrites c p1_v = some r) : ACall Tryz.prog 4 [enc_ref30_Command c, enc_ref11_Val p1_v] [] (.bool r) [] := by
  refine acallX 10000 hf4 ok4 (by first | rfl | simp only [go_sem]) meek_bool ?_
  dsimp only [Tryz.f4, nums, Option.getD, List.append]
  unfold law30_ScriptWrites at h
  refine bsome h fun v1 hv1 h => ?_
  simp only [go_sem, Nat.reduceAdd, Nat.reduceLT, Nat.reduceLeDiff, Nat.reduceEqDiff, Nat.reduceBEq, Nat.reduceBNe]
  refine callX_ 10000 (w_law30_big  hv1) (by first | rfl | simp only [go_sem]) (by first | rfl | simp only [go_sem]) ?_
  simp only [go_sem, Nat.reduceAdd, Nat.reduceLT, Nat.reduceLeDiff, Nat.reduceEqDiff, Nat.reduceBEq, Nat.reduceBNe]
  refine cnd_s 10000 h (fun hb h => ?_) (fun hb h => ?_)
  · skip
    refine bsome h fun v2 hv2 h => ?_
    simp only [go_sem, Nat.reduceAdd, Nat.reduceLT, Nat.reduceLeDiff, Nat.reduceEqDiff, Nat.reduceBEq, Nat.reduceBNe]
    refine callX_ 10000 (w_law30_sure  hv2) (by first | rfl | simp only [go_sem]) (by first | rfl | simp only [go_sem]) ?_
    simp only [go_sem, Nat.reduceAdd, Nat.reduceLT, Nat.reduceLeDiff, Nat.reduceEqDiff, Nat.reduceBEq, Nat.reduceBNe]
    refine ret_s (fun x => .bool x) h ?_
    first | rfl | simp only [go_sem, resAV, resAll, resOne]
  · skip
    refine bsome h fun v3 hv3 h => ?_
    simp only [go_sem, Nat.reduceAdd, Nat.reduceLT, Nat.reduceLeDiff, Nat.reduceEqDiff, Nat.reduceBEq, Nat.reduceBNe]
    refine callX_ 10000 (w_law30_give  hv3) (by first | rfl | simp only [go_sem]) (by first | rfl | simp only [go_sem]) ?_
    refine bsome h fun v4 hv4 h => ?_
    simp only [go_sem, Nat.reduceAdd, Nat.reduceLT, Nat.reduceLeDiff, Nat.reduceEqDiff, Nat.reduceBEq, Nat.reduceBNe]
    refine callX_ 10000 (w_script_Line  hv4) (by first | rfl | simp only [go_sem]) (by first | rfl | simp only [go_sem]) ?_
    refine bsome h fun v5 hv5 h => ?_
    simp only [go_sem, Nat.reduceAdd, Nat.reduceLT, Nat.reduceLeDiff, Nat.reduceEqDiff, Nat.reduceBEq, Nat.reduceBNe]
    refine callX_ 10000 (w_ref30_Line  hv5) (by first | rfl | simp only [go_sem]) (by first | rfl | simp only [go_sem]) ?_
    refine bsome h fun v6 hv6 h => ?_
    simp only [go_sem, Nat.reduceAdd, Nat.reduceLT, Nat.reduceLeDiff, Nat.reduceEqDiff, Nat.reduceBEq, Nat.reduceBNe]
    refine callX_ 10000 (w_script_Form  hv6) (by first | rfl | simp only [go_sem]) (by first | rfl | simp only [go_sem]) ?_
    refine bsome h fun v7 hv7 h => ?_
    simp only [go_sem, Nat.reduceAdd, Nat.reduceLT, Nat.reduceLeDiff, Nat.reduceEqDiff, Nat.reduceBEq, Nat.reduceBNe]
    refine callX_ 10000 (w_ref30_Form  hv7) (by first | rfl | simp only [go_sem]) (by first | rfl | simp only [go_sem]) ?_
    refine bsome h fun v8 hv8 h => ?_
    simp only [go_sem, Nat.reduceAdd, Nat.reduceLT, Nat.reduceLeDiff, Nat.reduceEqDiff, Nat.reduceBEq, Nat.reduceBNe]
    refine callX_ 10000 (w_script_Value  hv8) (by first | rfl | simp only [go_sem]) (by first | rfl | simp only [go_sem]) ?_
    refine bsome h fun v9 hv9 h => ?_
    simp only [go_sem, Nat.reduceAdd, Nat.reduceLT, Nat.reduceLeDiff, Nat.reduceEqDiff, Nat.reduceBEq, Nat.reduceBNe]
    refine callX_ 10000 (w_ref30_Value  hv9) (by first | rfl | simp only [go_sem]) (by first | rfl | simp only [go_sem]) ?_
    simp only [go_sem, Nat.reduceAdd, Nat.reduceLT, Nat.reduceLeDiff, Nat.reduceEqDiff, Nat.reduceBEq, Nat.reduceBNe]
    refine bsome h fun y10 hy10 h => ?_
    refine rgJ 86 10000 (.inl rfl) (fun w => w [(4, .bool y10)] [some [.str c.Name, .sl none (List.map (AV.int .i64) c.N), .sl none (List.map enc_ref11_Val c.V), .str c.W, .str c.S], some [.int .u8 p1_v.K, .int .i64 p1_v.N, .int .i64 p1_v.L]]) (runX 10000 ?_) (fun Jy10 => ?_)
    · clear hy10
      simp only [go_sem, Nat.reduceAdd, Nat.reduceLT, Nat.reduceLeDiff, Nat.reduceEqDiff, Nat.reduceBEq, Nat.reduceBNe]
      refine ret_s (fun x => .bool x) h ?_
      first | rfl | simp only [go_sem, resAV, resAll, resOne]
    · clear h
      have h := hy10
      refine bsome h fun v12 hv12 h => ?_
      simp only [go_sem, Nat.reduceAdd, Nat.reduceLT, Nat.reduceLeDiff, Nat.reduceEqDiff, Nat.reduceBEq, Nat.reduceBNe]
      refine callX_ 10000 (w_law_num  hv12) (by first | rfl | simp only [go_sem]) (by first | rfl | simp only [go_sem]) ?_
      simp only [go_sem, Nat.reduceAdd, Nat.reduceLT, Nat.reduceLeDiff, Nat.reduceEqDiff, Nat.reduceBEq, Nat.reduceBNe]
      refine grd_ (fun hb13 => ?_) (fun hb13 => ?_)
      · skip
        have h := ite_t hb13 h
        simp only [go_sem, Nat.reduceAdd, Nat.reduceLT, Nat.reduceLeDiff, Nat.reduceEqDiff, Nat.reduceBEq, Nat.reduceBNe]
        refine grd_ (fun hb14 => ?_) (fun hb14 => ?_)
        · skip
          have h := ite_t hb14 h
          simp only [go_sem, Nat.reduceAdd, Nat.reduceLT, Nat.reduceLeDiff, Nat.reduceEqDiff, Nat.reduceBEq, Nat.reduceBNe]
          refine grd_ (fun hb15 => ?_) (fun hb15 => ?_)
          · skip
            have h := ite_t hb15 h
            simp only [go_sem, Nat.reduceAdd, Nat.reduceLT, Nat.reduceLeDiff, Nat.reduceEqDiff, Nat.reduceBEq, Nat.reduceBNe]
            refine grd_ (fun hb16 => ?_) (fun hb16 => ?_)
            · skip
              have h := ite_t hb16 h
              simp only [go_sem, Nat.reduceAdd, Nat.reduceLT, Nat.reduceLeDiff, Nat.reduceEqDiff, Nat.reduceBEq, Nat.reduceBNe]
              refine grd_ (fun hb17 => ?_) (fun hb17 => ?_)
              · skip
                have h := ite_t hb17 h
                refine bsome h fun v18 hv18 h => ?_
                simp only [go_sem, Nat.reduceAdd, Nat.reduceLT, Nat.reduceLeDiff, Nat.reduceEqDiff, Nat.reduceBEq, Nat.reduceBNe]
                refine callX_ 10000 (w_law_num  hv18) (by first | rfl | simp only [go_sem]) (by first | rfl | simp only [go_sem]) ?_
                simp only [go_sem, Nat.reduceAdd, Nat.reduceLT, Nat.reduceLeDiff, Nat.reduceEqDiff, Nat.reduceBEq, Nat.reduceBNe]
                refine grd_ (fun hb19 => ?_) (fun hb19 => ?_)
                · skip
                  have h := ite_t hb19 h
                  refine bsome h fun v20 hv20 h => ?_
                  simp only [go_sem, Nat.reduceAdd, Nat.reduceLT, Nat.reduceLeDiff, Nat.reduceEqDiff, Nat.reduceBEq, Nat.reduceBNe]
                  refine callX_ 10000 (w_law30_sure  hv20) (by first | rfl | simp only [go_sem]) (by first | rfl | simp only [go_sem]) ?_
                  simp only [go_sem, Nat.reduceAdd, Nat.reduceLT, Nat.reduceLeDiff, Nat.reduceEqDiff, Nat.reduceBEq, Nat.reduceBNe]
                  obtain rfl := Option.some.inj h
                  exact atJ (wkn (Jy10) ⟨rfl, trivial⟩)
                · skip
                  have h := ite_f hb19 h
                  simp only [go_sem, Nat.reduceAdd, Nat.reduceLT, Nat.reduceLeDiff, Nat.reduceEqDiff, Nat.reduceBEq, Nat.reduceBNe]
                  obtain rfl := Option.some.inj h
                  exact atJ (wkn (Jy10) ⟨rfl, trivial⟩)
              · skip
                have h := ite_f hb17 h
                simp only [go_sem, Nat.reduceAdd, Nat.reduceLT, Nat.reduceLeDiff, Nat.reduceEqDiff, Nat.reduceBEq, Nat.reduceBNe]
                obtain rfl := Option.some.inj h
                exact atJ (wkn (Jy10) ⟨rfl, trivial⟩)
            · skip
              have h := ite_f hb16 h
              simp only [go_sem, Nat.reduceAdd, Nat.reduceLT, Nat.reduceLeDiff, Nat.reduceEqDiff, Nat.reduceBEq, Nat.reduceBNe]
              obtain rfl := Option.some.inj h
              exact atJ (wkn (Jy10) ⟨rfl, trivial⟩)
          · skip
            have h := ite_f hb15 h
            simp only [go_sem, Nat.reduceAdd, Nat.reduceLT, Nat.reduceLeDiff, Nat.reduceEqDiff, Nat.reduceBEq, Nat.reduceBNe]
            obtain rfl := Option.some.inj h
            exact atJ (wkn (Jy10) ⟨rfl, trivial⟩)
        · skip
          have h := ite_f hb14 h
          simp only [go_sem, Nat.reduceAdd, Nat.reduceLT, Nat.reduceLeDiff, Nat.reduceEqDiff, Nat.reduceBEq, Nat.reduceBNe]
          obtain rfl := Option.some.inj h
          exact atJ (wkn (Jy10) ⟨rfl, trivial⟩)
      · skip
        have h := ite_f hb13 h
        simp only [go_sem, Nat.reduceAdd, Nat.reduceLT, Nat.reduceLeDiff, Nat.reduceEqDiff, Nat.reduceBEq, Nat.reduceBNe]
        obtain rfl := Option.some.inj h
        exact atJ (wkn (Jy10) ⟨rfl, trivial⟩)
theorem w_law30_ScriptBack {l : (List ref30_Command)} {text : Str}   {r : Bool} (h : law30_ScriptBack l text = some r) : ACall Tryz.prog 5 [.sl none (List.map enc_ref30_Command l), .str text] [] (.bool r) [] := by
  refine acallX 10000 hf5 ok5 (by first | rfl | simp only [go_sem]) meek_bool ?_
  dsimp only [Tryz.f5, nums, Option.getD, List.append]
  unfold law30_ScriptBack at h
  simp only [go_sem, Nat.reduceAdd, Nat.reduceLT, Nat.reduceLeDiff, Nat.reduceEqDiff, Nat.reduceBEq, Nat.reduceBNe]
  refine rgJ 142 10000 (.inl rfl) (fun w => w [(0, .sl none (List.map enc_ref30_Command l)), (1, .str text), (28, .bool ((decide ((60 : Int) < (l.length : Int))) || (decide ((70000 : Int) < (text.length : Int)))))] []) (runX 10000 ?_) (fun Jg1 => ?_)
  · skip
    simp only [go_sem, Nat.reduceAdd, Nat.reduceLT, Nat.reduceLeDiff, Nat.reduceEqDiff, Nat.reduceBEq, Nat.reduceBNe]
    refine cnd_s 10000 h (fun hb h => ?_) (fun hb h => ?_)
    · skip
      refine bsome h fun v2 hv2 h => ?_
      simp only [go_sem, Nat.reduceAdd, Nat.reduceLT, Nat.reduceLeDiff, Nat.reduceEqDiff, Nat.reduceBEq, Nat.reduceBNe]
      refine callX_ 10000 (w_law30_sure  hv2) (by first | rfl | simp only [go_sem]) (by first | rfl | simp only [go_sem]) ?_
      simp only [go_sem, Nat.reduceAdd, Nat.reduceLT, Nat.reduceLeDiff, Nat.reduceEqDiff, Nat.reduceBEq, Nat.reduceBNe]
      refine ret_s (fun x => .bool x) h ?_
      first | rfl | simp only [go_sem, resAV, resAll, resOne]
    · skip
      simp only [go_sem, Nat.reduceAdd, Nat.reduceLT, Nat.reduceLeDiff, Nat.reduceEqDiff, Nat.reduceBEq, Nat.reduceBNe]
      refine letK_s h fun K4 hK4 h => ?_
      refine blkJ 142 10000 (fun w => ∀ (v27 : Str) (v28 : Bool), K4 v27 v28 = some r → w [(0, .sl none (List.map enc_ref30_Command l)), (1, .str text), (5, .str v27), (6, .bool v28)] []) (fun v27 v28 h => runX 10000 ?_) (fun JK4 => ?_)
      · subst hK4
        dsimp only at h
        simp only [go_sem, Nat.reduceAdd, Nat.reduceLT, Nat.reduceLeDiff, Nat.reduceEqDiff, Nat.reduceBEq, Nat.reduceBNe]
        refine rgJ 142 10000 (.inl rfl) (fun w => w [(0, .sl none (List.map enc_ref30_Command l)), (1, .str text), (5, .str v27), (65, .bool (v28 && (decide ((v27.length : Int) ≤ 65536))))] []) (runX 10000 ?_) (fun Jg29 => ?_)
        · skip
          simp only [go_sem, Nat.reduceAdd, Nat.reduceLT, Nat.reduceLeDiff, Nat.reduceEqDiff, Nat.reduceBEq, Nat.reduceBNe]
          refine letK_s h fun K31 hK31 h => ?_
          refine cndJ 142 10000 (fun w => K31 () = some r → w [(1, .str text)] []) (fun  h => runX 10000 ?_) (fun JK31 => ?_)
          · subst hK31
            dsimp only at h
            refine bsome h fun v49 hv49 h => ?_
            simp only [go_sem, Nat.reduceAdd, Nat.reduceLT, Nat.reduceLeDiff, Nat.reduceEqDiff, Nat.reduceBEq, Nat.reduceBNe]
            refine callX_ 10000 (w_script_Parse  hv49) (by first | rfl | simp only [go_sem]) (by first | rfl | simp only [go_sem]) ?_
            simp only [go_sem, Nat.reduceAdd, Nat.reduceLT, Nat.reduceLeDiff, Nat.reduceEqDiff, Nat.reduceBEq, Nat.reduceBNe]
            refine cnd_s 10000 h (fun hb h => ?_) (fun hb h => ?_)
            · skip
              simp only [go_sem, Nat.reduceAdd, Nat.reduceLT, Nat.reduceLeDiff, Nat.reduceEqDiff, Nat.reduceBEq, Nat.reduceBNe]
              refine bsome h fun y50 hy50 h => ?_
              refine rgJ 142 10000 (.inl rfl) (fun w => w [(4, .bool y50)] []) (runX 10000 ?_) (fun Jy50 => ?_)
              · clear hy50
                simp only [go_sem, Nat.reduceAdd, Nat.reduceLT, Nat.reduceLeDiff, Nat.reduceEqDiff, Nat.reduceBEq, Nat.reduceBNe]
                refine ret_s (fun x => .bool x) h ?_
                first | rfl | simp only [go_sem, resAV, resAll, resOne]
              · clear h
                have h := hy50
                simp only [go_sem, Nat.reduceAdd, Nat.reduceLT, Nat.reduceLeDiff, Nat.reduceEqDiff, Nat.reduceBEq, Nat.reduceBNe]
                refine grd_ (fun hb52 => ?_) (fun hb52 => ?_)
                · skip
                  have h := ite_t hb52 h
                  refine bsome h fun v53 hv53 h => ?_
                  simp only [go_sem, Nat.reduceAdd, Nat.reduceLT, Nat.reduceLeDiff, Nat.reduceEqDiff, Nat.reduceBEq, Nat.reduceBNe]
                  refine callX_ 10000 (w_law30_sure  hv53) (by first | rfl | simp only [go_sem]) (by first | rfl | simp only [go_sem]) ?_
                  simp only [go_sem, Nat.reduceAdd, Nat.reduceLT, Nat.reduceLeDiff, Nat.reduceEqDiff, Nat.reduceBEq, Nat.reduceBNe]
                  obtain rfl := Option.some.inj h
                  exact atJ (wkn (Jy50) ⟨rfl, trivial⟩)
                · skip
                  have h := ite_f hb52 h
                  simp only [go_sem, Nat.reduceAdd, Nat.reduceLT, Nat.reduceLeDiff, Nat.reduceEqDiff, Nat.reduceBEq, Nat.reduceBNe]
                  obtain rfl := Option.some.inj h
                  exact atJ (wkn (Jy50) ⟨rfl, trivial⟩)
            · skip
              simp only [go_sem, Nat.reduceAdd, Nat.reduceLT, Nat.reduceLeDiff, Nat.reduceEqDiff, Nat.reduceBEq, Nat.reduceBNe]
              refine letK_s h fun K55 hK55 h => ?_
              refine blkJ 142 10000 (fun w => ∀ (v70 : Str), K55 v70 = some r → w [(1, .str text), (17, .str v70)] []) (fun v70 h => runX 10000 ?_) (fun JK55 => ?_)
              · subst hK55
                dsimp only at h
                simp only [go_sem, Nat.reduceAdd, Nat.reduceLT, Nat.reduceLeDiff, Nat.reduceEqDiff, Nat.reduceBEq, Nat.reduceBNe]
                refine bsome h fun y71 hy71 h => ?_
                refine rgJ 142 10000 (.inl rfl) (fun w => w [(4, .bool y71)] []) (runX 10000 ?_) (fun Jy71 => ?_)
                · clear hy71
                  simp only [go_sem, Nat.reduceAdd, Nat.reduceLT, Nat.reduceLeDiff, Nat.reduceEqDiff, Nat.reduceBEq, Nat.reduceBNe]
                  refine ret_s (fun x => .bool x) h ?_
                  first | rfl | simp only [go_sem, resAV, resAll, resOne]
                · clear h
                  have h := hy71
                  simp only [go_sem, Nat.reduceAdd, Nat.reduceLT, Nat.reduceLeDiff, Nat.reduceEqDiff, Nat.reduceBEq, Nat.reduceBNe]
                  refine grd_ (fun hb73 => ?_) (fun hb73 => ?_)
                  · skip
                    have h := ite_t hb73 h
                    refine bsome h fun v74 hv74 h => ?_
                    simp only [go_sem, Nat.reduceAdd, Nat.reduceLT, Nat.reduceLeDiff, Nat.reduceEqDiff, Nat.reduceBEq, Nat.reduceBNe]
                    refine callX_ 10000 (w_law30_sure  hv74) (by first | rfl | simp only [go_sem]) (by first | rfl | simp only [go_sem]) ?_
                    simp only [go_sem, Nat.reduceAdd, Nat.reduceLT, Nat.reduceLeDiff, Nat.reduceEqDiff, Nat.reduceBEq, Nat.reduceBNe]
                    obtain rfl := Option.some.inj h
                    exact atJ (wkn (Jy71) ⟨rfl, trivial⟩)
                  · skip
                    have h := ite_f hb73 h
                    simp only [go_sem, Nat.reduceAdd, Nat.reduceLT, Nat.reduceLeDiff, Nat.reduceEqDiff, Nat.reduceBEq, Nat.reduceBNe]
                    obtain rfl := Option.some.inj h
                    exact atJ (wkn (Jy71) ⟨rfl, trivial⟩)
              · clear hK55
                simp only [go_sem, Nat.reduceAdd, Nat.reduceLT, Nat.reduceLeDiff, Nat.reduceEqDiff, Nat.reduceBEq, Nat.reduceBNe]
                refine lpJ 142 fuel (fun q3 w => ∀ (v56 : Str) (v57 : Int), law30_ScriptBack_l3 v49 K55 q3 v56 v57 = some r → w [(1, .str text), (14, .sl none (List.map enc_script_Command v49.1)), (17, .str v56), (18, .int .i64 v57)] []) (fun w _ _ h => nomatch h) (fun q3 ih3 v56 v57 h => ?_) (fun L3 => ?_)
                · unfold law30_ScriptBack_l3 at h
                  refine runL 10000 ?_
                  simp only [go_sem, Nat.reduceAdd, Nat.reduceLT, Nat.reduceLeDiff, Nat.reduceEqDiff, Nat.reduceBEq, Nat.reduceBNe]
                  refine cnd_s 10000 h (fun hb h => ?_) (fun hb h => ?_)
                  · skip
                    simp only [go_sem, Nat.reduceAdd, Nat.reduceLT, Nat.reduceLeDiff, Nat.reduceEqDiff, Nat.reduceBEq, Nat.reduceBNe]
                    refine blk_ 10000 ?_
                    refine lAt_s enc_script_Command none .i64 ⟨36, 5, true, 96⟩ (fun _ => rfl) h fun v60 _ b58 e59 h => ?_
                    refine bsome h fun v61 hv61 h => ?_
                    simp only [go_sem, Nat.reduceAdd, Nat.reduceLT, Nat.reduceLeDiff, Nat.reduceEqDiff, Nat.reduceBEq, Nat.reduceBNe, b58, e59]
                    refine callX_ 10000 (w_script_Line  hv61) (by first | rfl | simp only [go_sem]) (by first | rfl | simp only [go_sem]) ?_
                    simp only [go_sem, Nat.reduceAdd, Nat.reduceLT, Nat.reduceLeDiff, Nat.reduceEqDiff, Nat.reduceBEq, Nat.reduceBNe]
                    refine cnd_s 10000 h (fun hb h => ?_) (fun hb h => ?_)
                    · skip
                      simp only [go_sem, Nat.reduceAdd, Nat.reduceLT, Nat.reduceLeDiff, Nat.reduceEqDiff, Nat.reduceBEq, Nat.reduceBNe]
                      refine ret_s (fun x => .bool x) h ?_
                      first | rfl | simp only [go_sem, resAV, resAll, resOne]
                    · skip
                      refine cat_s h fun v64 _ (b62 : v61.1.length + 1 ≤ maxB) e63 h => ?_
                      refine cat_s h fun v67 _ (b65 : v56.length + v64.length ≤ maxB) e66 h => ?_
                      refine add_s h fun v69 _ e68 h => ?_
                      simp only [go_sem, Nat.reduceAdd, Nat.reduceLT, Nat.reduceLeDiff, Nat.reduceEqDiff, Nat.reduceBEq, Nat.reduceBNe, b62, e63, b65, e66, e68]
                      exact lp_back (ih3 v67 v69 h) ⟨rfl, rfl, rfl, rfl, trivial⟩
                  · skip
                    simp only [go_sem, Nat.reduceAdd, Nat.reduceLT, Nat.reduceLeDiff, Nat.reduceEqDiff, Nat.reduceBEq, Nat.reduceBNe]
                    exact atJ (wkn (JK55 v56 h) ⟨rfl, rfl, trivial⟩)
                · exact lp_back (L3 [] 0 h) ⟨rfl, rfl, rfl, rfl, trivial⟩
          · clear hK31
            refine cnd_s 10000 h (fun hb h => ?_) (fun hb h => ?_)
            · skip
              refine bsome h fun v32 hv32 h => ?_
              simp only [go_sem, Nat.reduceAdd, Nat.reduceLT, Nat.reduceLeDiff, Nat.reduceEqDiff, Nat.reduceBEq, Nat.reduceBNe]
              refine callX_ 10000 (w_script_Parse  hv32) (by first | rfl | simp only [go_sem]) (by first | rfl | simp only [go_sem]) ?_
              simp only [go_sem, Nat.reduceAdd, Nat.reduceLT, Nat.reduceLeDiff, Nat.reduceEqDiff, Nat.reduceBEq, Nat.reduceBNe]
              refine rgJ 142 10000 (.inl rfl) (fun w => w [(0, .sl none (List.map enc_ref30_Command l)), (1, .str text), (10, .sl none (List.map enc_script_Command v32.1)), (84, .bool ((v32.2.2.isSome || (!decide (v32.2.1 = 0))) || (!decide ((v32.1.length : Int) = (l.length : Int)))))] []) (runX 10000 ?_) (fun Jg33 => ?_)
              · skip
                simp only [go_sem, Nat.reduceAdd, Nat.reduceLT, Nat.reduceLeDiff, Nat.reduceEqDiff, Nat.reduceBEq, Nat.reduceBNe]
                refine cnd_s 10000 h (fun hb h => ?_) (fun hb h => ?_)
                · skip
                  simp only [go_sem, Nat.reduceAdd, Nat.reduceLT, Nat.reduceLeDiff, Nat.reduceEqDiff, Nat.reduceBEq, Nat.reduceBNe]
                  refine ret_s (fun x => .bool x) h ?_
                  first | rfl | simp only [go_sem, resAV, resAll, resOne]
                · skip
                  simp only [go_sem, Nat.reduceAdd, Nat.reduceLT, Nat.reduceLeDiff, Nat.reduceEqDiff, Nat.reduceBEq, Nat.reduceBNe]
                  refine letK_s h fun K35 hK35 h => ?_
                  refine blkJ 142 10000 (fun w => K35 () = some r → w [(1, .str text)] []) (fun  h => runX 10000 ?_) (fun JK35 => ?_)
                  · subst hK35
                    dsimp only at h
                    simp only [go_sem, Nat.reduceAdd, Nat.reduceLT, Nat.reduceLeDiff, Nat.reduceEqDiff, Nat.reduceBEq, Nat.reduceBNe]
                    exact atJ (wkn (JK31  h) ⟨rfl, trivial⟩)
                  · clear hK35
                    simp only [go_sem, Nat.reduceAdd, Nat.reduceLT, Nat.reduceLeDiff, Nat.reduceEqDiff, Nat.reduceBEq, Nat.reduceBNe]
                    refine lpJ 142 fuel (fun q2 w => ∀ (v36 : Int), law30_ScriptBack_l2 l v32 K35 q2 v36 = some r → w [(0, .sl none (List.map enc_ref30_Command l)), (1, .str text), (10, .sl none (List.map enc_script_Command v32.1)), (13, .int .i64 v36)] []) (fun w _ h => nomatch h) (fun q2 ih2 v36 h => ?_) (fun L2 => ?_)
                    · unfold law30_ScriptBack_l2 at h
                      refine runL 10000 ?_
                      simp only [go_sem, Nat.reduceAdd, Nat.reduceLT, Nat.reduceLeDiff, Nat.reduceEqDiff, Nat.reduceBEq, Nat.reduceBNe]
                      refine cnd_s 10000 h (fun hb h => ?_) (fun hb h => ?_)
                      · skip
                        simp only [go_sem, Nat.reduceAdd, Nat.reduceLT, Nat.reduceLeDiff, Nat.reduceEqDiff, Nat.reduceBEq, Nat.reduceBNe]
                        refine blk_ 10000 ?_
                        simp only [go_sem, Nat.reduceAdd, Nat.reduceLT, Nat.reduceLeDiff, Nat.reduceEqDiff, Nat.reduceBEq, Nat.reduceBNe]
                        refine rg_ 10000 (.inr ⟨[], by kernel_rfl, by kernel_rfl, by rfl⟩) ?_
                        refine lAt_s enc_script_Command none .i64 ⟨36, 5, true, 96⟩ (fun _ => rfl) h fun v39 _ b37 e38 h => ?_
                        refine lAt_s enc_ref30_Command none .i64 ⟨40, 5, true, 96⟩ (fun _ => rfl) h fun v42 _ b40 e41 h => ?_
                        refine bsome h fun v43 hv43 h => ?_
                        simp only [go_sem, Nat.reduceAdd, Nat.reduceLT, Nat.reduceLeDiff, Nat.reduceEqDiff, Nat.reduceBEq, Nat.reduceBNe, b37, e38, b40, e41]
                        refine callX_ 10000 (w_law30_give  hv43) (by first | rfl | simp only [go_sem]) (by first | rfl | simp only [go_sem]) ?_
                        refine bsome h fun v44 hv44 h => ?_
                        simp only [go_sem, Nat.reduceAdd, Nat.reduceLT, Nat.reduceLeDiff, Nat.reduceEqDiff, Nat.reduceBEq, Nat.reduceBNe]
                        refine callX_ 10000 (w_law30_same  hv44) (by first | rfl | simp only [go_sem]) (by first | rfl | simp only [go_sem]) ?_
                        simp only [go_sem, Nat.reduceAdd, Nat.reduceLT, Nat.reduceLeDiff, Nat.reduceEqDiff, Nat.reduceBEq, Nat.reduceBNe]
                        refine cnd_s 10000 h (fun hb h => ?_) (fun hb h => ?_)
                        · skip
                          simp only [go_sem, Nat.reduceAdd, Nat.reduceLT, Nat.reduceLeDiff, Nat.reduceEqDiff, Nat.reduceBEq, Nat.reduceBNe]
                          refine ret_s (fun x => .bool x) h ?_
                          first | rfl | simp only [go_sem, resAV, resAll, resOne]
                        · skip
                          refine add_s h fun v46 _ e45 h => ?_
                          simp only [go_sem, Nat.reduceAdd, Nat.reduceLT, Nat.reduceLeDiff, Nat.reduceEqDiff, Nat.reduceBEq, Nat.reduceBNe, e45]
                          exact lp_back (ih2 v46 h) ⟨rfl, rfl, rfl, rfl, trivial⟩
                      · skip
                        simp only [go_sem, Nat.reduceAdd, Nat.reduceLT, Nat.reduceLeDiff, Nat.reduceEqDiff, Nat.reduceBEq, Nat.reduceBNe]
                        exact atJ (wkn (JK35  h) ⟨rfl, trivial⟩)
                    · exact lp_back (L2 0 h) ⟨rfl, rfl, rfl, rfl, trivial⟩
              · skip
                simp only [go_sem, Nat.reduceAdd, Nat.reduceLT, Nat.reduceLeDiff, Nat.reduceEqDiff, Nat.reduceBEq, Nat.reduceBNe]
                refine grd_ (fun hb47 => ?_) (fun hb47 => ?_)
                · skip
                  simp only [go_sem, Nat.reduceAdd, Nat.reduceLT, Nat.reduceLeDiff, Nat.reduceEqDiff, Nat.reduceBEq, Nat.reduceBNe]
                  refine grd_ (fun hb48 => ?_) (fun hb48 => ?_)
                  · skip
                    simp only [go_sem, Nat.reduceAdd, Nat.reduceLT, Nat.reduceLeDiff, Nat.reduceEqDiff, Nat.reduceBEq, Nat.reduceBNe]
                    exact atJ (wkn Jg33 ⟨rfl, rfl, rfl, congrArg AV.bool (by first | rfl | (rw [hb47, hb48]; rfl) | (simp [hb47, hb48]; done) | simp_all), trivial⟩)
                  · skip
                    simp only [go_sem, Nat.reduceAdd, Nat.reduceLT, Nat.reduceLeDiff, Nat.reduceEqDiff, Nat.reduceBEq, Nat.reduceBNe]
                    exact atJ (wkn Jg33 ⟨rfl, rfl, rfl, congrArg AV.bool (by first | rfl | (rw [hb47, hb48]; rfl) | (simp [hb47, hb48]; done) | simp_all), trivial⟩)
                · skip
                  simp only [go_sem, Nat.reduceAdd, Nat.reduceLT, Nat.reduceLeDiff, Nat.reduceEqDiff, Nat.reduceBEq, Nat.reduceBNe]
                  exact atJ (wkn Jg33 ⟨rfl, rfl, rfl, congrArg AV.bool (by first | rfl | (rw [hb47]; rfl) | (simp [hb47]; done) | simp_all), trivial⟩)
            · skip
              simp only [go_sem, Nat.reduceAdd, Nat.reduceLT, Nat.reduceLeDiff, Nat.reduceEqDiff, Nat.reduceBEq, Nat.reduceBNe]
              exact atJ (wkn (JK31  h) ⟨rfl, trivial⟩)
        · skip
          simp only [go_sem, Nat.reduceAdd, Nat.reduceLT, Nat.reduceLeDiff, Nat.reduceEqDiff, Nat.reduceBEq, Nat.reduceBNe]
          refine grd_ (fun hb75 => ?_) (fun hb75 => ?_)
          · skip
            simp only [go_sem, Nat.reduceAdd, Nat.reduceLT, Nat.reduceLeDiff, Nat.reduceEqDiff, Nat.reduceBEq, Nat.reduceBNe]
            exact atJ (wkn Jg29 ⟨rfl, rfl, rfl, congrArg AV.bool (by first | rfl | (rw [hb75]; rfl) | (simp [hb75]; done) | simp_all), trivial⟩)
          · skip
            simp only [go_sem, Nat.reduceAdd, Nat.reduceLT, Nat.reduceLeDiff, Nat.reduceEqDiff, Nat.reduceBEq, Nat.reduceBNe]
            exact atJ (wkn Jg29 ⟨rfl, rfl, rfl, congrArg AV.bool (by first | rfl | (rw [hb75]; rfl) | (simp [hb75]; done) | simp_all), trivial⟩)
      · clear hK4
        simp only [go_sem, Nat.reduceAdd, Nat.reduceLT, Nat.reduceLeDiff, Nat.reduceEqDiff, Nat.reduceBEq, Nat.reduceBNe]
        refine lpJ 142 fuel (fun q1 w => ∀ (v5 : Str) (v6 : Bool) (v7 : Int), law30_ScriptBack_l1 l K4 q1 v5 v6 v7 = some r → w [(0, .sl none (List.map enc_ref30_Command l)), (1, .str text), (5, .str v5), (6, .bool v6), (7, .int .i64 v7)] []) (fun w _ _ _ h => nomatch h) (fun q1 ih1 v5 v6 v7 h => ?_) (fun L1 => ?_)
        · unfold law30_ScriptBack_l1 at h
          refine runL 10000 ?_
          simp only [go_sem, Nat.reduceAdd, Nat.reduceLT, Nat.reduceLeDiff, Nat.reduceEqDiff, Nat.reduceBEq, Nat.reduceBNe]
          refine cnd_s 10000 h (fun hb h => ?_) (fun hb h => ?_)
          · skip
            simp only [go_sem, Nat.reduceAdd, Nat.reduceLT, Nat.reduceLeDiff, Nat.reduceEqDiff, Nat.reduceBEq, Nat.reduceBNe]
            refine blk_ 10000 ?_
            refine lAt_s enc_ref30_Command none .i64 ⟨40, 5, true, 96⟩ (fun _ => rfl) h fun v10 _ b8 e9 h => ?_
            refine bsome h fun v11 hv11 h => ?_
            simp only [go_sem, Nat.reduceAdd, Nat.reduceLT, Nat.reduceLeDiff, Nat.reduceEqDiff, Nat.reduceBEq, Nat.reduceBNe, b8, e9]
            refine callX_ 10000 (w_law30_big  hv11) (by first | rfl | simp only [go_sem]) (by first | rfl | simp only [go_sem]) ?_
            simp only [go_sem, Nat.reduceAdd, Nat.reduceLT, Nat.reduceLeDiff, Nat.reduceEqDiff, Nat.reduceBEq, Nat.reduceBNe]
            refine cnd_s 10000 h (fun hb h => ?_) (fun hb h => ?_)
            · skip
              refine bsome h fun v12 hv12 h => ?_
              simp only [go_sem, Nat.reduceAdd, Nat.reduceLT, Nat.reduceLeDiff, Nat.reduceEqDiff, Nat.reduceBEq, Nat.reduceBNe]
              refine callX_ 10000 (w_law30_sure  hv12) (by first | rfl | simp only [go_sem]) (by first | rfl | simp only [go_sem]) ?_
              simp only [go_sem, Nat.reduceAdd, Nat.reduceLT, Nat.reduceLeDiff, Nat.reduceEqDiff, Nat.reduceBEq, Nat.reduceBNe]
              refine ret_s (fun x => .bool x) h ?_
              first | rfl | simp only [go_sem, resAV, resAll, resOne]
            · skip
              refine bsome h fun v15 hv15 h => ?_
              simp only [go_sem, Nat.reduceAdd, Nat.reduceLT, Nat.reduceLeDiff, Nat.reduceEqDiff, Nat.reduceBEq, Nat.reduceBNe, b8, e9]
              refine callX_ 10000 (w_law30_give  hv15) (by first | rfl | simp only [go_sem]) (by first | rfl | simp only [go_sem]) ?_
              refine bsome h fun v16 hv16 h => ?_
              simp only [go_sem, Nat.reduceAdd, Nat.reduceLT, Nat.reduceLeDiff, Nat.reduceEqDiff, Nat.reduceBEq, Nat.reduceBNe]
              refine callX_ 10000 (w_script_Line  hv16) (by first | rfl | simp only [go_sem]) (by first | rfl | simp only [go_sem]) ?_
              simp only [go_sem, Nat.reduceAdd, Nat.reduceLT, Nat.reduceLeDiff, Nat.reduceEqDiff, Nat.reduceBEq, Nat.reduceBNe]
              refine rgJ 142 10000 (.inl rfl) (fun w => w [(0, .sl none (List.map enc_ref30_Command l)), (1, .str text), (5, .str v5), (6, .bool (v6 && v16.2.isNone)), (7, .int .i64 v7), (8, .str v16.1)] []) (runX 10000 ?_) (fun Jg17 => ?_)
              · skip
                refine cat_s h fun v20 _ (b18 : v16.1.length + 1 ≤ maxB) e19 h => ?_
                refine cat_s h fun v23 _ (b21 : v5.length + v20.length ≤ maxB) e22 h => ?_
                refine add_s h fun v25 _ e24 h => ?_
                simp only [go_sem, Nat.reduceAdd, Nat.reduceLT, Nat.reduceLeDiff, Nat.reduceEqDiff, Nat.reduceBEq, Nat.reduceBNe, b18, e19, b21, e22, e24]
                exact lp_back (ih1 v23 (v6 && v16.2.isNone) v25 h) ⟨rfl, rfl, rfl, rfl, rfl, trivial⟩
              · skip
                simp only [go_sem, Nat.reduceAdd, Nat.reduceLT, Nat.reduceLeDiff, Nat.reduceEqDiff, Nat.reduceBEq, Nat.reduceBNe]
                refine grd_ (fun hb26 => ?_) (fun hb26 => ?_)
                · skip
                  simp only [go_sem, Nat.reduceAdd, Nat.reduceLT, Nat.reduceLeDiff, Nat.reduceEqDiff, Nat.reduceBEq, Nat.reduceBNe]
                  exact atJ (wkn Jg17 ⟨rfl, rfl, rfl, congrArg AV.bool (by first | rfl | (rw [hb26]; rfl) | (simp [hb26]; done) | simp_all), rfl, rfl, trivial⟩)
                · skip
                  simp only [go_sem, Nat.reduceAdd, Nat.reduceLT, Nat.reduceLeDiff, Nat.reduceEqDiff, Nat.reduceBEq, Nat.reduceBNe]
                  exact atJ (wkn Jg17 ⟨rfl, rfl, rfl, congrArg AV.bool (by first | rfl | (rw [hb26]; rfl) | (simp [hb26]; done) | simp_all), rfl, rfl, trivial⟩)
          · skip
            simp only [go_sem, Nat.reduceAdd, Nat.reduceLT, Nat.reduceLeDiff, Nat.reduceEqDiff, Nat.reduceBEq, Nat.reduceBNe]
            exact atJ (wkn (JK4 v5 v6 h) ⟨rfl, rfl, rfl, rfl, trivial⟩)
        · exact lp_back (L1 [] true 0 h) ⟨rfl, rfl, rfl, rfl, rfl, trivial⟩
  · skip
    simp only [go_sem, Nat.reduceAdd, Nat.reduceLT, Nat.reduceLeDiff, Nat.reduceEqDiff, Nat.reduceBEq, Nat.reduceBNe]
    refine grd_ (fun hb76 => ?_) (fun hb76 => ?_)
    · skip
      simp only [go_sem, Nat.reduceAdd, Nat.reduceLT, Nat.reduceLeDiff, Nat.reduceEqDiff, Nat.reduceBEq, Nat.reduceBNe]
      exact atJ (wkn Jg1 ⟨rfl, rfl, congrArg AV.bool (by first | rfl | (rw [hb76]; rfl) | (simp [hb76]; done) | simp_all), trivial⟩)
    · skip
      simp only [go_sem, Nat.reduceAdd, Nat.reduceLT, Nat.reduceLeDiff, Nat.reduceEqDiff, Nat.reduceBEq, Nat.reduceBNe]
      exact atJ (wkn Jg1 ⟨rfl, rfl, congrArg AV.bool (by first | rfl | (rw [hb76]; rfl) | (simp [hb76]; done) | simp_all), trivial⟩)
end Go.Cq

