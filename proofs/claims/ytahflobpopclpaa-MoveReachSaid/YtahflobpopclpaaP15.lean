import Derived.Test.YtahflobpopclpaaSp1
import Derived.Test.YtahflobpopclpaaR5
import Derived.Test.YtahflobpopclpaaP14
import Derived.Test.YtahflobpopclpaaP8
import Derived.Test.YtahflobpopclpaaAb26
import Derived.Test.YtahflobpopclpaaAb25
namespace Go.Ab
open Go Go.RowKit Go.Proofs Fac
set_option linter.unusedVariables false
set_option linter.unusedSimpArgs false
set_option maxRecDepth 4000
set_option maxHeartbeats 1000000




theorem mv_Fault (t : Town) (p : List Int) (hh : t.houses.length ≤ 1000) : Ret Try.prog 17 [.agg (cT t), .sl 1 (rI p)] (if M.Ok t ∧ M.plan t p = true then .tup [.agg [.int .i64 (M.fault t p).1, .int .i64 (M.fault t p).2], .int .i64 0] else .tup [.agg [.int .i64 0, .int .i64 0], .int .i64 2]) := by
  refine Ret.of_fits fun hfits => ?_
  simp only [V.fits, V.fitsL, V.fitsR, cT_fits] at hfits
  have hl := hfits.1.schools
  have hlk := hfits.1.kin
  apply Ret_fin (fn := Try.f17) Try.func17 rfl
  apply T_seq
  apply T_r F
  · (simp only [go_sem, Nat.reducePow, Nat.reduceLT, Nat.reduceAdd, Nat.reduceSub, Nat.reduceMul, Nat.reduceLeDiff, reduceIte, Nat.reduceEqDiff, Nat.reduceBEq, Try.ntmps17]) <;> exact rfl
  apply K_seq
  apply T_seq
  apply T_r F
  · (simp only [go_sem, Nat.reducePow, Nat.reduceLT, Nat.reduceAdd, Nat.reduceSub, Nat.reduceMul, Nat.reduceLeDiff, reduceIte, Nat.reduceEqDiff, Nat.reduceBEq, Try.ntmps17]) <;> exact rfl
  apply K_seq
  apply T_seq
  apply T_seq
  apply T_wL F [0, 1, 2, 3, 4, 5, 6, 7] rfl
  apply W_pre [0] [1, 2, 3, 4, 5, 6, 7]
  · (simp only [go_sem, Nat.reducePow, Nat.reduceLT, Nat.reduceAdd, Nat.reduceSub, Nat.reduceMul, Nat.reduceLeDiff, reduceIte, Nat.reduceEqDiff, Nat.reduceBEq, Try.ntmps17]) <;> exact rfl
  apply W_call -- call 0 of function 46
  · (simp only [go_sem, Nat.reducePow, Nat.reduceLT, Nat.reduceAdd, Nat.reduceSub, Nat.reduceMul, Nat.reduceLeDiff, reduceIte, Nat.reduceEqDiff, Nat.reduceBEq, Try.ntmps17]) <;> exact rfl
  · (simp only [go_sem, Nat.reducePow, Nat.reduceLT, Nat.reduceAdd, Nat.reduceSub, Nat.reduceMul, Nat.reduceLeDiff, reduceIte, Nat.reduceEqDiff, Nat.reduceBEq, Try.ntmps17]) <;> exact rfl
  · exact rfl
  · (simp only [go_sem, Nat.reducePow, Nat.reduceLT, Nat.reduceAdd, Nat.reduceSub, Nat.reduceMul, Nat.reduceLeDiff, reduceIte, Nat.reduceEqDiff, Nat.reduceBEq, Try.ntmps17]) <;> exact rfl
  · (simp only [go_sem, Nat.reducePow, Nat.reduceLT, Nat.reduceAdd, Nat.reduceSub, Nat.reduceMul, Nat.reduceLeDiff, reduceIte, Nat.reduceEqDiff, Nat.reduceBEq, Try.ntmps17]) <;> exact rfl
  · exact ⟨_, Try.func46, rfl, rfl⟩
  · (simp only [go_sem, Nat.reducePow, Nat.reduceLT, Nat.reduceAdd, Nat.reduceSub, Nat.reduceMul, Nat.reduceLeDiff, reduceIte, Nat.reduceEqDiff, Nat.reduceBEq, Try.ntmps17]) <;> exact rfl
  · (simp only [go_sem, Nat.reducePow, Nat.reduceLT, Nat.reduceAdd, Nat.reduceSub, Nat.reduceMul, Nat.reduceLeDiff, reduceIte, Nat.reduceEqDiff, Nat.reduceBEq, Try.ntmps17]) <;> exact rfl
  · exact mv_valid _ (by omega)
  apply W_pre [2, 3] [4, 5, 6, 7]
  · (simp only [go_sem, Nat.reducePow, Nat.reduceLT, Nat.reduceAdd, Nat.reduceSub, Nat.reduceMul, Nat.reduceLeDiff, reduceIte, Nat.reduceEqDiff, Nat.reduceBEq, Try.ntmps17]) <;> exact rfl
  apply W_guard
  · (simp only [go_sem, Nat.reducePow, Nat.reduceLT, Nat.reduceAdd, Nat.reduceSub, Nat.reduceMul, Nat.reduceLeDiff, reduceIte, Nat.reduceEqDiff, Nat.reduceBEq, Try.ntmps17]) <;> exact rfl
  · (simp only [go_sem, Nat.reducePow, Nat.reduceLT, Nat.reduceAdd, Nat.reduceSub, Nat.reduceMul, Nat.reduceLeDiff, reduceIte, Nat.reduceEqDiff, Nat.reduceBEq, Try.ntmps17]) <;> exact rfl
  · intro bg0t
    have g0t := bg0t
    try simp only [beq_true, beq_false, decide_eq_true_eq, decide_eq_false_iff_not, Bool.not_eq_true', Bool.not_eq_false', Bool.not_eq_true, Bool.not_eq_false, ne_eq, Int.ofNat_lt, Int.ofNat_le, beq_iff_eq, bne_iff_ne, beq_eq_false_iff_ne, bne_eq_false_iff_eq, ge_iff_le, gt_iff_lt, Bool.not_true, Bool.not_false, Decidable.not_not, Int.natCast_inj, Int.natCast_nonneg] at g0t
    try simp only [beq_true, beq_false, Bool.not_eq_true', Bool.not_eq_false', Bool.not_not, Bool.not_true, Bool.not_false] at bg0t
    try exact absurd bg0t (by decide)
    all_goals (
  apply W_pre [4] [5, 6, 7]
  · (simp only [go_sem, Nat.reducePow, Nat.reduceLT, Nat.reduceAdd, Nat.reduceSub, Nat.reduceMul, Nat.reduceLeDiff, reduceIte, Nat.reduceEqDiff, Nat.reduceBEq, Try.ntmps17, bg0t]) <;> exact rfl
  apply W_call -- call 1 of function 47
  · (simp only [go_sem, Nat.reducePow, Nat.reduceLT, Nat.reduceAdd, Nat.reduceSub, Nat.reduceMul, Nat.reduceLeDiff, reduceIte, Nat.reduceEqDiff, Nat.reduceBEq, Try.ntmps17, bg0t]) <;> exact rfl
  · (simp only [go_sem, Nat.reducePow, Nat.reduceLT, Nat.reduceAdd, Nat.reduceSub, Nat.reduceMul, Nat.reduceLeDiff, reduceIte, Nat.reduceEqDiff, Nat.reduceBEq, Try.ntmps17, bg0t]) <;> exact rfl
  · exact rfl
  · (simp only [go_sem, Nat.reducePow, Nat.reduceLT, Nat.reduceAdd, Nat.reduceSub, Nat.reduceMul, Nat.reduceLeDiff, reduceIte, Nat.reduceEqDiff, Nat.reduceBEq, Try.ntmps17, bg0t]) <;> exact rfl
  · (simp only [go_sem, Nat.reducePow, Nat.reduceLT, Nat.reduceAdd, Nat.reduceSub, Nat.reduceMul, Nat.reduceLeDiff, reduceIte, Nat.reduceEqDiff, Nat.reduceBEq, Try.ntmps17, bg0t]) <;> exact rfl
  · exact ⟨_, Try.func47, rfl, rfl⟩
  · (simp only [go_sem, Nat.reducePow, Nat.reduceLT, Nat.reduceAdd, Nat.reduceSub, Nat.reduceMul, Nat.reduceLeDiff, reduceIte, Nat.reduceEqDiff, Nat.reduceBEq, Try.ntmps17, bg0t]) <;> exact rfl
  · (simp only [go_sem, Nat.reducePow, Nat.reduceLT, Nat.reduceAdd, Nat.reduceSub, Nat.reduceMul, Nat.reduceLeDiff, reduceIte, Nat.reduceEqDiff, Nat.reduceBEq, Try.ntmps17, bg0t]) <;> exact rfl
  · exact mv_planned _ _
  apply W_run
  · (simp only [go_sem, Nat.reducePow, Nat.reduceLT, Nat.reduceAdd, Nat.reduceSub, Nat.reduceMul, Nat.reduceLeDiff, reduceIte, Nat.reduceEqDiff, Nat.reduceBEq, Try.ntmps17, bg0t]) <;> exact rfl
  apply W_nil
  apply K_seq
  apply T_if
  · (simp only [go_sem, Nat.reducePow, Nat.reduceLT, Nat.reduceAdd, Nat.reduceSub, Nat.reduceMul, Nat.reduceLeDiff, reduceIte, Nat.reduceEqDiff, Nat.reduceBEq, Try.ntmps17, bg0t]) <;> exact rfl
  · intro bh0t
    have h0t := bh0t
    try simp only [beq_true, beq_false, decide_eq_true_eq, decide_eq_false_iff_not, Bool.not_eq_true', Bool.not_eq_false', Bool.not_eq_true, Bool.not_eq_false, ne_eq, Int.ofNat_lt, Int.ofNat_le, beq_iff_eq, bne_iff_ne, beq_eq_false_iff_ne, bne_eq_false_iff_eq, ge_iff_le, gt_iff_lt, Bool.not_true, Bool.not_false, Decidable.not_not, Int.natCast_inj, Int.natCast_nonneg] at h0t
    try simp only [beq_true, beq_false, Bool.not_eq_true', Bool.not_eq_false', Bool.not_not, Bool.not_true, Bool.not_false] at bh0t
    try exact absurd bh0t (by decide)
    all_goals (
  apply T_seq
  apply T_r F
  · (simp only [go_sem, Nat.reducePow, Nat.reduceLT, Nat.reduceAdd, Nat.reduceSub, Nat.reduceMul, Nat.reduceLeDiff, reduceIte, Nat.reduceEqDiff, Nat.reduceBEq, Try.ntmps17, bg0t, bh0t]) <;> exact rfl
  apply K_seq
  apply T_ret
  apply K_seqR
  apply fin_ret
  · (simp only [go_sem, Nat.reducePow, Nat.reduceLT, Nat.reduceAdd, Nat.reduceSub, Nat.reduceMul, Nat.reduceLeDiff, reduceIte, Nat.reduceEqDiff, Nat.reduceBEq, Try.ntmps17, bg0t, bh0t, Try.f17]) <;> exact rfl
  -- leaf 0 (ret)
  simp only [go_sem, Nat.reducePow, Nat.reduceLT, Nat.reduceAdd, Nat.reduceSub, Nat.reduceMul, Nat.reduceLeDiff, reduceIte, Nat.reduceEqDiff, Nat.reduceBEq, Try.ntmps17, bg0t, bh0t, V.bool.injEq, V.int.injEq, true_and]
  simp_all)
  · intro bh0f
    have h0f := bh0f
    try simp only [beq_true, beq_false, decide_eq_true_eq, decide_eq_false_iff_not, Bool.not_eq_true', Bool.not_eq_false', Bool.not_eq_true, Bool.not_eq_false, ne_eq, Int.ofNat_lt, Int.ofNat_le, beq_iff_eq, bne_iff_ne, beq_eq_false_iff_ne, bne_eq_false_iff_eq, ge_iff_le, gt_iff_lt, Bool.not_true, Bool.not_false, Decidable.not_not, Int.natCast_inj, Int.natCast_nonneg] at h0f
    try simp only [beq_true, beq_false, Bool.not_eq_true', Bool.not_eq_false', Bool.not_not, Bool.not_true, Bool.not_false] at bh0f
    try exact absurd bh0f (by decide)
    all_goals (
  apply T_skip
  apply K_seq
  apply T_seq
  apply T_wL F [0, 1, 2, 3] rfl
  apply W_pre [0] [1, 2, 3]
  · (simp only [go_sem, Nat.reducePow, Nat.reduceLT, Nat.reduceAdd, Nat.reduceSub, Nat.reduceMul, Nat.reduceLeDiff, reduceIte, Nat.reduceEqDiff, Nat.reduceBEq, Try.ntmps17, bg0t, bh0f]) <;> exact rfl
  apply W_call -- call 2 of function 48
  · (simp only [go_sem, Nat.reducePow, Nat.reduceLT, Nat.reduceAdd, Nat.reduceSub, Nat.reduceMul, Nat.reduceLeDiff, reduceIte, Nat.reduceEqDiff, Nat.reduceBEq, Try.ntmps17, bg0t, bh0f]) <;> exact rfl
  · (simp only [go_sem, Nat.reducePow, Nat.reduceLT, Nat.reduceAdd, Nat.reduceSub, Nat.reduceMul, Nat.reduceLeDiff, reduceIte, Nat.reduceEqDiff, Nat.reduceBEq, Try.ntmps17, bg0t, bh0f]) <;> exact rfl
  · exact rfl
  · (simp only [go_sem, Nat.reducePow, Nat.reduceLT, Nat.reduceAdd, Nat.reduceSub, Nat.reduceMul, Nat.reduceLeDiff, reduceIte, Nat.reduceEqDiff, Nat.reduceBEq, Try.ntmps17, bg0t, bh0f]) <;> exact rfl
  · (simp only [go_sem, Nat.reducePow, Nat.reduceLT, Nat.reduceAdd, Nat.reduceSub, Nat.reduceMul, Nat.reduceLeDiff, reduceIte, Nat.reduceEqDiff, Nat.reduceBEq, Try.ntmps17, bg0t, bh0f]) <;> exact rfl
  · exact ⟨_, Try.func48, rfl, rfl⟩
  · (simp only [go_sem, Nat.reducePow, Nat.reduceLT, Nat.reduceAdd, Nat.reduceSub, Nat.reduceMul, Nat.reduceLeDiff, reduceIte, Nat.reduceEqDiff, Nat.reduceBEq, Try.ntmps17, bg0t, bh0f]) <;> exact rfl
  · (simp only [go_sem, Nat.reducePow, Nat.reduceLT, Nat.reduceAdd, Nat.reduceSub, Nat.reduceMul, Nat.reduceLeDiff, reduceIte, Nat.reduceEqDiff, Nat.reduceBEq, Try.ntmps17, bg0t, bh0f]) <;> exact rfl
  · exact mv_fault _ _ (by assumption) (by assumption) (by omega) (by omega)
  apply W_run
  · (simp only [go_sem, Nat.reducePow, Nat.reduceLT, Nat.reduceAdd, Nat.reduceSub, Nat.reduceMul, Nat.reduceLeDiff, reduceIte, Nat.reduceEqDiff, Nat.reduceBEq, Try.ntmps17, bg0t, bh0f]) <;> exact rfl
  apply W_nil
  apply K_seq
  apply T_ret
  apply fin_ret
  · (simp only [go_sem, Nat.reducePow, Nat.reduceLT, Nat.reduceAdd, Nat.reduceSub, Nat.reduceMul, Nat.reduceLeDiff, reduceIte, Nat.reduceEqDiff, Nat.reduceBEq, Try.ntmps17, bg0t, bh0f, Try.f17]) <;> exact rfl
  -- leaf 1 (ret)
  simp only [go_sem, Nat.reducePow, Nat.reduceLT, Nat.reduceAdd, Nat.reduceSub, Nat.reduceMul, Nat.reduceLeDiff, reduceIte, Nat.reduceEqDiff, Nat.reduceBEq, Try.ntmps17, bg0t, bh0f, V.bool.injEq, V.int.injEq, true_and]
  simp_all))
  · intro bg0f
    have g0f := bg0f
    try simp only [beq_true, beq_false, decide_eq_true_eq, decide_eq_false_iff_not, Bool.not_eq_true', Bool.not_eq_false', Bool.not_eq_true, Bool.not_eq_false, ne_eq, Int.ofNat_lt, Int.ofNat_le, beq_iff_eq, bne_iff_ne, beq_eq_false_iff_ne, bne_eq_false_iff_eq, ge_iff_le, gt_iff_lt, Bool.not_true, Bool.not_false, Decidable.not_not, Int.natCast_inj, Int.natCast_nonneg] at g0f
    try simp only [beq_true, beq_false, Bool.not_eq_true', Bool.not_eq_false', Bool.not_not, Bool.not_true, Bool.not_false] at bg0f
    try exact absurd bg0f (by decide)
    all_goals (
  apply W_run
  · (simp only [go_sem, Nat.reducePow, Nat.reduceLT, Nat.reduceAdd, Nat.reduceSub, Nat.reduceMul, Nat.reduceLeDiff, reduceIte, Nat.reduceEqDiff, Nat.reduceBEq, Try.ntmps17, bg0f]) <;> exact rfl
  apply W_nil
  apply K_seq
  apply T_if
  · (simp only [go_sem, Nat.reducePow, Nat.reduceLT, Nat.reduceAdd, Nat.reduceSub, Nat.reduceMul, Nat.reduceLeDiff, reduceIte, Nat.reduceEqDiff, Nat.reduceBEq, Try.ntmps17, bg0f]) <;> exact rfl
  · intro bh1t
    have h1t := bh1t
    try simp only [beq_true, beq_false, decide_eq_true_eq, decide_eq_false_iff_not, Bool.not_eq_true', Bool.not_eq_false', Bool.not_eq_true, Bool.not_eq_false, ne_eq, Int.ofNat_lt, Int.ofNat_le, beq_iff_eq, bne_iff_ne, beq_eq_false_iff_ne, bne_eq_false_iff_eq, ge_iff_le, gt_iff_lt, Bool.not_true, Bool.not_false, Decidable.not_not, Int.natCast_inj, Int.natCast_nonneg] at h1t
    try simp only [beq_true, beq_false, Bool.not_eq_true', Bool.not_eq_false', Bool.not_not, Bool.not_true, Bool.not_false] at bh1t
    try exact absurd bh1t (by decide)
    all_goals (
  apply T_seq
  apply T_r F
  · (simp only [go_sem, Nat.reducePow, Nat.reduceLT, Nat.reduceAdd, Nat.reduceSub, Nat.reduceMul, Nat.reduceLeDiff, reduceIte, Nat.reduceEqDiff, Nat.reduceBEq, Try.ntmps17, bg0f, bh1t]) <;> exact rfl
  apply K_seq
  apply T_ret
  apply K_seqR
  apply fin_ret
  · (simp only [go_sem, Nat.reducePow, Nat.reduceLT, Nat.reduceAdd, Nat.reduceSub, Nat.reduceMul, Nat.reduceLeDiff, reduceIte, Nat.reduceEqDiff, Nat.reduceBEq, Try.ntmps17, bg0f, bh1t, Try.f17]) <;> exact rfl
  -- leaf 2 (ret)
  simp only [go_sem, Nat.reducePow, Nat.reduceLT, Nat.reduceAdd, Nat.reduceSub, Nat.reduceMul, Nat.reduceLeDiff, reduceIte, Nat.reduceEqDiff, Nat.reduceBEq, Try.ntmps17, bg0f, bh1t, V.bool.injEq, V.int.injEq, true_and]
  simp_all)
  · intro bh1f
    exact absurd bh1f (by simp))

end Go.Ab
