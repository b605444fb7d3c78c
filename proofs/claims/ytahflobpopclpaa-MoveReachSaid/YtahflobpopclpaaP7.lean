import Derived.Test.YtahflobpopclpaaSp1
import Derived.Test.YtahflobpopclpaaR5
import Derived.Test.YtahflobpopclpaaP2
import Derived.Test.YtahflobpopclpaaAb26
import Derived.Test.YtahflobpopclpaaAb25
namespace Go.Ab
open Go Go.RowKit Go.Proofs Fac
set_option linter.unusedVariables false
set_option linter.unusedSimpArgs false
set_option maxRecDepth 4000
set_option maxHeartbeats 1000000

theorem mv_goes0 (t : Town) (p0 : List Int) (lot : Int) (h1 : 0 ≤ lot) (h2 : lot.toNat < t.gone.length) (h3 : t.houses.length ≤ 1000) (hh : 0 < t.houses.length) (hok : M.gone t lot = false ∧ ¬ M.rank t 0 lot < 0) : Ret Try.prog 100 [.agg (cW t p0), .nil, .int .i64 lot] (.sl 1 ([] ++ [[.int .i64 lot]])) := by
  have hgo : t.gone[lot.toNat] = M.gone t lot := (M.gone_get h2).symm
  have hcl := True.intro
  apply Ret_fin (fn := Try.f100) Try.func100 rfl
  apply T_seq
  apply T_r F
  · (simp only [go_sem, Nat.reducePow, Nat.reduceLT, Nat.reduceAdd, Nat.reduceSub, Nat.reduceMul, Nat.reduceLeDiff, reduceIte, Nat.reduceEqDiff, Nat.reduceBEq, Try.ntmps100, cW_eq, h1, h1, h2, rB_get h2, hgo, hcl]) <;> exact rfl
  apply K_seq
  apply T_seq
  apply T_r F
  · (simp only [go_sem, Nat.reducePow, Nat.reduceLT, Nat.reduceAdd, Nat.reduceSub, Nat.reduceMul, Nat.reduceLeDiff, reduceIte, Nat.reduceEqDiff, Nat.reduceBEq, Try.ntmps100, cW_eq, h1, h1, h2, rB_get h2, hgo, hcl]) <;> exact rfl
  apply K_seq
  apply T_seq
  apply T_seq
  apply T_wL F [0, 1, 2, 3, 4, 5, 6, 7, 8, 9, 10, 11, 12, 13, 14, 15, 16, 17] rfl
  apply W_pre [0, 1] [2, 3, 4, 5, 6, 7, 8, 9, 10, 11, 12, 13, 14, 15, 16, 17]
  · (simp only [go_sem, Nat.reducePow, Nat.reduceLT, Nat.reduceAdd, Nat.reduceSub, Nat.reduceMul, Nat.reduceLeDiff, reduceIte, Nat.reduceEqDiff, Nat.reduceBEq, Try.ntmps100, cW_eq, h1, h1, h2, rB_get h2, hgo, hcl]) <;> exact rfl
  apply W_call -- call 0 of function 86
  · (simp only [go_sem, Nat.reducePow, Nat.reduceLT, Nat.reduceAdd, Nat.reduceSub, Nat.reduceMul, Nat.reduceLeDiff, reduceIte, Nat.reduceEqDiff, Nat.reduceBEq, Try.ntmps100, cW_eq, h1, h1, h2, rB_get h2, hgo, hcl]) <;> exact rfl
  · (simp only [go_sem, Nat.reducePow, Nat.reduceLT, Nat.reduceAdd, Nat.reduceSub, Nat.reduceMul, Nat.reduceLeDiff, reduceIte, Nat.reduceEqDiff, Nat.reduceBEq, Try.ntmps100, cW_eq, h1, h1, h2, rB_get h2, hgo, hcl]) <;> exact rfl
  · exact rfl
  · (simp only [go_sem, Nat.reducePow, Nat.reduceLT, Nat.reduceAdd, Nat.reduceSub, Nat.reduceMul, Nat.reduceLeDiff, reduceIte, Nat.reduceEqDiff, Nat.reduceBEq, Try.ntmps100, cW_eq, h1, h1, h2, rB_get h2, hgo, hcl]) <;> exact rfl
  · (simp only [go_sem, Nat.reducePow, Nat.reduceLT, Nat.reduceAdd, Nat.reduceSub, Nat.reduceMul, Nat.reduceLeDiff, reduceIte, Nat.reduceEqDiff, Nat.reduceBEq, Try.ntmps100, cW_eq, h1, h1, h2, rB_get h2, hgo, hcl]) <;> exact rfl
  · exact ⟨_, Try.func86, rfl, rfl⟩
  · (simp only [go_sem, Nat.reducePow, Nat.reduceLT, Nat.reduceAdd, Nat.reduceSub, Nat.reduceMul, Nat.reduceLeDiff, reduceIte, Nat.reduceEqDiff, Nat.reduceBEq, Try.ntmps100, cW_eq, h1, h1, h2, rB_get h2, hgo, hcl]) <;> exact rfl
  · (simp only [go_sem, Nat.reducePow, Nat.reduceLT, Nat.reduceAdd, Nat.reduceSub, Nat.reduceMul, Nat.reduceLeDiff, reduceIte, Nat.reduceEqDiff, Nat.reduceBEq, Try.ntmps100, cW_eq, h1, h1, h2, rB_get h2, hgo, hcl]) <;> exact rfl
  · exact Ret.wk (sl_contains [] lot) (.cons (.nil 1) (.cons (.refl _) .nil))
  apply W_pre [3] [4, 5, 6, 7, 8, 9, 10, 11, 12, 13, 14, 15, 16, 17]
  · (simp only [go_sem, Nat.reducePow, Nat.reduceLT, Nat.reduceAdd, Nat.reduceSub, Nat.reduceMul, Nat.reduceLeDiff, reduceIte, Nat.reduceEqDiff, Nat.reduceBEq, Try.ntmps100, cW_eq, h1, h1, h2, rB_get h2, hgo, hcl]) <;> exact rfl
  apply W_guard
  · (simp only [go_sem, Nat.reducePow, Nat.reduceLT, Nat.reduceAdd, Nat.reduceSub, Nat.reduceMul, Nat.reduceLeDiff, reduceIte, Nat.reduceEqDiff, Nat.reduceBEq, Try.ntmps100, cW_eq, h1, h1, h2, rB_get h2, hgo, hcl]) <;> exact rfl
  · (simp only [go_sem, Nat.reducePow, Nat.reduceLT, Nat.reduceAdd, Nat.reduceSub, Nat.reduceMul, Nat.reduceLeDiff, reduceIte, Nat.reduceEqDiff, Nat.reduceBEq, Try.ntmps100, cW_eq, h1, h1, h2, rB_get h2, hgo, hcl]) <;> exact rfl
  · intro bg0t
    have g0t := bg0t
    try simp only [beq_true, beq_false, decide_eq_true_eq, decide_eq_false_iff_not, Bool.not_eq_true', Bool.not_eq_false', Bool.not_eq_true, Bool.not_eq_false, ne_eq, Int.ofNat_lt, Int.ofNat_le, beq_iff_eq, bne_iff_ne, beq_eq_false_iff_ne, bne_eq_false_iff_eq, ge_iff_le, gt_iff_lt, Bool.not_true, Bool.not_false, Decidable.not_not, Int.natCast_inj, Int.natCast_nonneg] at g0t
    try simp only [beq_true, beq_false, Bool.not_eq_true', Bool.not_eq_false', Bool.not_not, Bool.not_true, Bool.not_false] at bg0t
    try exact absurd bg0t (by decide)
    all_goals (
  apply W_pre [4, 5, 6, 7] [8, 9, 10, 11, 12, 13, 14, 15, 16, 17]
  · (simp only [go_sem, Nat.reducePow, Nat.reduceLT, Nat.reduceAdd, Nat.reduceSub, Nat.reduceMul, Nat.reduceLeDiff, reduceIte, Nat.reduceEqDiff, Nat.reduceBEq, Try.ntmps100, cW_eq, h1, h1, h2, rB_get h2, hgo, hcl, bg0t]) <;> exact rfl
  apply W_pre [8, 9, 10, 11] [12, 13, 14, 15, 16, 17]
  · (simp only [go_sem, Nat.reducePow, Nat.reduceLT, Nat.reduceAdd, Nat.reduceSub, Nat.reduceMul, Nat.reduceLeDiff, reduceIte, Nat.reduceEqDiff, Nat.reduceBEq, Try.ntmps100, cW_eq, h1, h1, h2, rB_get h2, hgo, hcl, bg0t]) <;> exact rfl
  apply W_guard
  · (simp only [go_sem, Nat.reducePow, Nat.reduceLT, Nat.reduceAdd, Nat.reduceSub, Nat.reduceMul, Nat.reduceLeDiff, reduceIte, Nat.reduceEqDiff, Nat.reduceBEq, Try.ntmps100, cW_eq, h1, h1, h2, rB_get h2, hgo, hcl, bg0t]) <;> exact rfl
  · (simp only [go_sem, Nat.reducePow, Nat.reduceLT, Nat.reduceAdd, Nat.reduceSub, Nat.reduceMul, Nat.reduceLeDiff, reduceIte, Nat.reduceEqDiff, Nat.reduceBEq, Try.ntmps100, cW_eq, h1, h1, h2, rB_get h2, hgo, hcl, bg0t]) <;> exact rfl
  · intro bg1t
    have g1t := bg1t
    try simp only [beq_true, beq_false, decide_eq_true_eq, decide_eq_false_iff_not, Bool.not_eq_true', Bool.not_eq_false', Bool.not_eq_true, Bool.not_eq_false, ne_eq, Int.ofNat_lt, Int.ofNat_le, beq_iff_eq, bne_iff_ne, beq_eq_false_iff_ne, bne_eq_false_iff_eq, ge_iff_le, gt_iff_lt, Bool.not_true, Bool.not_false, Decidable.not_not, Int.natCast_inj, Int.natCast_nonneg] at g1t
    try simp only [beq_true, beq_false, Bool.not_eq_true', Bool.not_eq_false', Bool.not_not, Bool.not_true, Bool.not_false] at bg1t
    try exact absurd bg1t (by decide)
    all_goals (
  apply W_pre [12, 13, 14] [15, 16, 17]
  · (simp only [go_sem, Nat.reducePow, Nat.reduceLT, Nat.reduceAdd, Nat.reduceSub, Nat.reduceMul, Nat.reduceLeDiff, reduceIte, Nat.reduceEqDiff, Nat.reduceBEq, Try.ntmps100, cW_eq, h1, h1, h2, rB_get h2, hgo, hcl, bg0t, bg1t]) <;> exact rfl
  apply W_call -- call 1 of function 82
  · (simp only [go_sem, Nat.reducePow, Nat.reduceLT, Nat.reduceAdd, Nat.reduceSub, Nat.reduceMul, Nat.reduceLeDiff, reduceIte, Nat.reduceEqDiff, Nat.reduceBEq, Try.ntmps100, cW_eq, h1, h1, h2, rB_get h2, hgo, hcl, bg0t, bg1t]) <;> exact rfl
  · (simp only [go_sem, Nat.reducePow, Nat.reduceLT, Nat.reduceAdd, Nat.reduceSub, Nat.reduceMul, Nat.reduceLeDiff, reduceIte, Nat.reduceEqDiff, Nat.reduceBEq, Try.ntmps100, cW_eq, h1, h1, h2, rB_get h2, hgo, hcl, bg0t, bg1t]) <;> exact rfl
  · exact rfl
  · (simp only [go_sem, Nat.reducePow, Nat.reduceLT, Nat.reduceAdd, Nat.reduceSub, Nat.reduceMul, Nat.reduceLeDiff, reduceIte, Nat.reduceEqDiff, Nat.reduceBEq, Try.ntmps100, cW_eq, h1, h1, h2, rB_get h2, hgo, hcl, bg0t, bg1t]) <;> exact rfl
  · (simp only [go_sem, Nat.reducePow, Nat.reduceLT, Nat.reduceAdd, Nat.reduceSub, Nat.reduceMul, Nat.reduceLeDiff, reduceIte, Nat.reduceEqDiff, Nat.reduceBEq, Try.ntmps100, cW_eq, h1, h1, h2, rB_get h2, hgo, hcl, bg0t, bg1t]) <;> exact rfl
  · exact ⟨_, Try.func82, rfl, rfl⟩
  · (simp only [go_sem, Nat.reducePow, Nat.reduceLT, Nat.reduceAdd, Nat.reduceSub, Nat.reduceMul, Nat.reduceLeDiff, reduceIte, Nat.reduceEqDiff, Nat.reduceBEq, Try.ntmps100, cW_eq, h1, h1, h2, rB_get h2, hgo, hcl, bg0t, bg1t]) <;> exact rfl
  · (simp only [go_sem, Nat.reducePow, Nat.reduceLT, Nat.reduceAdd, Nat.reduceSub, Nat.reduceMul, Nat.reduceLeDiff, reduceIte, Nat.reduceEqDiff, Nat.reduceBEq, Try.ntmps100, cW_eq, h1, h1, h2, rB_get h2, hgo, hcl, bg0t, bg1t]) <;> exact rfl
  · exact mv_rank t p0 (0) lot hh
  apply W_run
  · (simp only [go_sem, Nat.reducePow, Nat.reduceLT, Nat.reduceAdd, Nat.reduceSub, Nat.reduceMul, Nat.reduceLeDiff, reduceIte, Nat.reduceEqDiff, Nat.reduceBEq, Try.ntmps100, cW_eq, h1, h1, h2, rB_get h2, hgo, hcl, bg0t, bg1t]) <;> exact rfl
  apply W_nil
  apply K_seq
  apply T_if
  · (simp only [go_sem, Nat.reducePow, Nat.reduceLT, Nat.reduceAdd, Nat.reduceSub, Nat.reduceMul, Nat.reduceLeDiff, reduceIte, Nat.reduceEqDiff, Nat.reduceBEq, Try.ntmps100, cW_eq, h1, h1, h2, rB_get h2, hgo, hcl, bg0t, bg1t]) <;> exact rfl
  · intro bh0t
    have h0t := bh0t
    try simp only [beq_true, beq_false, decide_eq_true_eq, decide_eq_false_iff_not, Bool.not_eq_true', Bool.not_eq_false', Bool.not_eq_true, Bool.not_eq_false, ne_eq, Int.ofNat_lt, Int.ofNat_le, beq_iff_eq, bne_iff_ne, beq_eq_false_iff_ne, bne_eq_false_iff_eq, ge_iff_le, gt_iff_lt, Bool.not_true, Bool.not_false, Decidable.not_not, Int.natCast_inj, Int.natCast_nonneg] at h0t
    all_goals (first | (simp_all; done) | omega)
  · intro bh0f
    have h0f := bh0f
    try simp only [beq_true, beq_false, decide_eq_true_eq, decide_eq_false_iff_not, Bool.not_eq_true', Bool.not_eq_false', Bool.not_eq_true, Bool.not_eq_false, ne_eq, Int.ofNat_lt, Int.ofNat_le, beq_iff_eq, bne_iff_ne, beq_eq_false_iff_ne, bne_eq_false_iff_eq, ge_iff_le, gt_iff_lt, Bool.not_true, Bool.not_false, Decidable.not_not, Int.natCast_inj, Int.natCast_nonneg] at h0f
    try simp only [beq_true, beq_false, Bool.not_eq_true', Bool.not_eq_false', Bool.not_not, Bool.not_true, Bool.not_false] at bh0f
    try exact absurd bh0f (by decide)
    all_goals (
  apply T_skip
  apply K_seq
  apply T_seq
  apply T_wL F [0, 1, 2, 3, 4, 5] rfl
  apply W_pre [0] [1, 2, 3, 4, 5]
  · (simp only [go_sem, Nat.reducePow, Nat.reduceLT, Nat.reduceAdd, Nat.reduceSub, Nat.reduceMul, Nat.reduceLeDiff, reduceIte, Nat.reduceEqDiff, Nat.reduceBEq, Try.ntmps100, cW_eq, h1, h1, h2, rB_get h2, hgo, hcl, bg0t, bg1t, bh0f]) <;> exact rfl
  apply W_call -- call 2 of function 102
  · (simp only [go_sem, Nat.reducePow, Nat.reduceLT, Nat.reduceAdd, Nat.reduceSub, Nat.reduceMul, Nat.reduceLeDiff, reduceIte, Nat.reduceEqDiff, Nat.reduceBEq, Try.ntmps100, cW_eq, h1, h1, h2, rB_get h2, hgo, hcl, bg0t, bg1t, bh0f]) <;> exact rfl
  · (simp only [go_sem, Nat.reducePow, Nat.reduceLT, Nat.reduceAdd, Nat.reduceSub, Nat.reduceMul, Nat.reduceLeDiff, reduceIte, Nat.reduceEqDiff, Nat.reduceBEq, Try.ntmps100, cW_eq, h1, h1, h2, rB_get h2, hgo, hcl, bg0t, bg1t, bh0f]) <;> exact rfl
  · exact rfl
  · (simp only [go_sem, Nat.reducePow, Nat.reduceLT, Nat.reduceAdd, Nat.reduceSub, Nat.reduceMul, Nat.reduceLeDiff, reduceIte, Nat.reduceEqDiff, Nat.reduceBEq, Try.ntmps100, cW_eq, h1, h1, h2, rB_get h2, hgo, hcl, bg0t, bg1t, bh0f]) <;> exact rfl
  · (simp only [go_sem, Nat.reducePow, Nat.reduceLT, Nat.reduceAdd, Nat.reduceSub, Nat.reduceMul, Nat.reduceLeDiff, reduceIte, Nat.reduceEqDiff, Nat.reduceBEq, Try.ntmps100, cW_eq, h1, h1, h2, rB_get h2, hgo, hcl, bg0t, bg1t, bh0f]) <;> exact rfl
  · exact ⟨_, Try.func102, rfl, rfl⟩
  · (simp only [go_sem, Nat.reducePow, Nat.reduceLT, Nat.reduceAdd, Nat.reduceSub, Nat.reduceMul, Nat.reduceLeDiff, reduceIte, Nat.reduceEqDiff, Nat.reduceBEq, Try.ntmps100, cW_eq, h1, h1, h2, rB_get h2, hgo, hcl, bg0t, bg1t, bh0f]) <;> exact rfl
  · (simp only [go_sem, Nat.reducePow, Nat.reduceLT, Nat.reduceAdd, Nat.reduceSub, Nat.reduceMul, Nat.reduceLeDiff, reduceIte, Nat.reduceEqDiff, Nat.reduceBEq, Try.ntmps100, cW_eq, h1, h1, h2, rB_get h2, hgo, hcl, bg0t, bg1t, bh0f]) <;> exact rfl
  · exact sl_cloneNil
  apply W_run
  · (simp only [go_sem, Nat.reducePow, Nat.reduceLT, Nat.reduceAdd, Nat.reduceSub, Nat.reduceMul, Nat.reduceLeDiff, reduceIte, Nat.reduceEqDiff, Nat.reduceBEq, Try.ntmps100, cW_eq, h1, h1, h2, rB_get h2, hgo, hcl, bg0t, bg1t, bh0f]) <;> exact rfl
  apply W_nil
  apply K_seq
  apply T_ret
  apply fin_ret
  · (simp only [go_sem, Nat.reducePow, Nat.reduceLT, Nat.reduceAdd, Nat.reduceSub, Nat.reduceMul, Nat.reduceLeDiff, reduceIte, Nat.reduceEqDiff, Nat.reduceBEq, Try.ntmps100, cW_eq, h1, h1, h2, rB_get h2, hgo, hcl, bg0t, bg1t, bh0f, Try.f100]) <;> exact rfl
  -- leaf 0 (ret)
  simp only [go_sem, Nat.reducePow, Nat.reduceLT, Nat.reduceAdd, Nat.reduceSub, Nat.reduceMul, Nat.reduceLeDiff, reduceIte, Nat.reduceEqDiff, Nat.reduceBEq, Try.ntmps100, cW_eq, h1, h1, h2, rB_get h2, hgo, hcl, bg0t, bg1t, bh0f, V.bool.injEq, V.int.injEq, true_and]
  try rfl))
  · intro bg1f
    have g1f := bg1f
    try simp only [beq_true, beq_false, decide_eq_true_eq, decide_eq_false_iff_not, Bool.not_eq_true', Bool.not_eq_false', Bool.not_eq_true, Bool.not_eq_false, ne_eq, Int.ofNat_lt, Int.ofNat_le, beq_iff_eq, bne_iff_ne, beq_eq_false_iff_ne, bne_eq_false_iff_eq, ge_iff_le, gt_iff_lt, Bool.not_true, Bool.not_false, Decidable.not_not, Int.natCast_inj, Int.natCast_nonneg] at g1f
    try simp only [beq_true, beq_false, Bool.not_eq_true', Bool.not_eq_false', Bool.not_not, Bool.not_true, Bool.not_false] at bg1f
    try exact absurd bg1f (by decide)
    all_goals (
  apply W_run
  · (simp only [go_sem, Nat.reducePow, Nat.reduceLT, Nat.reduceAdd, Nat.reduceSub, Nat.reduceMul, Nat.reduceLeDiff, reduceIte, Nat.reduceEqDiff, Nat.reduceBEq, Try.ntmps100, cW_eq, h1, h1, h2, rB_get h2, hgo, hcl, bg0t, bg1f]) <;> exact rfl
  apply W_nil
  apply K_seq
  apply T_if
  · (simp only [go_sem, Nat.reducePow, Nat.reduceLT, Nat.reduceAdd, Nat.reduceSub, Nat.reduceMul, Nat.reduceLeDiff, reduceIte, Nat.reduceEqDiff, Nat.reduceBEq, Try.ntmps100, cW_eq, h1, h1, h2, rB_get h2, hgo, hcl, bg0t, bg1f]) <;> exact rfl
  · intro bh1t
    have h1t := bh1t
    try simp only [beq_true, beq_false, decide_eq_true_eq, decide_eq_false_iff_not, Bool.not_eq_true', Bool.not_eq_false', Bool.not_eq_true, Bool.not_eq_false, ne_eq, Int.ofNat_lt, Int.ofNat_le, beq_iff_eq, bne_iff_ne, beq_eq_false_iff_ne, bne_eq_false_iff_eq, ge_iff_le, gt_iff_lt, Bool.not_true, Bool.not_false, Decidable.not_not, Int.natCast_inj, Int.natCast_nonneg] at h1t
    all_goals (first | (simp_all; done) | omega)
  · intro bh1f
    exact absurd bh1f (by simp)))
  · intro bg0f
    have g0f := bg0f
    try simp only [beq_true, beq_false, decide_eq_true_eq, decide_eq_false_iff_not, Bool.not_eq_true', Bool.not_eq_false', Bool.not_eq_true, Bool.not_eq_false, ne_eq, Int.ofNat_lt, Int.ofNat_le, beq_iff_eq, bne_iff_ne, beq_eq_false_iff_ne, bne_eq_false_iff_eq, ge_iff_le, gt_iff_lt, Bool.not_true, Bool.not_false, Decidable.not_not, Int.natCast_inj, Int.natCast_nonneg] at g0f
    try simp only [beq_true, beq_false, Bool.not_eq_true', Bool.not_eq_false', Bool.not_not, Bool.not_true, Bool.not_false] at bg0f
    try exact absurd bg0f (by decide)
    all_goals (
  apply W_pre [4, 5, 6, 7] [8, 9, 10, 11, 12, 13, 14, 15, 16, 17]
  · (simp only [go_sem, Nat.reducePow, Nat.reduceLT, Nat.reduceAdd, Nat.reduceSub, Nat.reduceMul, Nat.reduceLeDiff, reduceIte, Nat.reduceEqDiff, Nat.reduceBEq, Try.ntmps100, cW_eq, h1, h1, h2, rB_get h2, hgo, hcl, bg0f]) <;> exact rfl
  apply W_pre [8, 9, 10, 11] [12, 13, 14, 15, 16, 17]
  · (simp only [go_sem, Nat.reducePow, Nat.reduceLT, Nat.reduceAdd, Nat.reduceSub, Nat.reduceMul, Nat.reduceLeDiff, reduceIte, Nat.reduceEqDiff, Nat.reduceBEq, Try.ntmps100, cW_eq, h1, h1, h2, rB_get h2, hgo, hcl, bg0f]) <;> exact rfl
  apply W_run
  · (simp only [go_sem, Nat.reducePow, Nat.reduceLT, Nat.reduceAdd, Nat.reduceSub, Nat.reduceMul, Nat.reduceLeDiff, reduceIte, Nat.reduceEqDiff, Nat.reduceBEq, Try.ntmps100, cW_eq, h1, h1, h2, rB_get h2, hgo, hcl, bg0f]) <;> exact rfl
  apply W_nil
  apply K_seq
  apply T_if
  · (simp only [go_sem, Nat.reducePow, Nat.reduceLT, Nat.reduceAdd, Nat.reduceSub, Nat.reduceMul, Nat.reduceLeDiff, reduceIte, Nat.reduceEqDiff, Nat.reduceBEq, Try.ntmps100, cW_eq, h1, h1, h2, rB_get h2, hgo, hcl, bg0f]) <;> exact rfl
  · intro bh2t
    have h2t := bh2t
    try simp only [beq_true, beq_false, decide_eq_true_eq, decide_eq_false_iff_not, Bool.not_eq_true', Bool.not_eq_false', Bool.not_eq_true, Bool.not_eq_false, ne_eq, Int.ofNat_lt, Int.ofNat_le, beq_iff_eq, bne_iff_ne, beq_eq_false_iff_ne, bne_eq_false_iff_eq, ge_iff_le, gt_iff_lt, Bool.not_true, Bool.not_false, Decidable.not_not, Int.natCast_inj, Int.natCast_nonneg] at h2t
    all_goals (first | (simp_all; done) | omega)
  · intro bh2f
    exact absurd bh2f (by simp))

theorem mv_goes0p (t : Town) (p0 : List Int) (lot : Int) (h1 : 0 ≤ lot) (h2 : lot.toNat < t.gone.length) (h3 : t.houses.length ≤ 1000) (hh : 0 < t.houses.length) (hok : M.gone t lot = true ∨ M.rank t 0 lot < 0) : Pan Try.prog 100 [.agg (cW t p0), .nil, .int .i64 lot] (.iface 114 (.agg #[.int .i64 ((0 : Nat) : Int)])) := by
  have hgo : t.gone[lot.toNat] = M.gone t lot := (M.gone_get h2).symm
  have hcl := True.intro
  apply Pan_intro (fn := Try.f100) Try.func100 rfl
  apply T_seq
  apply T_r F
  · (simp only [go_sem, Nat.reducePow, Nat.reduceLT, Nat.reduceAdd, Nat.reduceSub, Nat.reduceMul, Nat.reduceLeDiff, reduceIte, Nat.reduceEqDiff, Nat.reduceBEq, Try.ntmps100, cW_eq, h1, h1, h2, rB_get h2, hgo, hcl]) <;> exact rfl
  apply K_seq
  apply T_seq
  apply T_r F
  · (simp only [go_sem, Nat.reducePow, Nat.reduceLT, Nat.reduceAdd, Nat.reduceSub, Nat.reduceMul, Nat.reduceLeDiff, reduceIte, Nat.reduceEqDiff, Nat.reduceBEq, Try.ntmps100, cW_eq, h1, h1, h2, rB_get h2, hgo, hcl]) <;> exact rfl
  apply K_seq
  apply T_seq
  apply T_seq
  apply T_wL F [0, 1, 2, 3, 4, 5, 6, 7, 8, 9, 10, 11, 12, 13, 14, 15, 16, 17] rfl
  apply W_pre [0, 1] [2, 3, 4, 5, 6, 7, 8, 9, 10, 11, 12, 13, 14, 15, 16, 17]
  · (simp only [go_sem, Nat.reducePow, Nat.reduceLT, Nat.reduceAdd, Nat.reduceSub, Nat.reduceMul, Nat.reduceLeDiff, reduceIte, Nat.reduceEqDiff, Nat.reduceBEq, Try.ntmps100, cW_eq, h1, h1, h2, rB_get h2, hgo, hcl]) <;> exact rfl
  apply W_call -- call 0 of function 86
  · (simp only [go_sem, Nat.reducePow, Nat.reduceLT, Nat.reduceAdd, Nat.reduceSub, Nat.reduceMul, Nat.reduceLeDiff, reduceIte, Nat.reduceEqDiff, Nat.reduceBEq, Try.ntmps100, cW_eq, h1, h1, h2, rB_get h2, hgo, hcl]) <;> exact rfl
  · (simp only [go_sem, Nat.reducePow, Nat.reduceLT, Nat.reduceAdd, Nat.reduceSub, Nat.reduceMul, Nat.reduceLeDiff, reduceIte, Nat.reduceEqDiff, Nat.reduceBEq, Try.ntmps100, cW_eq, h1, h1, h2, rB_get h2, hgo, hcl]) <;> exact rfl
  · exact rfl
  · (simp only [go_sem, Nat.reducePow, Nat.reduceLT, Nat.reduceAdd, Nat.reduceSub, Nat.reduceMul, Nat.reduceLeDiff, reduceIte, Nat.reduceEqDiff, Nat.reduceBEq, Try.ntmps100, cW_eq, h1, h1, h2, rB_get h2, hgo, hcl]) <;> exact rfl
  · (simp only [go_sem, Nat.reducePow, Nat.reduceLT, Nat.reduceAdd, Nat.reduceSub, Nat.reduceMul, Nat.reduceLeDiff, reduceIte, Nat.reduceEqDiff, Nat.reduceBEq, Try.ntmps100, cW_eq, h1, h1, h2, rB_get h2, hgo, hcl]) <;> exact rfl
  · exact ⟨_, Try.func86, rfl, rfl⟩
  · (simp only [go_sem, Nat.reducePow, Nat.reduceLT, Nat.reduceAdd, Nat.reduceSub, Nat.reduceMul, Nat.reduceLeDiff, reduceIte, Nat.reduceEqDiff, Nat.reduceBEq, Try.ntmps100, cW_eq, h1, h1, h2, rB_get h2, hgo, hcl]) <;> exact rfl
  · (simp only [go_sem, Nat.reducePow, Nat.reduceLT, Nat.reduceAdd, Nat.reduceSub, Nat.reduceMul, Nat.reduceLeDiff, reduceIte, Nat.reduceEqDiff, Nat.reduceBEq, Try.ntmps100, cW_eq, h1, h1, h2, rB_get h2, hgo, hcl]) <;> exact rfl
  · exact Ret.wk (sl_contains [] lot) (.cons (.nil 1) (.cons (.refl _) .nil))
  apply W_pre [3] [4, 5, 6, 7, 8, 9, 10, 11, 12, 13, 14, 15, 16, 17]
  · (simp only [go_sem, Nat.reducePow, Nat.reduceLT, Nat.reduceAdd, Nat.reduceSub, Nat.reduceMul, Nat.reduceLeDiff, reduceIte, Nat.reduceEqDiff, Nat.reduceBEq, Try.ntmps100, cW_eq, h1, h1, h2, rB_get h2, hgo, hcl]) <;> exact rfl
  apply W_guard
  · (simp only [go_sem, Nat.reducePow, Nat.reduceLT, Nat.reduceAdd, Nat.reduceSub, Nat.reduceMul, Nat.reduceLeDiff, reduceIte, Nat.reduceEqDiff, Nat.reduceBEq, Try.ntmps100, cW_eq, h1, h1, h2, rB_get h2, hgo, hcl]) <;> exact rfl
  · (simp only [go_sem, Nat.reducePow, Nat.reduceLT, Nat.reduceAdd, Nat.reduceSub, Nat.reduceMul, Nat.reduceLeDiff, reduceIte, Nat.reduceEqDiff, Nat.reduceBEq, Try.ntmps100, cW_eq, h1, h1, h2, rB_get h2, hgo, hcl]) <;> exact rfl
  · intro bg0t
    have g0t := bg0t
    try simp only [beq_true, beq_false, decide_eq_true_eq, decide_eq_false_iff_not, Bool.not_eq_true', Bool.not_eq_false', Bool.not_eq_true, Bool.not_eq_false, ne_eq, Int.ofNat_lt, Int.ofNat_le, beq_iff_eq, bne_iff_ne, beq_eq_false_iff_ne, bne_eq_false_iff_eq, ge_iff_le, gt_iff_lt, Bool.not_true, Bool.not_false, Decidable.not_not, Int.natCast_inj, Int.natCast_nonneg] at g0t
    try simp only [beq_true, beq_false, Bool.not_eq_true', Bool.not_eq_false', Bool.not_not, Bool.not_true, Bool.not_false] at bg0t
    try exact absurd bg0t (by decide)
    all_goals (
  apply W_pre [4, 5, 6, 7] [8, 9, 10, 11, 12, 13, 14, 15, 16, 17]
  · (simp only [go_sem, Nat.reducePow, Nat.reduceLT, Nat.reduceAdd, Nat.reduceSub, Nat.reduceMul, Nat.reduceLeDiff, reduceIte, Nat.reduceEqDiff, Nat.reduceBEq, Try.ntmps100, cW_eq, h1, h1, h2, rB_get h2, hgo, hcl, bg0t]) <;> exact rfl
  apply W_pre [8, 9, 10, 11] [12, 13, 14, 15, 16, 17]
  · (simp only [go_sem, Nat.reducePow, Nat.reduceLT, Nat.reduceAdd, Nat.reduceSub, Nat.reduceMul, Nat.reduceLeDiff, reduceIte, Nat.reduceEqDiff, Nat.reduceBEq, Try.ntmps100, cW_eq, h1, h1, h2, rB_get h2, hgo, hcl, bg0t]) <;> exact rfl
  apply W_guard
  · (simp only [go_sem, Nat.reducePow, Nat.reduceLT, Nat.reduceAdd, Nat.reduceSub, Nat.reduceMul, Nat.reduceLeDiff, reduceIte, Nat.reduceEqDiff, Nat.reduceBEq, Try.ntmps100, cW_eq, h1, h1, h2, rB_get h2, hgo, hcl, bg0t]) <;> exact rfl
  · (simp only [go_sem, Nat.reducePow, Nat.reduceLT, Nat.reduceAdd, Nat.reduceSub, Nat.reduceMul, Nat.reduceLeDiff, reduceIte, Nat.reduceEqDiff, Nat.reduceBEq, Try.ntmps100, cW_eq, h1, h1, h2, rB_get h2, hgo, hcl, bg0t]) <;> exact rfl
  · intro bg1t
    have g1t := bg1t
    try simp only [beq_true, beq_false, decide_eq_true_eq, decide_eq_false_iff_not, Bool.not_eq_true', Bool.not_eq_false', Bool.not_eq_true, Bool.not_eq_false, ne_eq, Int.ofNat_lt, Int.ofNat_le, beq_iff_eq, bne_iff_ne, beq_eq_false_iff_ne, bne_eq_false_iff_eq, ge_iff_le, gt_iff_lt, Bool.not_true, Bool.not_false, Decidable.not_not, Int.natCast_inj, Int.natCast_nonneg] at g1t
    try simp only [beq_true, beq_false, Bool.not_eq_true', Bool.not_eq_false', Bool.not_not, Bool.not_true, Bool.not_false] at bg1t
    try exact absurd bg1t (by decide)
    all_goals (
  apply W_pre [12, 13, 14] [15, 16, 17]
  · (simp only [go_sem, Nat.reducePow, Nat.reduceLT, Nat.reduceAdd, Nat.reduceSub, Nat.reduceMul, Nat.reduceLeDiff, reduceIte, Nat.reduceEqDiff, Nat.reduceBEq, Try.ntmps100, cW_eq, h1, h1, h2, rB_get h2, hgo, hcl, bg0t, bg1t]) <;> exact rfl
  apply W_call -- call 1 of function 82
  · (simp only [go_sem, Nat.reducePow, Nat.reduceLT, Nat.reduceAdd, Nat.reduceSub, Nat.reduceMul, Nat.reduceLeDiff, reduceIte, Nat.reduceEqDiff, Nat.reduceBEq, Try.ntmps100, cW_eq, h1, h1, h2, rB_get h2, hgo, hcl, bg0t, bg1t]) <;> exact rfl
  · (simp only [go_sem, Nat.reducePow, Nat.reduceLT, Nat.reduceAdd, Nat.reduceSub, Nat.reduceMul, Nat.reduceLeDiff, reduceIte, Nat.reduceEqDiff, Nat.reduceBEq, Try.ntmps100, cW_eq, h1, h1, h2, rB_get h2, hgo, hcl, bg0t, bg1t]) <;> exact rfl
  · exact rfl
  · (simp only [go_sem, Nat.reducePow, Nat.reduceLT, Nat.reduceAdd, Nat.reduceSub, Nat.reduceMul, Nat.reduceLeDiff, reduceIte, Nat.reduceEqDiff, Nat.reduceBEq, Try.ntmps100, cW_eq, h1, h1, h2, rB_get h2, hgo, hcl, bg0t, bg1t]) <;> exact rfl
  · (simp only [go_sem, Nat.reducePow, Nat.reduceLT, Nat.reduceAdd, Nat.reduceSub, Nat.reduceMul, Nat.reduceLeDiff, reduceIte, Nat.reduceEqDiff, Nat.reduceBEq, Try.ntmps100, cW_eq, h1, h1, h2, rB_get h2, hgo, hcl, bg0t, bg1t]) <;> exact rfl
  · exact ⟨_, Try.func82, rfl, rfl⟩
  · (simp only [go_sem, Nat.reducePow, Nat.reduceLT, Nat.reduceAdd, Nat.reduceSub, Nat.reduceMul, Nat.reduceLeDiff, reduceIte, Nat.reduceEqDiff, Nat.reduceBEq, Try.ntmps100, cW_eq, h1, h1, h2, rB_get h2, hgo, hcl, bg0t, bg1t]) <;> exact rfl
  · (simp only [go_sem, Nat.reducePow, Nat.reduceLT, Nat.reduceAdd, Nat.reduceSub, Nat.reduceMul, Nat.reduceLeDiff, reduceIte, Nat.reduceEqDiff, Nat.reduceBEq, Try.ntmps100, cW_eq, h1, h1, h2, rB_get h2, hgo, hcl, bg0t, bg1t]) <;> exact rfl
  · exact mv_rank t p0 (0) lot hh
  apply W_run
  · (simp only [go_sem, Nat.reducePow, Nat.reduceLT, Nat.reduceAdd, Nat.reduceSub, Nat.reduceMul, Nat.reduceLeDiff, reduceIte, Nat.reduceEqDiff, Nat.reduceBEq, Try.ntmps100, cW_eq, h1, h1, h2, rB_get h2, hgo, hcl, bg0t, bg1t]) <;> exact rfl
  apply W_nil
  apply K_seq
  apply T_if
  · (simp only [go_sem, Nat.reducePow, Nat.reduceLT, Nat.reduceAdd, Nat.reduceSub, Nat.reduceMul, Nat.reduceLeDiff, reduceIte, Nat.reduceEqDiff, Nat.reduceBEq, Try.ntmps100, cW_eq, h1, h1, h2, rB_get h2, hgo, hcl, bg0t, bg1t]) <;> exact rfl
  · intro bh0t
    have h0t := bh0t
    try simp only [beq_true, beq_false, decide_eq_true_eq, decide_eq_false_iff_not, Bool.not_eq_true', Bool.not_eq_false', Bool.not_eq_true, Bool.not_eq_false, ne_eq, Int.ofNat_lt, Int.ofNat_le, beq_iff_eq, bne_iff_ne, beq_eq_false_iff_ne, bne_eq_false_iff_eq, ge_iff_le, gt_iff_lt, Bool.not_true, Bool.not_false, Decidable.not_not, Int.natCast_inj, Int.natCast_nonneg] at h0t
    try simp only [beq_true, beq_false, Bool.not_eq_true', Bool.not_eq_false', Bool.not_not, Bool.not_true, Bool.not_false] at bh0t
    try exact absurd bh0t (by decide)
    all_goals (
  apply T_panW F (l := [0, 1, 2]) (i := 3) rfl
  apply W_run
  · (simp only [go_sem, Nat.reducePow, Nat.reduceLT, Nat.reduceAdd, Nat.reduceSub, Nat.reduceMul, Nat.reduceLeDiff, reduceIte, Nat.reduceEqDiff, Nat.reduceBEq, Try.ntmps100, cW_eq, h1, h1, h2, rB_get h2, hgo, hcl, bg0t, bg1t, bh0t]) <;> exact rfl
  apply W_nil
  refine ⟨_, _, _, _, rfl, rfl, rfl, rfl, rfl, ?_⟩
  apply K_seqP
  -- leaf 0 (pan)
  rfl)
  · intro bh0f
    have h0f := bh0f
    try simp only [beq_true, beq_false, decide_eq_true_eq, decide_eq_false_iff_not, Bool.not_eq_true', Bool.not_eq_false', Bool.not_eq_true, Bool.not_eq_false, ne_eq, Int.ofNat_lt, Int.ofNat_le, beq_iff_eq, bne_iff_ne, beq_eq_false_iff_ne, bne_eq_false_iff_eq, ge_iff_le, gt_iff_lt, Bool.not_true, Bool.not_false, Decidable.not_not, Int.natCast_inj, Int.natCast_nonneg] at h0f
    all_goals (first | (simp_all; done) | omega))
  · intro bg1f
    have g1f := bg1f
    try simp only [beq_true, beq_false, decide_eq_true_eq, decide_eq_false_iff_not, Bool.not_eq_true', Bool.not_eq_false', Bool.not_eq_true, Bool.not_eq_false, ne_eq, Int.ofNat_lt, Int.ofNat_le, beq_iff_eq, bne_iff_ne, beq_eq_false_iff_ne, bne_eq_false_iff_eq, ge_iff_le, gt_iff_lt, Bool.not_true, Bool.not_false, Decidable.not_not, Int.natCast_inj, Int.natCast_nonneg] at g1f
    try simp only [beq_true, beq_false, Bool.not_eq_true', Bool.not_eq_false', Bool.not_not, Bool.not_true, Bool.not_false] at bg1f
    try exact absurd bg1f (by decide)
    all_goals (
  apply W_run
  · (simp only [go_sem, Nat.reducePow, Nat.reduceLT, Nat.reduceAdd, Nat.reduceSub, Nat.reduceMul, Nat.reduceLeDiff, reduceIte, Nat.reduceEqDiff, Nat.reduceBEq, Try.ntmps100, cW_eq, h1, h1, h2, rB_get h2, hgo, hcl, bg0t, bg1f]) <;> exact rfl
  apply W_nil
  apply K_seq
  apply T_if
  · (simp only [go_sem, Nat.reducePow, Nat.reduceLT, Nat.reduceAdd, Nat.reduceSub, Nat.reduceMul, Nat.reduceLeDiff, reduceIte, Nat.reduceEqDiff, Nat.reduceBEq, Try.ntmps100, cW_eq, h1, h1, h2, rB_get h2, hgo, hcl, bg0t, bg1f]) <;> exact rfl
  · intro bh1t
    have h1t := bh1t
    try simp only [beq_true, beq_false, decide_eq_true_eq, decide_eq_false_iff_not, Bool.not_eq_true', Bool.not_eq_false', Bool.not_eq_true, Bool.not_eq_false, ne_eq, Int.ofNat_lt, Int.ofNat_le, beq_iff_eq, bne_iff_ne, beq_eq_false_iff_ne, bne_eq_false_iff_eq, ge_iff_le, gt_iff_lt, Bool.not_true, Bool.not_false, Decidable.not_not, Int.natCast_inj, Int.natCast_nonneg] at h1t
    try simp only [beq_true, beq_false, Bool.not_eq_true', Bool.not_eq_false', Bool.not_not, Bool.not_true, Bool.not_false] at bh1t
    try exact absurd bh1t (by decide)
    all_goals (
  apply T_panW F (l := [0, 1, 2]) (i := 3) rfl
  apply W_run
  · (simp only [go_sem, Nat.reducePow, Nat.reduceLT, Nat.reduceAdd, Nat.reduceSub, Nat.reduceMul, Nat.reduceLeDiff, reduceIte, Nat.reduceEqDiff, Nat.reduceBEq, Try.ntmps100, cW_eq, h1, h1, h2, rB_get h2, hgo, hcl, bg0t, bg1f, bh1t]) <;> exact rfl
  apply W_nil
  refine ⟨_, _, _, _, rfl, rfl, rfl, rfl, rfl, ?_⟩
  apply K_seqP
  -- leaf 1 (pan)
  rfl)
  · intro bh1f
    exact absurd bh1f (by simp)))
  · intro bg0f
    have g0f := bg0f
    try simp only [beq_true, beq_false, decide_eq_true_eq, decide_eq_false_iff_not, Bool.not_eq_true', Bool.not_eq_false', Bool.not_eq_true, Bool.not_eq_false, ne_eq, Int.ofNat_lt, Int.ofNat_le, beq_iff_eq, bne_iff_ne, beq_eq_false_iff_ne, bne_eq_false_iff_eq, ge_iff_le, gt_iff_lt, Bool.not_true, Bool.not_false, Decidable.not_not, Int.natCast_inj, Int.natCast_nonneg] at g0f
    try simp only [beq_true, beq_false, Bool.not_eq_true', Bool.not_eq_false', Bool.not_not, Bool.not_true, Bool.not_false] at bg0f
    try exact absurd bg0f (by decide)
    all_goals (
  apply W_pre [4, 5, 6, 7] [8, 9, 10, 11, 12, 13, 14, 15, 16, 17]
  · (simp only [go_sem, Nat.reducePow, Nat.reduceLT, Nat.reduceAdd, Nat.reduceSub, Nat.reduceMul, Nat.reduceLeDiff, reduceIte, Nat.reduceEqDiff, Nat.reduceBEq, Try.ntmps100, cW_eq, h1, h1, h2, rB_get h2, hgo, hcl, bg0f]) <;> exact rfl
  apply W_pre [8, 9, 10, 11] [12, 13, 14, 15, 16, 17]
  · (simp only [go_sem, Nat.reducePow, Nat.reduceLT, Nat.reduceAdd, Nat.reduceSub, Nat.reduceMul, Nat.reduceLeDiff, reduceIte, Nat.reduceEqDiff, Nat.reduceBEq, Try.ntmps100, cW_eq, h1, h1, h2, rB_get h2, hgo, hcl, bg0f]) <;> exact rfl
  apply W_run
  · (simp only [go_sem, Nat.reducePow, Nat.reduceLT, Nat.reduceAdd, Nat.reduceSub, Nat.reduceMul, Nat.reduceLeDiff, reduceIte, Nat.reduceEqDiff, Nat.reduceBEq, Try.ntmps100, cW_eq, h1, h1, h2, rB_get h2, hgo, hcl, bg0f]) <;> exact rfl
  apply W_nil
  apply K_seq
  apply T_if
  · (simp only [go_sem, Nat.reducePow, Nat.reduceLT, Nat.reduceAdd, Nat.reduceSub, Nat.reduceMul, Nat.reduceLeDiff, reduceIte, Nat.reduceEqDiff, Nat.reduceBEq, Try.ntmps100, cW_eq, h1, h1, h2, rB_get h2, hgo, hcl, bg0f]) <;> exact rfl
  · intro bh2t
    have h2t := bh2t
    try simp only [beq_true, beq_false, decide_eq_true_eq, decide_eq_false_iff_not, Bool.not_eq_true', Bool.not_eq_false', Bool.not_eq_true, Bool.not_eq_false, ne_eq, Int.ofNat_lt, Int.ofNat_le, beq_iff_eq, bne_iff_ne, beq_eq_false_iff_ne, bne_eq_false_iff_eq, ge_iff_le, gt_iff_lt, Bool.not_true, Bool.not_false, Decidable.not_not, Int.natCast_inj, Int.natCast_nonneg] at h2t
    try simp only [beq_true, beq_false, Bool.not_eq_true', Bool.not_eq_false', Bool.not_not, Bool.not_true, Bool.not_false] at bh2t
    try exact absurd bh2t (by decide)
    all_goals (
  apply T_panW F (l := [0, 1, 2]) (i := 3) rfl
  apply W_run
  · (simp only [go_sem, Nat.reducePow, Nat.reduceLT, Nat.reduceAdd, Nat.reduceSub, Nat.reduceMul, Nat.reduceLeDiff, reduceIte, Nat.reduceEqDiff, Nat.reduceBEq, Try.ntmps100, cW_eq, h1, h1, h2, rB_get h2, hgo, hcl, bg0f, bh2t]) <;> exact rfl
  apply W_nil
  refine ⟨_, _, _, _, rfl, rfl, rfl, rfl, rfl, ?_⟩
  apply K_seqP
  -- leaf 2 (pan)
  rfl)
  · intro bh2f
    exact absurd bh2f (by simp))

theorem mv_goes1 (t : Town) (p0 : List Int) (lot : Int) (h1 : 0 ≤ lot) (h2 : lot.toNat < t.gone.length) (h3 : t.houses.length ≤ 1000) (x : Int) (l : List Int) (hh : (x :: l).length < t.houses.length) (hok : (x :: l).contains lot = false ∧ M.gone t lot = false ∧ ¬ M.rank t (x :: l).length lot < 0) : Ret Try.prog 100 [.agg (cW t p0), .sl 1 (rI (x :: l)), .int .i64 lot] (.sl 1 (rI (x :: l) ++ [[.int .i64 lot]])) := by
  have hgo : t.gone[lot.toNat] = M.gone t lot := (M.gone_get h2).symm
  have hcl := rI_length (x :: l)
  have hap : rI (x :: l) ++ [[.int .i64 lot]] = rI ((x :: l) ++ [lot]) := by simp [rI]
  have hcap : (l.length + 1 + 1) * 8 ≤ 140737488355328 := by simp only [List.length_cons] at hh; omega
  obtain ⟨c, hcon⟩ : ∃ c, (x :: l).contains lot = c := ⟨_, rfl⟩
  rw [hcon] at hok
  apply Ret_fin (fn := Try.f100) Try.func100 rfl
  apply T_seq
  apply T_r F
  · (simp only [go_sem, Nat.reducePow, Nat.reduceLT, Nat.reduceAdd, Nat.reduceSub, Nat.reduceMul, Nat.reduceLeDiff, reduceIte, Nat.reduceEqDiff, Nat.reduceBEq, Try.ntmps100, cW_eq, hcap, h1, h2, rB_get h2, hgo, hcl]) <;> exact rfl
  apply K_seq
  apply T_seq
  apply T_r F
  · (simp only [go_sem, Nat.reducePow, Nat.reduceLT, Nat.reduceAdd, Nat.reduceSub, Nat.reduceMul, Nat.reduceLeDiff, reduceIte, Nat.reduceEqDiff, Nat.reduceBEq, Try.ntmps100, cW_eq, hcap, h1, h2, rB_get h2, hgo, hcl]) <;> exact rfl
  apply K_seq
  apply T_seq
  apply T_seq
  apply T_wL F [0, 1, 2, 3, 4, 5, 6, 7, 8, 9, 10, 11, 12, 13, 14, 15, 16, 17] rfl
  apply W_pre [0, 1] [2, 3, 4, 5, 6, 7, 8, 9, 10, 11, 12, 13, 14, 15, 16, 17]
  · (simp only [go_sem, Nat.reducePow, Nat.reduceLT, Nat.reduceAdd, Nat.reduceSub, Nat.reduceMul, Nat.reduceLeDiff, reduceIte, Nat.reduceEqDiff, Nat.reduceBEq, Try.ntmps100, cW_eq, hcap, h1, h2, rB_get h2, hgo, hcl]) <;> exact rfl
  apply W_call -- call 0 of function 86
  · (simp only [go_sem, Nat.reducePow, Nat.reduceLT, Nat.reduceAdd, Nat.reduceSub, Nat.reduceMul, Nat.reduceLeDiff, reduceIte, Nat.reduceEqDiff, Nat.reduceBEq, Try.ntmps100, cW_eq, hcap, h1, h2, rB_get h2, hgo, hcl]) <;> exact rfl
  · (simp only [go_sem, Nat.reducePow, Nat.reduceLT, Nat.reduceAdd, Nat.reduceSub, Nat.reduceMul, Nat.reduceLeDiff, reduceIte, Nat.reduceEqDiff, Nat.reduceBEq, Try.ntmps100, cW_eq, hcap, h1, h2, rB_get h2, hgo, hcl]) <;> exact rfl
  · exact rfl
  · (simp only [go_sem, Nat.reducePow, Nat.reduceLT, Nat.reduceAdd, Nat.reduceSub, Nat.reduceMul, Nat.reduceLeDiff, reduceIte, Nat.reduceEqDiff, Nat.reduceBEq, Try.ntmps100, cW_eq, hcap, h1, h2, rB_get h2, hgo, hcl]) <;> exact rfl
  · (simp only [go_sem, Nat.reducePow, Nat.reduceLT, Nat.reduceAdd, Nat.reduceSub, Nat.reduceMul, Nat.reduceLeDiff, reduceIte, Nat.reduceEqDiff, Nat.reduceBEq, Try.ntmps100, cW_eq, hcap, h1, h2, rB_get h2, hgo, hcl]) <;> exact rfl
  · exact ⟨_, Try.func86, rfl, rfl⟩
  · (simp only [go_sem, Nat.reducePow, Nat.reduceLT, Nat.reduceAdd, Nat.reduceSub, Nat.reduceMul, Nat.reduceLeDiff, reduceIte, Nat.reduceEqDiff, Nat.reduceBEq, Try.ntmps100, cW_eq, hcap, h1, h2, rB_get h2, hgo, hcl]) <;> exact rfl
  · (simp only [go_sem, Nat.reducePow, Nat.reduceLT, Nat.reduceAdd, Nat.reduceSub, Nat.reduceMul, Nat.reduceLeDiff, reduceIte, Nat.reduceEqDiff, Nat.reduceBEq, Try.ntmps100, cW_eq, hcap, h1, h2, rB_get h2, hgo, hcl]) <;> exact rfl
  · exact hcon ▸ sl_contains (x :: l) lot
  apply W_pre [3] [4, 5, 6, 7, 8, 9, 10, 11, 12, 13, 14, 15, 16, 17]
  · (simp only [go_sem, Nat.reducePow, Nat.reduceLT, Nat.reduceAdd, Nat.reduceSub, Nat.reduceMul, Nat.reduceLeDiff, reduceIte, Nat.reduceEqDiff, Nat.reduceBEq, Try.ntmps100, cW_eq, hcap, h1, h2, rB_get h2, hgo, hcl]) <;> exact rfl
  apply W_guard
  · (simp only [go_sem, Nat.reducePow, Nat.reduceLT, Nat.reduceAdd, Nat.reduceSub, Nat.reduceMul, Nat.reduceLeDiff, reduceIte, Nat.reduceEqDiff, Nat.reduceBEq, Try.ntmps100, cW_eq, hcap, h1, h2, rB_get h2, hgo, hcl]) <;> exact rfl
  · (simp only [go_sem, Nat.reducePow, Nat.reduceLT, Nat.reduceAdd, Nat.reduceSub, Nat.reduceMul, Nat.reduceLeDiff, reduceIte, Nat.reduceEqDiff, Nat.reduceBEq, Try.ntmps100, cW_eq, hcap, h1, h2, rB_get h2, hgo, hcl]) <;> exact rfl
  · intro bg0t
    have g0t := bg0t
    try simp only [beq_true, beq_false, decide_eq_true_eq, decide_eq_false_iff_not, Bool.not_eq_true', Bool.not_eq_false', Bool.not_eq_true, Bool.not_eq_false, ne_eq, Int.ofNat_lt, Int.ofNat_le, beq_iff_eq, bne_iff_ne, beq_eq_false_iff_ne, bne_eq_false_iff_eq, ge_iff_le, gt_iff_lt, Bool.not_true, Bool.not_false, Decidable.not_not, Int.natCast_inj, Int.natCast_nonneg] at g0t
    try simp only [beq_true, beq_false, Bool.not_eq_true', Bool.not_eq_false', Bool.not_not, Bool.not_true, Bool.not_false] at bg0t
    try exact absurd bg0t (by decide)
    all_goals (
  apply W_pre [4, 5, 6, 7] [8, 9, 10, 11, 12, 13, 14, 15, 16, 17]
  · (simp only [go_sem, Nat.reducePow, Nat.reduceLT, Nat.reduceAdd, Nat.reduceSub, Nat.reduceMul, Nat.reduceLeDiff, reduceIte, Nat.reduceEqDiff, Nat.reduceBEq, Try.ntmps100, cW_eq, hcap, h1, h2, rB_get h2, hgo, hcl, bg0t]) <;> exact rfl
  apply W_pre [8, 9, 10, 11] [12, 13, 14, 15, 16, 17]
  · (simp only [go_sem, Nat.reducePow, Nat.reduceLT, Nat.reduceAdd, Nat.reduceSub, Nat.reduceMul, Nat.reduceLeDiff, reduceIte, Nat.reduceEqDiff, Nat.reduceBEq, Try.ntmps100, cW_eq, hcap, h1, h2, rB_get h2, hgo, hcl, bg0t]) <;> exact rfl
  apply W_guard
  · (simp only [go_sem, Nat.reducePow, Nat.reduceLT, Nat.reduceAdd, Nat.reduceSub, Nat.reduceMul, Nat.reduceLeDiff, reduceIte, Nat.reduceEqDiff, Nat.reduceBEq, Try.ntmps100, cW_eq, hcap, h1, h2, rB_get h2, hgo, hcl, bg0t]) <;> exact rfl
  · (simp only [go_sem, Nat.reducePow, Nat.reduceLT, Nat.reduceAdd, Nat.reduceSub, Nat.reduceMul, Nat.reduceLeDiff, reduceIte, Nat.reduceEqDiff, Nat.reduceBEq, Try.ntmps100, cW_eq, hcap, h1, h2, rB_get h2, hgo, hcl, bg0t]) <;> exact rfl
  · intro bg1t
    have g1t := bg1t
    try simp only [beq_true, beq_false, decide_eq_true_eq, decide_eq_false_iff_not, Bool.not_eq_true', Bool.not_eq_false', Bool.not_eq_true, Bool.not_eq_false, ne_eq, Int.ofNat_lt, Int.ofNat_le, beq_iff_eq, bne_iff_ne, beq_eq_false_iff_ne, bne_eq_false_iff_eq, ge_iff_le, gt_iff_lt, Bool.not_true, Bool.not_false, Decidable.not_not, Int.natCast_inj, Int.natCast_nonneg] at g1t
    try simp only [beq_true, beq_false, Bool.not_eq_true', Bool.not_eq_false', Bool.not_not, Bool.not_true, Bool.not_false] at bg1t
    try exact absurd bg1t (by decide)
    all_goals (
  apply W_pre [12, 13, 14] [15, 16, 17]
  · (simp only [go_sem, Nat.reducePow, Nat.reduceLT, Nat.reduceAdd, Nat.reduceSub, Nat.reduceMul, Nat.reduceLeDiff, reduceIte, Nat.reduceEqDiff, Nat.reduceBEq, Try.ntmps100, cW_eq, hcap, h1, h2, rB_get h2, hgo, hcl, bg0t, bg1t]) <;> exact rfl
  apply W_call -- call 1 of function 82
  · (simp only [go_sem, Nat.reducePow, Nat.reduceLT, Nat.reduceAdd, Nat.reduceSub, Nat.reduceMul, Nat.reduceLeDiff, reduceIte, Nat.reduceEqDiff, Nat.reduceBEq, Try.ntmps100, cW_eq, hcap, h1, h2, rB_get h2, hgo, hcl, bg0t, bg1t]) <;> exact rfl
  · (simp only [go_sem, Nat.reducePow, Nat.reduceLT, Nat.reduceAdd, Nat.reduceSub, Nat.reduceMul, Nat.reduceLeDiff, reduceIte, Nat.reduceEqDiff, Nat.reduceBEq, Try.ntmps100, cW_eq, hcap, h1, h2, rB_get h2, hgo, hcl, bg0t, bg1t]) <;> exact rfl
  · exact rfl
  · (simp only [go_sem, Nat.reducePow, Nat.reduceLT, Nat.reduceAdd, Nat.reduceSub, Nat.reduceMul, Nat.reduceLeDiff, reduceIte, Nat.reduceEqDiff, Nat.reduceBEq, Try.ntmps100, cW_eq, hcap, h1, h2, rB_get h2, hgo, hcl, bg0t, bg1t]) <;> exact rfl
  · (simp only [go_sem, Nat.reducePow, Nat.reduceLT, Nat.reduceAdd, Nat.reduceSub, Nat.reduceMul, Nat.reduceLeDiff, reduceIte, Nat.reduceEqDiff, Nat.reduceBEq, Try.ntmps100, cW_eq, hcap, h1, h2, rB_get h2, hgo, hcl, bg0t, bg1t]) <;> exact rfl
  · exact ⟨_, Try.func82, rfl, rfl⟩
  · (simp only [go_sem, Nat.reducePow, Nat.reduceLT, Nat.reduceAdd, Nat.reduceSub, Nat.reduceMul, Nat.reduceLeDiff, reduceIte, Nat.reduceEqDiff, Nat.reduceBEq, Try.ntmps100, cW_eq, hcap, h1, h2, rB_get h2, hgo, hcl, bg0t, bg1t]) <;> exact rfl
  · (simp only [go_sem, Nat.reducePow, Nat.reduceLT, Nat.reduceAdd, Nat.reduceSub, Nat.reduceMul, Nat.reduceLeDiff, reduceIte, Nat.reduceEqDiff, Nat.reduceBEq, Try.ntmps100, cW_eq, hcap, h1, h2, rB_get h2, hgo, hcl, bg0t, bg1t]) <;> exact rfl
  · exact mv_rank t p0 ((x :: l).length) lot hh
  apply W_run
  · (simp only [go_sem, Nat.reducePow, Nat.reduceLT, Nat.reduceAdd, Nat.reduceSub, Nat.reduceMul, Nat.reduceLeDiff, reduceIte, Nat.reduceEqDiff, Nat.reduceBEq, Try.ntmps100, cW_eq, hcap, h1, h2, rB_get h2, hgo, hcl, bg0t, bg1t]) <;> exact rfl
  apply W_nil
  apply K_seq
  apply T_if
  · (simp only [go_sem, Nat.reducePow, Nat.reduceLT, Nat.reduceAdd, Nat.reduceSub, Nat.reduceMul, Nat.reduceLeDiff, reduceIte, Nat.reduceEqDiff, Nat.reduceBEq, Try.ntmps100, cW_eq, hcap, h1, h2, rB_get h2, hgo, hcl, bg0t, bg1t]) <;> exact rfl
  · intro bh0t
    have h0t := bh0t
    try simp only [beq_true, beq_false, decide_eq_true_eq, decide_eq_false_iff_not, Bool.not_eq_true', Bool.not_eq_false', Bool.not_eq_true, Bool.not_eq_false, ne_eq, Int.ofNat_lt, Int.ofNat_le, beq_iff_eq, bne_iff_ne, beq_eq_false_iff_ne, bne_eq_false_iff_eq, ge_iff_le, gt_iff_lt, Bool.not_true, Bool.not_false, Decidable.not_not, Int.natCast_inj, Int.natCast_nonneg] at h0t
    all_goals (first | (simp_all; done) | omega)
  · intro bh0f
    have h0f := bh0f
    try simp only [beq_true, beq_false, decide_eq_true_eq, decide_eq_false_iff_not, Bool.not_eq_true', Bool.not_eq_false', Bool.not_eq_true, Bool.not_eq_false, ne_eq, Int.ofNat_lt, Int.ofNat_le, beq_iff_eq, bne_iff_ne, beq_eq_false_iff_ne, bne_eq_false_iff_eq, ge_iff_le, gt_iff_lt, Bool.not_true, Bool.not_false, Decidable.not_not, Int.natCast_inj, Int.natCast_nonneg] at h0f
    try simp only [beq_true, beq_false, Bool.not_eq_true', Bool.not_eq_false', Bool.not_not, Bool.not_true, Bool.not_false] at bh0f
    try exact absurd bh0f (by decide)
    all_goals (
  apply T_skip
  apply K_seq
  apply T_seq
  apply T_wL F [0, 1, 2, 3, 4, 5] rfl
  apply W_pre [0] [1, 2, 3, 4, 5]
  · (simp only [go_sem, Nat.reducePow, Nat.reduceLT, Nat.reduceAdd, Nat.reduceSub, Nat.reduceMul, Nat.reduceLeDiff, reduceIte, Nat.reduceEqDiff, Nat.reduceBEq, Try.ntmps100, cW_eq, hcap, h1, h2, rB_get h2, hgo, hcl, bg0t, bg1t, bh0f]) <;> exact rfl
  apply W_callS -- call 2
  · (simp only [go_sem, Nat.reducePow, Nat.reduceLT, Nat.reduceAdd, Nat.reduceSub, Nat.reduceMul, Nat.reduceLeDiff, reduceIte, Nat.reduceEqDiff, Nat.reduceBEq, Try.ntmps100, cW_eq, hcap, h1, h2, rB_get h2, hgo, hcl, bg0t, bg1t, bh0f]) <;> exact rfl
  · (simp only [go_sem, Nat.reducePow, Nat.reduceLT, Nat.reduceAdd, Nat.reduceSub, Nat.reduceMul, Nat.reduceLeDiff, reduceIte, Nat.reduceEqDiff, Nat.reduceBEq, Try.ntmps100, cW_eq, hcap, h1, h2, rB_get h2, hgo, hcl, bg0t, bg1t, bh0f]) <;> exact rfl
  · exact rfl
  · (simp only [go_sem, Nat.reducePow, Nat.reduceLT, Nat.reduceAdd, Nat.reduceSub, Nat.reduceMul, Nat.reduceLeDiff, reduceIte, Nat.reduceEqDiff, Nat.reduceBEq, Try.ntmps100, cW_eq, hcap, h1, h2, rB_get h2, hgo, hcl, bg0t, bg1t, bh0f]) <;> exact rfl
  · (simp only [go_sem, Nat.reducePow, Nat.reduceLT, Nat.reduceAdd, Nat.reduceSub, Nat.reduceMul, Nat.reduceLeDiff, reduceIte, Nat.reduceEqDiff, Nat.reduceBEq, Try.ntmps100, cW_eq, hcap, h1, h2, rB_get h2, hgo, hcl, bg0t, bg1t, bh0f]) <;> exact rfl
  · exact ⟨_, Try.func102, rfl, rfl⟩
  · exact sl_clone x l [.box 69 (cW t p0)] (closed_W t p0) (by simp only [List.length_cons] at hh ⊢; omega)
  apply W_run
  · (simp only [go_sem, Nat.reducePow, Nat.reduceLT, Nat.reduceAdd, Nat.reduceSub, Nat.reduceMul, Nat.reduceLeDiff, reduceIte, Nat.reduceEqDiff, Nat.reduceBEq, Try.ntmps100, cW_eq, hcap, h1, h2, rB_get h2, hgo, hcl, bg0t, bg1t, bh0f]) <;> exact rfl
  apply W_nil
  apply K_seq
  apply T_ret
  apply fin_ret
  · (simp only [go_sem, Nat.reducePow, Nat.reduceLT, Nat.reduceAdd, Nat.reduceSub, Nat.reduceMul, Nat.reduceLeDiff, reduceIte, Nat.reduceEqDiff, Nat.reduceBEq, Try.ntmps100, cW_eq, hcap, h1, h2, rB_get h2, hgo, hcl, bg0t, bg1t, bh0f, Try.f100]) <;> exact rfl
  -- leaf 0 (ret)
  simp only [go_sem, Nat.reducePow, Nat.reduceLT, Nat.reduceAdd, Nat.reduceSub, Nat.reduceMul, Nat.reduceLeDiff, reduceIte, Nat.reduceEqDiff, Nat.reduceBEq, Try.ntmps100, cW_eq, hcap, h1, h2, rB_get h2, hgo, hcl, bg0t, bg1t, bh0f, V.bool.injEq, V.int.injEq, true_and]
  rw [if_pos ⟨by simp [rI_length], by rw [hap, rI_all]⟩]))
  · intro bg1f
    have g1f := bg1f
    try simp only [beq_true, beq_false, decide_eq_true_eq, decide_eq_false_iff_not, Bool.not_eq_true', Bool.not_eq_false', Bool.not_eq_true, Bool.not_eq_false, ne_eq, Int.ofNat_lt, Int.ofNat_le, beq_iff_eq, bne_iff_ne, beq_eq_false_iff_ne, bne_eq_false_iff_eq, ge_iff_le, gt_iff_lt, Bool.not_true, Bool.not_false, Decidable.not_not, Int.natCast_inj, Int.natCast_nonneg] at g1f
    try simp only [beq_true, beq_false, Bool.not_eq_true', Bool.not_eq_false', Bool.not_not, Bool.not_true, Bool.not_false] at bg1f
    try exact absurd bg1f (by decide)
    all_goals (
  apply W_run
  · (simp only [go_sem, Nat.reducePow, Nat.reduceLT, Nat.reduceAdd, Nat.reduceSub, Nat.reduceMul, Nat.reduceLeDiff, reduceIte, Nat.reduceEqDiff, Nat.reduceBEq, Try.ntmps100, cW_eq, hcap, h1, h2, rB_get h2, hgo, hcl, bg0t, bg1f]) <;> exact rfl
  apply W_nil
  apply K_seq
  apply T_if
  · (simp only [go_sem, Nat.reducePow, Nat.reduceLT, Nat.reduceAdd, Nat.reduceSub, Nat.reduceMul, Nat.reduceLeDiff, reduceIte, Nat.reduceEqDiff, Nat.reduceBEq, Try.ntmps100, cW_eq, hcap, h1, h2, rB_get h2, hgo, hcl, bg0t, bg1f]) <;> exact rfl
  · intro bh1t
    have h1t := bh1t
    try simp only [beq_true, beq_false, decide_eq_true_eq, decide_eq_false_iff_not, Bool.not_eq_true', Bool.not_eq_false', Bool.not_eq_true, Bool.not_eq_false, ne_eq, Int.ofNat_lt, Int.ofNat_le, beq_iff_eq, bne_iff_ne, beq_eq_false_iff_ne, bne_eq_false_iff_eq, ge_iff_le, gt_iff_lt, Bool.not_true, Bool.not_false, Decidable.not_not, Int.natCast_inj, Int.natCast_nonneg] at h1t
    all_goals (first | (simp_all; done) | omega)
  · intro bh1f
    exact absurd bh1f (by simp)))
  · intro bg0f
    have g0f := bg0f
    try simp only [beq_true, beq_false, decide_eq_true_eq, decide_eq_false_iff_not, Bool.not_eq_true', Bool.not_eq_false', Bool.not_eq_true, Bool.not_eq_false, ne_eq, Int.ofNat_lt, Int.ofNat_le, beq_iff_eq, bne_iff_ne, beq_eq_false_iff_ne, bne_eq_false_iff_eq, ge_iff_le, gt_iff_lt, Bool.not_true, Bool.not_false, Decidable.not_not, Int.natCast_inj, Int.natCast_nonneg] at g0f
    try simp only [beq_true, beq_false, Bool.not_eq_true', Bool.not_eq_false', Bool.not_not, Bool.not_true, Bool.not_false] at bg0f
    try exact absurd bg0f (by decide)
    all_goals (
  apply W_pre [4, 5, 6, 7] [8, 9, 10, 11, 12, 13, 14, 15, 16, 17]
  · (simp only [go_sem, Nat.reducePow, Nat.reduceLT, Nat.reduceAdd, Nat.reduceSub, Nat.reduceMul, Nat.reduceLeDiff, reduceIte, Nat.reduceEqDiff, Nat.reduceBEq, Try.ntmps100, cW_eq, hcap, h1, h2, rB_get h2, hgo, hcl, bg0f]) <;> exact rfl
  apply W_pre [8, 9, 10, 11] [12, 13, 14, 15, 16, 17]
  · (simp only [go_sem, Nat.reducePow, Nat.reduceLT, Nat.reduceAdd, Nat.reduceSub, Nat.reduceMul, Nat.reduceLeDiff, reduceIte, Nat.reduceEqDiff, Nat.reduceBEq, Try.ntmps100, cW_eq, hcap, h1, h2, rB_get h2, hgo, hcl, bg0f]) <;> exact rfl
  apply W_run
  · (simp only [go_sem, Nat.reducePow, Nat.reduceLT, Nat.reduceAdd, Nat.reduceSub, Nat.reduceMul, Nat.reduceLeDiff, reduceIte, Nat.reduceEqDiff, Nat.reduceBEq, Try.ntmps100, cW_eq, hcap, h1, h2, rB_get h2, hgo, hcl, bg0f]) <;> exact rfl
  apply W_nil
  apply K_seq
  apply T_if
  · (simp only [go_sem, Nat.reducePow, Nat.reduceLT, Nat.reduceAdd, Nat.reduceSub, Nat.reduceMul, Nat.reduceLeDiff, reduceIte, Nat.reduceEqDiff, Nat.reduceBEq, Try.ntmps100, cW_eq, hcap, h1, h2, rB_get h2, hgo, hcl, bg0f]) <;> exact rfl
  · intro bh2t
    have h2t := bh2t
    try simp only [beq_true, beq_false, decide_eq_true_eq, decide_eq_false_iff_not, Bool.not_eq_true', Bool.not_eq_false', Bool.not_eq_true, Bool.not_eq_false, ne_eq, Int.ofNat_lt, Int.ofNat_le, beq_iff_eq, bne_iff_ne, beq_eq_false_iff_ne, bne_eq_false_iff_eq, ge_iff_le, gt_iff_lt, Bool.not_true, Bool.not_false, Decidable.not_not, Int.natCast_inj, Int.natCast_nonneg] at h2t
    all_goals (first | (simp_all; done) | omega)
  · intro bh2f
    exact absurd bh2f (by simp))

theorem mv_goes1p (t : Town) (p0 : List Int) (lot : Int) (h1 : 0 ≤ lot) (h2 : lot.toNat < t.gone.length) (h3 : t.houses.length ≤ 1000) (x : Int) (l : List Int) (hh : (x :: l).length < t.houses.length) (hok : (x :: l).contains lot = true ∨ M.gone t lot = true ∨ M.rank t (x :: l).length lot < 0) : Pan Try.prog 100 [.agg (cW t p0), .sl 1 (rI (x :: l)), .int .i64 lot] (.iface 114 (.agg #[.int .i64 (((x :: l).length : Nat) : Int)])) := by
  have hgo : t.gone[lot.toNat] = M.gone t lot := (M.gone_get h2).symm
  have hcl := rI_length (x :: l)
  have hap : rI (x :: l) ++ [[.int .i64 lot]] = rI ((x :: l) ++ [lot]) := by simp [rI]
  have hcap : (l.length + 1 + 1) * 8 ≤ 140737488355328 := by simp only [List.length_cons] at hh; omega
  obtain ⟨c, hcon⟩ : ∃ c, (x :: l).contains lot = c := ⟨_, rfl⟩
  rw [hcon] at hok
  apply Pan_intro (fn := Try.f100) Try.func100 rfl
  apply T_seq
  apply T_r F
  · (simp only [go_sem, Nat.reducePow, Nat.reduceLT, Nat.reduceAdd, Nat.reduceSub, Nat.reduceMul, Nat.reduceLeDiff, reduceIte, Nat.reduceEqDiff, Nat.reduceBEq, Try.ntmps100, cW_eq, hcap, h1, h2, rB_get h2, hgo, hcl]) <;> exact rfl
  apply K_seq
  apply T_seq
  apply T_r F
  · (simp only [go_sem, Nat.reducePow, Nat.reduceLT, Nat.reduceAdd, Nat.reduceSub, Nat.reduceMul, Nat.reduceLeDiff, reduceIte, Nat.reduceEqDiff, Nat.reduceBEq, Try.ntmps100, cW_eq, hcap, h1, h2, rB_get h2, hgo, hcl]) <;> exact rfl
  apply K_seq
  apply T_seq
  apply T_seq
  apply T_wL F [0, 1, 2, 3, 4, 5, 6, 7, 8, 9, 10, 11, 12, 13, 14, 15, 16, 17] rfl
  apply W_pre [0, 1] [2, 3, 4, 5, 6, 7, 8, 9, 10, 11, 12, 13, 14, 15, 16, 17]
  · (simp only [go_sem, Nat.reducePow, Nat.reduceLT, Nat.reduceAdd, Nat.reduceSub, Nat.reduceMul, Nat.reduceLeDiff, reduceIte, Nat.reduceEqDiff, Nat.reduceBEq, Try.ntmps100, cW_eq, hcap, h1, h2, rB_get h2, hgo, hcl]) <;> exact rfl
  apply W_call -- call 0 of function 86
  · (simp only [go_sem, Nat.reducePow, Nat.reduceLT, Nat.reduceAdd, Nat.reduceSub, Nat.reduceMul, Nat.reduceLeDiff, reduceIte, Nat.reduceEqDiff, Nat.reduceBEq, Try.ntmps100, cW_eq, hcap, h1, h2, rB_get h2, hgo, hcl]) <;> exact rfl
  · (simp only [go_sem, Nat.reducePow, Nat.reduceLT, Nat.reduceAdd, Nat.reduceSub, Nat.reduceMul, Nat.reduceLeDiff, reduceIte, Nat.reduceEqDiff, Nat.reduceBEq, Try.ntmps100, cW_eq, hcap, h1, h2, rB_get h2, hgo, hcl]) <;> exact rfl
  · exact rfl
  · (simp only [go_sem, Nat.reducePow, Nat.reduceLT, Nat.reduceAdd, Nat.reduceSub, Nat.reduceMul, Nat.reduceLeDiff, reduceIte, Nat.reduceEqDiff, Nat.reduceBEq, Try.ntmps100, cW_eq, hcap, h1, h2, rB_get h2, hgo, hcl]) <;> exact rfl
  · (simp only [go_sem, Nat.reducePow, Nat.reduceLT, Nat.reduceAdd, Nat.reduceSub, Nat.reduceMul, Nat.reduceLeDiff, reduceIte, Nat.reduceEqDiff, Nat.reduceBEq, Try.ntmps100, cW_eq, hcap, h1, h2, rB_get h2, hgo, hcl]) <;> exact rfl
  · exact ⟨_, Try.func86, rfl, rfl⟩
  · (simp only [go_sem, Nat.reducePow, Nat.reduceLT, Nat.reduceAdd, Nat.reduceSub, Nat.reduceMul, Nat.reduceLeDiff, reduceIte, Nat.reduceEqDiff, Nat.reduceBEq, Try.ntmps100, cW_eq, hcap, h1, h2, rB_get h2, hgo, hcl]) <;> exact rfl
  · (simp only [go_sem, Nat.reducePow, Nat.reduceLT, Nat.reduceAdd, Nat.reduceSub, Nat.reduceMul, Nat.reduceLeDiff, reduceIte, Nat.reduceEqDiff, Nat.reduceBEq, Try.ntmps100, cW_eq, hcap, h1, h2, rB_get h2, hgo, hcl]) <;> exact rfl
  · exact hcon ▸ sl_contains (x :: l) lot
  apply W_pre [3] [4, 5, 6, 7, 8, 9, 10, 11, 12, 13, 14, 15, 16, 17]
  · (simp only [go_sem, Nat.reducePow, Nat.reduceLT, Nat.reduceAdd, Nat.reduceSub, Nat.reduceMul, Nat.reduceLeDiff, reduceIte, Nat.reduceEqDiff, Nat.reduceBEq, Try.ntmps100, cW_eq, hcap, h1, h2, rB_get h2, hgo, hcl]) <;> exact rfl
  apply W_guard
  · (simp only [go_sem, Nat.reducePow, Nat.reduceLT, Nat.reduceAdd, Nat.reduceSub, Nat.reduceMul, Nat.reduceLeDiff, reduceIte, Nat.reduceEqDiff, Nat.reduceBEq, Try.ntmps100, cW_eq, hcap, h1, h2, rB_get h2, hgo, hcl]) <;> exact rfl
  · (simp only [go_sem, Nat.reducePow, Nat.reduceLT, Nat.reduceAdd, Nat.reduceSub, Nat.reduceMul, Nat.reduceLeDiff, reduceIte, Nat.reduceEqDiff, Nat.reduceBEq, Try.ntmps100, cW_eq, hcap, h1, h2, rB_get h2, hgo, hcl]) <;> exact rfl
  · intro bg0t
    have g0t := bg0t
    try simp only [beq_true, beq_false, decide_eq_true_eq, decide_eq_false_iff_not, Bool.not_eq_true', Bool.not_eq_false', Bool.not_eq_true, Bool.not_eq_false, ne_eq, Int.ofNat_lt, Int.ofNat_le, beq_iff_eq, bne_iff_ne, beq_eq_false_iff_ne, bne_eq_false_iff_eq, ge_iff_le, gt_iff_lt, Bool.not_true, Bool.not_false, Decidable.not_not, Int.natCast_inj, Int.natCast_nonneg] at g0t
    try simp only [beq_true, beq_false, Bool.not_eq_true', Bool.not_eq_false', Bool.not_not, Bool.not_true, Bool.not_false] at bg0t
    try exact absurd bg0t (by decide)
    all_goals (
  apply W_pre [4, 5, 6, 7] [8, 9, 10, 11, 12, 13, 14, 15, 16, 17]
  · (simp only [go_sem, Nat.reducePow, Nat.reduceLT, Nat.reduceAdd, Nat.reduceSub, Nat.reduceMul, Nat.reduceLeDiff, reduceIte, Nat.reduceEqDiff, Nat.reduceBEq, Try.ntmps100, cW_eq, hcap, h1, h2, rB_get h2, hgo, hcl, bg0t]) <;> exact rfl
  apply W_pre [8, 9, 10, 11] [12, 13, 14, 15, 16, 17]
  · (simp only [go_sem, Nat.reducePow, Nat.reduceLT, Nat.reduceAdd, Nat.reduceSub, Nat.reduceMul, Nat.reduceLeDiff, reduceIte, Nat.reduceEqDiff, Nat.reduceBEq, Try.ntmps100, cW_eq, hcap, h1, h2, rB_get h2, hgo, hcl, bg0t]) <;> exact rfl
  apply W_guard
  · (simp only [go_sem, Nat.reducePow, Nat.reduceLT, Nat.reduceAdd, Nat.reduceSub, Nat.reduceMul, Nat.reduceLeDiff, reduceIte, Nat.reduceEqDiff, Nat.reduceBEq, Try.ntmps100, cW_eq, hcap, h1, h2, rB_get h2, hgo, hcl, bg0t]) <;> exact rfl
  · (simp only [go_sem, Nat.reducePow, Nat.reduceLT, Nat.reduceAdd, Nat.reduceSub, Nat.reduceMul, Nat.reduceLeDiff, reduceIte, Nat.reduceEqDiff, Nat.reduceBEq, Try.ntmps100, cW_eq, hcap, h1, h2, rB_get h2, hgo, hcl, bg0t]) <;> exact rfl
  · intro bg1t
    have g1t := bg1t
    try simp only [beq_true, beq_false, decide_eq_true_eq, decide_eq_false_iff_not, Bool.not_eq_true', Bool.not_eq_false', Bool.not_eq_true, Bool.not_eq_false, ne_eq, Int.ofNat_lt, Int.ofNat_le, beq_iff_eq, bne_iff_ne, beq_eq_false_iff_ne, bne_eq_false_iff_eq, ge_iff_le, gt_iff_lt, Bool.not_true, Bool.not_false, Decidable.not_not, Int.natCast_inj, Int.natCast_nonneg] at g1t
    try simp only [beq_true, beq_false, Bool.not_eq_true', Bool.not_eq_false', Bool.not_not, Bool.not_true, Bool.not_false] at bg1t
    try exact absurd bg1t (by decide)
    all_goals (
  apply W_pre [12, 13, 14] [15, 16, 17]
  · (simp only [go_sem, Nat.reducePow, Nat.reduceLT, Nat.reduceAdd, Nat.reduceSub, Nat.reduceMul, Nat.reduceLeDiff, reduceIte, Nat.reduceEqDiff, Nat.reduceBEq, Try.ntmps100, cW_eq, hcap, h1, h2, rB_get h2, hgo, hcl, bg0t, bg1t]) <;> exact rfl
  apply W_call -- call 1 of function 82
  · (simp only [go_sem, Nat.reducePow, Nat.reduceLT, Nat.reduceAdd, Nat.reduceSub, Nat.reduceMul, Nat.reduceLeDiff, reduceIte, Nat.reduceEqDiff, Nat.reduceBEq, Try.ntmps100, cW_eq, hcap, h1, h2, rB_get h2, hgo, hcl, bg0t, bg1t]) <;> exact rfl
  · (simp only [go_sem, Nat.reducePow, Nat.reduceLT, Nat.reduceAdd, Nat.reduceSub, Nat.reduceMul, Nat.reduceLeDiff, reduceIte, Nat.reduceEqDiff, Nat.reduceBEq, Try.ntmps100, cW_eq, hcap, h1, h2, rB_get h2, hgo, hcl, bg0t, bg1t]) <;> exact rfl
  · exact rfl
  · (simp only [go_sem, Nat.reducePow, Nat.reduceLT, Nat.reduceAdd, Nat.reduceSub, Nat.reduceMul, Nat.reduceLeDiff, reduceIte, Nat.reduceEqDiff, Nat.reduceBEq, Try.ntmps100, cW_eq, hcap, h1, h2, rB_get h2, hgo, hcl, bg0t, bg1t]) <;> exact rfl
  · (simp only [go_sem, Nat.reducePow, Nat.reduceLT, Nat.reduceAdd, Nat.reduceSub, Nat.reduceMul, Nat.reduceLeDiff, reduceIte, Nat.reduceEqDiff, Nat.reduceBEq, Try.ntmps100, cW_eq, hcap, h1, h2, rB_get h2, hgo, hcl, bg0t, bg1t]) <;> exact rfl
  · exact ⟨_, Try.func82, rfl, rfl⟩
  · (simp only [go_sem, Nat.reducePow, Nat.reduceLT, Nat.reduceAdd, Nat.reduceSub, Nat.reduceMul, Nat.reduceLeDiff, reduceIte, Nat.reduceEqDiff, Nat.reduceBEq, Try.ntmps100, cW_eq, hcap, h1, h2, rB_get h2, hgo, hcl, bg0t, bg1t]) <;> exact rfl
  · (simp only [go_sem, Nat.reducePow, Nat.reduceLT, Nat.reduceAdd, Nat.reduceSub, Nat.reduceMul, Nat.reduceLeDiff, reduceIte, Nat.reduceEqDiff, Nat.reduceBEq, Try.ntmps100, cW_eq, hcap, h1, h2, rB_get h2, hgo, hcl, bg0t, bg1t]) <;> exact rfl
  · exact mv_rank t p0 ((x :: l).length) lot hh
  apply W_run
  · (simp only [go_sem, Nat.reducePow, Nat.reduceLT, Nat.reduceAdd, Nat.reduceSub, Nat.reduceMul, Nat.reduceLeDiff, reduceIte, Nat.reduceEqDiff, Nat.reduceBEq, Try.ntmps100, cW_eq, hcap, h1, h2, rB_get h2, hgo, hcl, bg0t, bg1t]) <;> exact rfl
  apply W_nil
  apply K_seq
  apply T_if
  · (simp only [go_sem, Nat.reducePow, Nat.reduceLT, Nat.reduceAdd, Nat.reduceSub, Nat.reduceMul, Nat.reduceLeDiff, reduceIte, Nat.reduceEqDiff, Nat.reduceBEq, Try.ntmps100, cW_eq, hcap, h1, h2, rB_get h2, hgo, hcl, bg0t, bg1t]) <;> exact rfl
  · intro bh0t
    have h0t := bh0t
    try simp only [beq_true, beq_false, decide_eq_true_eq, decide_eq_false_iff_not, Bool.not_eq_true', Bool.not_eq_false', Bool.not_eq_true, Bool.not_eq_false, ne_eq, Int.ofNat_lt, Int.ofNat_le, beq_iff_eq, bne_iff_ne, beq_eq_false_iff_ne, bne_eq_false_iff_eq, ge_iff_le, gt_iff_lt, Bool.not_true, Bool.not_false, Decidable.not_not, Int.natCast_inj, Int.natCast_nonneg] at h0t
    try simp only [beq_true, beq_false, Bool.not_eq_true', Bool.not_eq_false', Bool.not_not, Bool.not_true, Bool.not_false] at bh0t
    try exact absurd bh0t (by decide)
    all_goals (
  apply T_panW F (l := [0, 1, 2]) (i := 3) rfl
  apply W_run
  · (simp only [go_sem, Nat.reducePow, Nat.reduceLT, Nat.reduceAdd, Nat.reduceSub, Nat.reduceMul, Nat.reduceLeDiff, reduceIte, Nat.reduceEqDiff, Nat.reduceBEq, Try.ntmps100, cW_eq, hcap, h1, h2, rB_get h2, hgo, hcl, bg0t, bg1t, bh0t]) <;> exact rfl
  apply W_nil
  refine ⟨_, _, _, _, rfl, rfl, rfl, rfl, rfl, ?_⟩
  apply K_seqP
  -- leaf 0 (pan)
  rfl)
  · intro bh0f
    have h0f := bh0f
    try simp only [beq_true, beq_false, decide_eq_true_eq, decide_eq_false_iff_not, Bool.not_eq_true', Bool.not_eq_false', Bool.not_eq_true, Bool.not_eq_false, ne_eq, Int.ofNat_lt, Int.ofNat_le, beq_iff_eq, bne_iff_ne, beq_eq_false_iff_ne, bne_eq_false_iff_eq, ge_iff_le, gt_iff_lt, Bool.not_true, Bool.not_false, Decidable.not_not, Int.natCast_inj, Int.natCast_nonneg] at h0f
    all_goals (first | (simp_all; done) | omega))
  · intro bg1f
    have g1f := bg1f
    try simp only [beq_true, beq_false, decide_eq_true_eq, decide_eq_false_iff_not, Bool.not_eq_true', Bool.not_eq_false', Bool.not_eq_true, Bool.not_eq_false, ne_eq, Int.ofNat_lt, Int.ofNat_le, beq_iff_eq, bne_iff_ne, beq_eq_false_iff_ne, bne_eq_false_iff_eq, ge_iff_le, gt_iff_lt, Bool.not_true, Bool.not_false, Decidable.not_not, Int.natCast_inj, Int.natCast_nonneg] at g1f
    try simp only [beq_true, beq_false, Bool.not_eq_true', Bool.not_eq_false', Bool.not_not, Bool.not_true, Bool.not_false] at bg1f
    try exact absurd bg1f (by decide)
    all_goals (
  apply W_run
  · (simp only [go_sem, Nat.reducePow, Nat.reduceLT, Nat.reduceAdd, Nat.reduceSub, Nat.reduceMul, Nat.reduceLeDiff, reduceIte, Nat.reduceEqDiff, Nat.reduceBEq, Try.ntmps100, cW_eq, hcap, h1, h2, rB_get h2, hgo, hcl, bg0t, bg1f]) <;> exact rfl
  apply W_nil
  apply K_seq
  apply T_if
  · (simp only [go_sem, Nat.reducePow, Nat.reduceLT, Nat.reduceAdd, Nat.reduceSub, Nat.reduceMul, Nat.reduceLeDiff, reduceIte, Nat.reduceEqDiff, Nat.reduceBEq, Try.ntmps100, cW_eq, hcap, h1, h2, rB_get h2, hgo, hcl, bg0t, bg1f]) <;> exact rfl
  · intro bh1t
    have h1t := bh1t
    try simp only [beq_true, beq_false, decide_eq_true_eq, decide_eq_false_iff_not, Bool.not_eq_true', Bool.not_eq_false', Bool.not_eq_true, Bool.not_eq_false, ne_eq, Int.ofNat_lt, Int.ofNat_le, beq_iff_eq, bne_iff_ne, beq_eq_false_iff_ne, bne_eq_false_iff_eq, ge_iff_le, gt_iff_lt, Bool.not_true, Bool.not_false, Decidable.not_not, Int.natCast_inj, Int.natCast_nonneg] at h1t
    try simp only [beq_true, beq_false, Bool.not_eq_true', Bool.not_eq_false', Bool.not_not, Bool.not_true, Bool.not_false] at bh1t
    try exact absurd bh1t (by decide)
    all_goals (
  apply T_panW F (l := [0, 1, 2]) (i := 3) rfl
  apply W_run
  · (simp only [go_sem, Nat.reducePow, Nat.reduceLT, Nat.reduceAdd, Nat.reduceSub, Nat.reduceMul, Nat.reduceLeDiff, reduceIte, Nat.reduceEqDiff, Nat.reduceBEq, Try.ntmps100, cW_eq, hcap, h1, h2, rB_get h2, hgo, hcl, bg0t, bg1f, bh1t]) <;> exact rfl
  apply W_nil
  refine ⟨_, _, _, _, rfl, rfl, rfl, rfl, rfl, ?_⟩
  apply K_seqP
  -- leaf 1 (pan)
  rfl)
  · intro bh1f
    exact absurd bh1f (by simp)))
  · intro bg0f
    have g0f := bg0f
    try simp only [beq_true, beq_false, decide_eq_true_eq, decide_eq_false_iff_not, Bool.not_eq_true', Bool.not_eq_false', Bool.not_eq_true, Bool.not_eq_false, ne_eq, Int.ofNat_lt, Int.ofNat_le, beq_iff_eq, bne_iff_ne, beq_eq_false_iff_ne, bne_eq_false_iff_eq, ge_iff_le, gt_iff_lt, Bool.not_true, Bool.not_false, Decidable.not_not, Int.natCast_inj, Int.natCast_nonneg] at g0f
    try simp only [beq_true, beq_false, Bool.not_eq_true', Bool.not_eq_false', Bool.not_not, Bool.not_true, Bool.not_false] at bg0f
    try exact absurd bg0f (by decide)
    all_goals (
  apply W_pre [4, 5, 6, 7] [8, 9, 10, 11, 12, 13, 14, 15, 16, 17]
  · (simp only [go_sem, Nat.reducePow, Nat.reduceLT, Nat.reduceAdd, Nat.reduceSub, Nat.reduceMul, Nat.reduceLeDiff, reduceIte, Nat.reduceEqDiff, Nat.reduceBEq, Try.ntmps100, cW_eq, hcap, h1, h2, rB_get h2, hgo, hcl, bg0f]) <;> exact rfl
  apply W_pre [8, 9, 10, 11] [12, 13, 14, 15, 16, 17]
  · (simp only [go_sem, Nat.reducePow, Nat.reduceLT, Nat.reduceAdd, Nat.reduceSub, Nat.reduceMul, Nat.reduceLeDiff, reduceIte, Nat.reduceEqDiff, Nat.reduceBEq, Try.ntmps100, cW_eq, hcap, h1, h2, rB_get h2, hgo, hcl, bg0f]) <;> exact rfl
  apply W_run
  · (simp only [go_sem, Nat.reducePow, Nat.reduceLT, Nat.reduceAdd, Nat.reduceSub, Nat.reduceMul, Nat.reduceLeDiff, reduceIte, Nat.reduceEqDiff, Nat.reduceBEq, Try.ntmps100, cW_eq, hcap, h1, h2, rB_get h2, hgo, hcl, bg0f]) <;> exact rfl
  apply W_nil
  apply K_seq
  apply T_if
  · (simp only [go_sem, Nat.reducePow, Nat.reduceLT, Nat.reduceAdd, Nat.reduceSub, Nat.reduceMul, Nat.reduceLeDiff, reduceIte, Nat.reduceEqDiff, Nat.reduceBEq, Try.ntmps100, cW_eq, hcap, h1, h2, rB_get h2, hgo, hcl, bg0f]) <;> exact rfl
  · intro bh2t
    have h2t := bh2t
    try simp only [beq_true, beq_false, decide_eq_true_eq, decide_eq_false_iff_not, Bool.not_eq_true', Bool.not_eq_false', Bool.not_eq_true, Bool.not_eq_false, ne_eq, Int.ofNat_lt, Int.ofNat_le, beq_iff_eq, bne_iff_ne, beq_eq_false_iff_ne, bne_eq_false_iff_eq, ge_iff_le, gt_iff_lt, Bool.not_true, Bool.not_false, Decidable.not_not, Int.natCast_inj, Int.natCast_nonneg] at h2t
    try simp only [beq_true, beq_false, Bool.not_eq_true', Bool.not_eq_false', Bool.not_not, Bool.not_true, Bool.not_false] at bh2t
    try exact absurd bh2t (by decide)
    all_goals (
  apply T_panW F (l := [0, 1, 2]) (i := 3) rfl
  apply W_run
  · (simp only [go_sem, Nat.reducePow, Nat.reduceLT, Nat.reduceAdd, Nat.reduceSub, Nat.reduceMul, Nat.reduceLeDiff, reduceIte, Nat.reduceEqDiff, Nat.reduceBEq, Try.ntmps100, cW_eq, hcap, h1, h2, rB_get h2, hgo, hcl, bg0f, bh2t]) <;> exact rfl
  apply W_nil
  refine ⟨_, _, _, _, rfl, rfl, rfl, rfl, rfl, ?_⟩
  apply K_seqP
  -- leaf 2 (pan)
  rfl)
  · intro bh2f
    exact absurd bh2f (by simp))

end Go.Ab
