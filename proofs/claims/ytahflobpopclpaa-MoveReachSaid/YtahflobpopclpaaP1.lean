import Derived.Test.YtahflobpopclpaaSp1
import Derived.Test.YtahflobpopclpaaR5
import Derived.Test.YtahflobpopclpaaR7
import Derived.Test.YtahflobpopclpaaAb25
namespace Go.Ab
open Go Go.RowKit Go.Proofs Fac
set_option linter.unusedVariables false
set_option linter.unusedSimpArgs false
set_option maxRecDepth 4000
set_option maxHeartbeats 1000000

theorem sl_index (l : List Int) (n : Int) : Ret Try.prog 98 [.sl 1 (rI l), .int .i64 n] (.int .i64 (M.idx l n)) := by
  refine Ret.of_fits fun hfits => ?_
  simp only [V.fits, V.fitsL, V.fitsR, rI_length] at hfits
  have hl := hfits.1.1
  apply Ret_fin (fn := Try.f98) Try.func98 rfl
  apply T_seq
  apply T_r F
  · (simp only [go_sem, Nat.reducePow, Nat.reduceLT, Nat.reduceAdd, Nat.reduceSub, Nat.reduceMul, Nat.reduceLeDiff, reduceIte, Nat.reduceEqDiff, Nat.reduceBEq, Try.ntmps98]) <;> exact rfl
  apply K_seq
  apply T_seq
  apply T_seq
  apply T_r F
  · (simp only [go_sem, Nat.reducePow, Nat.reduceLT, Nat.reduceAdd, Nat.reduceSub, Nat.reduceMul, Nat.reduceLeDiff, reduceIte, Nat.reduceEqDiff, Nat.reduceBEq, Try.ntmps98]) <;> exact rfl
  apply K_seq
  apply T_block
  apply T_lp (α := Nat) [true, true, false, false, false, false, false, true, true, false, false, false, false, false, false, false, false, false, false] (fun k => (⟨[.sl 1 (rI l), .int .i64 n, .undef, .undef, .undef, .undef, .undef, .int .i64 (l.length : Int), .int .i64 (k : Int), .undef, .undef, .undef, .undef, .undef, .undef, .undef, .undef, .undef, .undef], []⟩ : St)) (fun k => k ≤ l.length ∧ ∀ j, j < k → l[j]? ≠ some n) (fun k => l.length - k) (0)
  · (simp only [go_sem, Nat.reducePow, Nat.reduceLT, Nat.reduceAdd, Nat.reduceSub, Nat.reduceMul, Nat.reduceLeDiff, reduceIte, Nat.reduceEqDiff, Nat.reduceBEq, Try.ntmps98]) <;> exact rfl
  · simp
  · rintro k ⟨hk, hj⟩
    apply T_seq
    apply T_r F
    · (simp only [go_sem, Nat.reducePow, Nat.reduceLT, Nat.reduceAdd, Nat.reduceSub, Nat.reduceMul, Nat.reduceLeDiff, reduceIte, Nat.reduceEqDiff, Nat.reduceBEq, Try.ntmps98]) <;> exact rfl
    apply K_seq
    apply T_seq
    apply T_if
    · (simp only [go_sem, Nat.reducePow, Nat.reduceLT, Nat.reduceAdd, Nat.reduceSub, Nat.reduceMul, Nat.reduceLeDiff, reduceIte, Nat.reduceEqDiff, Nat.reduceBEq, Try.ntmps98]) <;> exact rfl
    · intro bh0t
      have h0t := bh0t
      try simp only [beq_true, beq_false, decide_eq_true_eq, decide_eq_false_iff_not, Bool.not_eq_true', Bool.not_eq_false', Bool.not_eq_true, Bool.not_eq_false, ne_eq, Int.ofNat_lt, Int.ofNat_le, beq_iff_eq, bne_iff_ne, beq_eq_false_iff_ne, bne_eq_false_iff_eq, ge_iff_le, gt_iff_lt, Bool.not_true, Bool.not_false, Decidable.not_not, Int.natCast_inj, Int.natCast_nonneg] at h0t
      try simp only [beq_true, beq_false, Bool.not_eq_true', Bool.not_eq_false', Bool.not_not, Bool.not_true, Bool.not_false] at bh0t
      try exact absurd bh0t (by decide)
      all_goals (
  have hb : k < 9223372036854775807 := by omega
  apply T_skip
  apply K_seq
  apply T_seq
  apply T_block
  apply T_seq
  apply T_r F
  · (simp only [go_sem, Nat.reducePow, Nat.reduceLT, Nat.reduceAdd, Nat.reduceSub, Nat.reduceMul, Nat.reduceLeDiff, reduceIte, Nat.reduceEqDiff, Nat.reduceBEq, Try.ntmps98, bh0t, h0t, rI_get h0t, hb]) <;> exact rfl
  apply K_seq
  apply T_seq
  apply T_r F
  · (simp only [go_sem, Nat.reducePow, Nat.reduceLT, Nat.reduceAdd, Nat.reduceSub, Nat.reduceMul, Nat.reduceLeDiff, reduceIte, Nat.reduceEqDiff, Nat.reduceBEq, Try.ntmps98, bh0t, h0t, rI_get h0t, hb]) <;> exact rfl
  apply K_seq
  apply T_if
  · (simp only [go_sem, Nat.reducePow, Nat.reduceLT, Nat.reduceAdd, Nat.reduceSub, Nat.reduceMul, Nat.reduceLeDiff, reduceIte, Nat.reduceEqDiff, Nat.reduceBEq, Try.ntmps98, bh0t, h0t, rI_get h0t, hb]) <;> exact rfl
  · intro bh1t
    have h1t := bh1t
    try simp only [beq_true, beq_false, decide_eq_true_eq, decide_eq_false_iff_not, Bool.not_eq_true', Bool.not_eq_false', Bool.not_eq_true, Bool.not_eq_false, ne_eq, Int.ofNat_lt, Int.ofNat_le, beq_iff_eq, bne_iff_ne, beq_eq_false_iff_ne, bne_eq_false_iff_eq, ge_iff_le, gt_iff_lt, Bool.not_true, Bool.not_false, Decidable.not_not, Int.natCast_inj, Int.natCast_nonneg] at h1t
    try simp only [beq_true, beq_false, Bool.not_eq_true', Bool.not_eq_false', Bool.not_not, Bool.not_true, Bool.not_false] at bh1t
    try exact absurd bh1t (by decide)
    all_goals (
  apply T_seq
  apply T_r F
  · (simp only [go_sem, Nat.reducePow, Nat.reduceLT, Nat.reduceAdd, Nat.reduceSub, Nat.reduceMul, Nat.reduceLeDiff, reduceIte, Nat.reduceEqDiff, Nat.reduceBEq, Try.ntmps98, bh0t, h0t, rI_get h0t, hb, bh1t]) <;> exact rfl
  apply K_seq
  apply T_ret
  apply K_blkR
  apply K_seqR
  apply K_lpR
  apply K_blkR
  apply K_seqR
  apply fin_ret
  · (simp only [go_sem, Nat.reducePow, Nat.reduceLT, Nat.reduceAdd, Nat.reduceSub, Nat.reduceMul, Nat.reduceLeDiff, reduceIte, Nat.reduceEqDiff, Nat.reduceBEq, Try.ntmps98, bh0t, h0t, rI_get h0t, hb, bh1t, Try.f98]) <;> exact rfl
  -- leaf 0 (ret)
  simp only [go_sem, Nat.reducePow, Nat.reduceLT, Nat.reduceAdd, Nat.reduceSub, Nat.reduceMul, Nat.reduceLeDiff, reduceIte, Nat.reduceEqDiff, Nat.reduceBEq, Try.ntmps98, bh0t, h0t, rI_get h0t, hb, bh1t, V.bool.injEq, V.int.injEq, true_and]
  first | rw [M.idx_at h0t h1t.symm hj] | rw [M.idx_no (fun j hj1 => hj j (by omega))])
  · intro bh1f
    have h1f := bh1f
    try simp only [beq_true, beq_false, decide_eq_true_eq, decide_eq_false_iff_not, Bool.not_eq_true', Bool.not_eq_false', Bool.not_eq_true, Bool.not_eq_false, ne_eq, Int.ofNat_lt, Int.ofNat_le, beq_iff_eq, bne_iff_ne, beq_eq_false_iff_ne, bne_eq_false_iff_eq, ge_iff_le, gt_iff_lt, Bool.not_true, Bool.not_false, Decidable.not_not, Int.natCast_inj, Int.natCast_nonneg] at h1f
    try simp only [beq_true, beq_false, Bool.not_eq_true', Bool.not_eq_false', Bool.not_not, Bool.not_true, Bool.not_false] at bh1f
    try exact absurd bh1f (by decide)
    all_goals (
  apply T_skip
  apply K_blk
  apply K_seq
  apply T_r F
  · (simp only [go_sem, Nat.reducePow, Nat.reduceLT, Nat.reduceAdd, Nat.reduceSub, Nat.reduceMul, Nat.reduceLeDiff, reduceIte, Nat.reduceEqDiff, Nat.reduceBEq, Try.ntmps98, bh0t, h0t, rI_get h0t, hb, bh1f]) <;> exact rfl
  refine K_lp (k + 1) ?_ ?_
  · (simp only [go_sem, Nat.reducePow, Nat.reduceLT, Nat.reduceAdd, Nat.reduceSub, Nat.reduceMul, Nat.reduceLeDiff, reduceIte, Nat.reduceEqDiff, Nat.reduceBEq, Try.ntmps98, bh0t, h0t, rI_get h0t, hb, bh1f]) <;> exact rfl
  -- leaf 1 (loop0)
  grind))
    · intro bh0f
      have h0f := bh0f
      try simp only [beq_true, beq_false, decide_eq_true_eq, decide_eq_false_iff_not, Bool.not_eq_true', Bool.not_eq_false', Bool.not_eq_true, Bool.not_eq_false, ne_eq, Int.ofNat_lt, Int.ofNat_le, beq_iff_eq, bne_iff_ne, beq_eq_false_iff_ne, bne_eq_false_iff_eq, ge_iff_le, gt_iff_lt, Bool.not_true, Bool.not_false, Decidable.not_not, Int.natCast_inj, Int.natCast_nonneg] at h0f
      try simp only [beq_true, beq_false, Bool.not_eq_true', Bool.not_eq_false', Bool.not_not, Bool.not_true, Bool.not_false] at bh0f
      try exact absurd bh0f (by decide)
      all_goals (
  apply T_exit
  apply K_seqE
  apply K_lpE
  apply K_blkE
  apply K_seq
  apply T_seq
  apply T_r F
  · (simp only [go_sem, Nat.reducePow, Nat.reduceLT, Nat.reduceAdd, Nat.reduceSub, Nat.reduceMul, Nat.reduceLeDiff, reduceIte, Nat.reduceEqDiff, Nat.reduceBEq, Try.ntmps98, bh0f]) <;> exact rfl
  apply K_seq
  apply T_ret
  apply fin_ret
  · (simp only [go_sem, Nat.reducePow, Nat.reduceLT, Nat.reduceAdd, Nat.reduceSub, Nat.reduceMul, Nat.reduceLeDiff, reduceIte, Nat.reduceEqDiff, Nat.reduceBEq, Try.ntmps98, bh0f, Try.f98]) <;> exact rfl
  -- leaf 2 (ret)
  simp only [go_sem, Nat.reducePow, Nat.reduceLT, Nat.reduceAdd, Nat.reduceSub, Nat.reduceMul, Nat.reduceLeDiff, reduceIte, Nat.reduceEqDiff, Nat.reduceBEq, Try.ntmps98, bh0f, V.bool.injEq, V.int.injEq, true_and]
  first | rw [M.idx_at h0t h1t.symm hj] | rw [M.idx_no (fun j hj1 => hj j (by omega))])

theorem sl_contains (l : List Int) (n : Int) : Ret Try.prog 86 [.sl 1 (rI l), .int .i64 n] (.bool (l.contains n)) := by
  apply Ret_fin (fn := Try.f86) Try.func86 rfl
  apply T_seq
  apply T_r F
  · (simp only [go_sem, Nat.reducePow, Nat.reduceLT, Nat.reduceAdd, Nat.reduceSub, Nat.reduceMul, Nat.reduceLeDiff, reduceIte, Nat.reduceEqDiff, Nat.reduceBEq, Try.ntmps86]) <;> exact rfl
  apply K_seq
  apply T_seq
  apply T_wL F [0, 1, 2, 3, 4] rfl
  apply W_pre [0, 1] [2, 3, 4]
  · (simp only [go_sem, Nat.reducePow, Nat.reduceLT, Nat.reduceAdd, Nat.reduceSub, Nat.reduceMul, Nat.reduceLeDiff, reduceIte, Nat.reduceEqDiff, Nat.reduceBEq, Try.ntmps86]) <;> exact rfl
  apply W_call -- call 0 of function 98
  · (simp only [go_sem, Nat.reducePow, Nat.reduceLT, Nat.reduceAdd, Nat.reduceSub, Nat.reduceMul, Nat.reduceLeDiff, reduceIte, Nat.reduceEqDiff, Nat.reduceBEq, Try.ntmps86]) <;> exact rfl
  · (simp only [go_sem, Nat.reducePow, Nat.reduceLT, Nat.reduceAdd, Nat.reduceSub, Nat.reduceMul, Nat.reduceLeDiff, reduceIte, Nat.reduceEqDiff, Nat.reduceBEq, Try.ntmps86]) <;> exact rfl
  · exact rfl
  · (simp only [go_sem, Nat.reducePow, Nat.reduceLT, Nat.reduceAdd, Nat.reduceSub, Nat.reduceMul, Nat.reduceLeDiff, reduceIte, Nat.reduceEqDiff, Nat.reduceBEq, Try.ntmps86]) <;> exact rfl
  · (simp only [go_sem, Nat.reducePow, Nat.reduceLT, Nat.reduceAdd, Nat.reduceSub, Nat.reduceMul, Nat.reduceLeDiff, reduceIte, Nat.reduceEqDiff, Nat.reduceBEq, Try.ntmps86]) <;> exact rfl
  · exact ⟨_, Try.func98, rfl, rfl⟩
  · (simp only [go_sem, Nat.reducePow, Nat.reduceLT, Nat.reduceAdd, Nat.reduceSub, Nat.reduceMul, Nat.reduceLeDiff, reduceIte, Nat.reduceEqDiff, Nat.reduceBEq, Try.ntmps86]) <;> exact rfl
  · (simp only [go_sem, Nat.reducePow, Nat.reduceLT, Nat.reduceAdd, Nat.reduceSub, Nat.reduceMul, Nat.reduceLeDiff, reduceIte, Nat.reduceEqDiff, Nat.reduceBEq, Try.ntmps86]) <;> exact rfl
  · exact sl_index _ _
  apply W_run
  · (simp only [go_sem, Nat.reducePow, Nat.reduceLT, Nat.reduceAdd, Nat.reduceSub, Nat.reduceMul, Nat.reduceLeDiff, reduceIte, Nat.reduceEqDiff, Nat.reduceBEq, Try.ntmps86]) <;> exact rfl
  apply W_nil
  apply K_seq
  apply T_ret
  apply fin_ret
  · (simp only [go_sem, Nat.reducePow, Nat.reduceLT, Nat.reduceAdd, Nat.reduceSub, Nat.reduceMul, Nat.reduceLeDiff, reduceIte, Nat.reduceEqDiff, Nat.reduceBEq, Try.ntmps86, Try.f86]) <;> exact rfl
  -- leaf 0 (ret)
  simp only [go_sem, Nat.reducePow, Nat.reduceLT, Nat.reduceAdd, Nat.reduceSub, Nat.reduceMul, Nat.reduceLeDiff, reduceIte, Nat.reduceEqDiff, Nat.reduceBEq, Try.ntmps86, V.bool.injEq, V.int.injEq, true_and]
  rw [← M.idx_nonneg]

theorem mv_near (t : Town) (p : List Int) (a b : Int) (h1 : 0 ≤ a) (h2 : a.toNat < t.walk.length) (h3 : 0 ≤ b) (h4 : b.toNat < (t.walk[a.toNat]).length) : Ret Try.prog 96 [.agg (cW t p), .int .i64 a, .int .i64 b] (.bool (M.near t a b)) := by
  apply Ret_fin (fn := Try.f96) Try.func96 rfl
  apply T_seq
  apply T_r F
  · (simp only [go_sem, Nat.reducePow, Nat.reduceLT, Nat.reduceAdd, Nat.reduceSub, Nat.reduceMul, Nat.reduceLeDiff, reduceIte, Nat.reduceEqDiff, Nat.reduceBEq, Try.ntmps96, cW_eq, h1, h2, h3, h4, rL_get h2, rI_get h4]) <;> exact rfl
  apply K_seq
  apply T_seq
  apply T_qL F [0, 1, 2, 3, 4, 5, 6, 7, 8, 9, 10, 11, 12, 13] rfl (by kernel_rfl)
  apply Q_pre [0, 1, 2, 3] [4, 5, 6, 7, 8, 9, 10, 11, 12, 13]
  · (simp only [go_sem, Nat.reducePow, Nat.reduceLT, Nat.reduceAdd, Nat.reduceSub, Nat.reduceMul, Nat.reduceLeDiff, reduceIte, Nat.reduceEqDiff, Nat.reduceBEq, Try.ntmps96, cW_eq, h1, h2, h3, h4, rL_get h2, rI_get h4]) <;> exact rfl
  apply Q_pre [4, 5, 6, 7] [8, 9, 10, 11, 12, 13]
  · (simp only [go_sem, Nat.reducePow, Nat.reduceLT, Nat.reduceAdd, Nat.reduceSub, Nat.reduceMul, Nat.reduceLeDiff, reduceIte, Nat.reduceEqDiff, Nat.reduceBEq, Try.ntmps96, cW_eq, h1, h2, h3, h4, rL_get h2, rI_get h4]) <;> exact rfl
  apply Q_run
  · (simp only [go_sem, Nat.reducePow, Nat.reduceLT, Nat.reduceAdd, Nat.reduceSub, Nat.reduceMul, Nat.reduceLeDiff, reduceIte, Nat.reduceEqDiff, Nat.reduceBEq, Try.ntmps96, cW_eq, h1, h2, h3, h4, rL_get h2, rI_get h4]) <;> exact rfl
  apply Q_nil
  apply K_seq
  apply T_ret
  apply fin_ret
  · (simp only [go_sem, Nat.reducePow, Nat.reduceLT, Nat.reduceAdd, Nat.reduceSub, Nat.reduceMul, Nat.reduceLeDiff, reduceIte, Nat.reduceEqDiff, Nat.reduceBEq, Try.ntmps96, cW_eq, h1, h2, h3, h4, rL_get h2, rI_get h4, Try.f96]) <;> exact rfl
  -- leaf 0 (ret)
  simp only [go_sem, Nat.reducePow, Nat.reduceLT, Nat.reduceAdd, Nat.reduceSub, Nat.reduceMul, Nat.reduceLeDiff, reduceIte, Nat.reduceEqDiff, Nat.reduceBEq, Try.ntmps96, cW_eq, h1, h2, h3, h4, rL_get h2, rI_get h4, V.bool.injEq, V.int.injEq, true_and]
  simp [M.near, M.dist_get h2 h4]

theorem mv_rank (t : Town) (p : List Int) (h : Nat) (n : Int) (hh : h < t.houses.length) : Ret Try.prog 82 [.agg (cW t p), .int .i64 (h : Int), .int .i64 n] (.int .i64 (M.rank t h n)) := by
  have hr : M.rank t h n = if 0 ≤ M.idx t.houses[h].wishes n then M.idx t.houses[h].wishes n else if t.houses[h].lot = n then (t.houses[h].wishes.length : Int) else -1 := by
    unfold M.rank M.idx
    rw [List.getElem?_eq_getElem hh]
    simp only
    cases M.pos t.houses[h].wishes n <;> simp
  apply Ret_fin (fn := Try.f82) Try.func82 rfl
  apply T_seq
  apply T_r F
  · (simp only [go_sem, Nat.reducePow, Nat.reduceLT, Nat.reduceAdd, Nat.reduceSub, Nat.reduceMul, Nat.reduceLeDiff, reduceIte, Nat.reduceEqDiff, Nat.reduceBEq, Try.ntmps82, cW_eq, hh, rH_get hh]) <;> exact rfl
  apply K_seq
  apply T_seq
  apply T_wL F [0, 1, 2, 3, 4, 5, 6, 7] rfl
  apply W_pre [0, 1, 2, 3] [4, 5, 6, 7]
  · (simp only [go_sem, Nat.reducePow, Nat.reduceLT, Nat.reduceAdd, Nat.reduceSub, Nat.reduceMul, Nat.reduceLeDiff, reduceIte, Nat.reduceEqDiff, Nat.reduceBEq, Try.ntmps82, cW_eq, hh, rH_get hh]) <;> exact rfl
  apply W_run
  · (simp only [go_sem, Nat.reducePow, Nat.reduceLT, Nat.reduceAdd, Nat.reduceSub, Nat.reduceMul, Nat.reduceLeDiff, reduceIte, Nat.reduceEqDiff, Nat.reduceBEq, Try.ntmps82, cW_eq, hh, rH_get hh]) <;> exact rfl
  apply W_nil
  apply K_seq
  apply T_seq
  apply T_seq
  apply T_wL F [0, 1, 2, 3, 4] rfl
  apply W_pre [0, 1, 2] [3, 4]
  · (simp only [go_sem, Nat.reducePow, Nat.reduceLT, Nat.reduceAdd, Nat.reduceSub, Nat.reduceMul, Nat.reduceLeDiff, reduceIte, Nat.reduceEqDiff, Nat.reduceBEq, Try.ntmps82, cW_eq, hh, rH_get hh]) <;> exact rfl
  apply W_call -- call 0 of function 98
  · (simp only [go_sem, Nat.reducePow, Nat.reduceLT, Nat.reduceAdd, Nat.reduceSub, Nat.reduceMul, Nat.reduceLeDiff, reduceIte, Nat.reduceEqDiff, Nat.reduceBEq, Try.ntmps82, cW_eq, hh, rH_get hh]) <;> exact rfl
  · (simp only [go_sem, Nat.reducePow, Nat.reduceLT, Nat.reduceAdd, Nat.reduceSub, Nat.reduceMul, Nat.reduceLeDiff, reduceIte, Nat.reduceEqDiff, Nat.reduceBEq, Try.ntmps82, cW_eq, hh, rH_get hh]) <;> exact rfl
  · exact rfl
  · (simp only [go_sem, Nat.reducePow, Nat.reduceLT, Nat.reduceAdd, Nat.reduceSub, Nat.reduceMul, Nat.reduceLeDiff, reduceIte, Nat.reduceEqDiff, Nat.reduceBEq, Try.ntmps82, cW_eq, hh, rH_get hh]) <;> exact rfl
  · (simp only [go_sem, Nat.reducePow, Nat.reduceLT, Nat.reduceAdd, Nat.reduceSub, Nat.reduceMul, Nat.reduceLeDiff, reduceIte, Nat.reduceEqDiff, Nat.reduceBEq, Try.ntmps82, cW_eq, hh, rH_get hh]) <;> exact rfl
  · exact ⟨_, Try.func98, rfl, rfl⟩
  · (simp only [go_sem, Nat.reducePow, Nat.reduceLT, Nat.reduceAdd, Nat.reduceSub, Nat.reduceMul, Nat.reduceLeDiff, reduceIte, Nat.reduceEqDiff, Nat.reduceBEq, Try.ntmps82, cW_eq, hh, rH_get hh]) <;> exact rfl
  · (simp only [go_sem, Nat.reducePow, Nat.reduceLT, Nat.reduceAdd, Nat.reduceSub, Nat.reduceMul, Nat.reduceLeDiff, reduceIte, Nat.reduceEqDiff, Nat.reduceBEq, Try.ntmps82, cW_eq, hh, rH_get hh]) <;> exact rfl
  · exact sl_index _ _
  apply W_run
  · (simp only [go_sem, Nat.reducePow, Nat.reduceLT, Nat.reduceAdd, Nat.reduceSub, Nat.reduceMul, Nat.reduceLeDiff, reduceIte, Nat.reduceEqDiff, Nat.reduceBEq, Try.ntmps82, cW_eq, hh, rH_get hh]) <;> exact rfl
  apply W_nil
  apply K_seq
  apply T_seq
  apply T_r F
  · (simp only [go_sem, Nat.reducePow, Nat.reduceLT, Nat.reduceAdd, Nat.reduceSub, Nat.reduceMul, Nat.reduceLeDiff, reduceIte, Nat.reduceEqDiff, Nat.reduceBEq, Try.ntmps82, cW_eq, hh, rH_get hh]) <;> exact rfl
  apply K_seq
  apply T_if
  · (simp only [go_sem, Nat.reducePow, Nat.reduceLT, Nat.reduceAdd, Nat.reduceSub, Nat.reduceMul, Nat.reduceLeDiff, reduceIte, Nat.reduceEqDiff, Nat.reduceBEq, Try.ntmps82, cW_eq, hh, rH_get hh]) <;> exact rfl
  · intro bh0t
    have h0t := bh0t
    try simp only [beq_true, beq_false, decide_eq_true_eq, decide_eq_false_iff_not, Bool.not_eq_true', Bool.not_eq_false', Bool.not_eq_true, Bool.not_eq_false, ne_eq, Int.ofNat_lt, Int.ofNat_le, beq_iff_eq, bne_iff_ne, beq_eq_false_iff_ne, bne_eq_false_iff_eq, ge_iff_le, gt_iff_lt, Bool.not_true, Bool.not_false, Decidable.not_not, Int.natCast_inj, Int.natCast_nonneg] at h0t
    try simp only [beq_true, beq_false, Bool.not_eq_true', Bool.not_eq_false', Bool.not_not, Bool.not_true, Bool.not_false] at bh0t
    try exact absurd bh0t (by decide)
    all_goals (
  apply T_seq
  apply T_r F
  · (simp only [go_sem, Nat.reducePow, Nat.reduceLT, Nat.reduceAdd, Nat.reduceSub, Nat.reduceMul, Nat.reduceLeDiff, reduceIte, Nat.reduceEqDiff, Nat.reduceBEq, Try.ntmps82, cW_eq, hh, rH_get hh, bh0t]) <;> exact rfl
  apply K_seq
  apply T_ret
  apply K_seqR
  apply fin_ret
  · (simp only [go_sem, Nat.reducePow, Nat.reduceLT, Nat.reduceAdd, Nat.reduceSub, Nat.reduceMul, Nat.reduceLeDiff, reduceIte, Nat.reduceEqDiff, Nat.reduceBEq, Try.ntmps82, cW_eq, hh, rH_get hh, bh0t, Try.f82]) <;> exact rfl
  -- leaf 0 (ret)
  simp only [go_sem, Nat.reducePow, Nat.reduceLT, Nat.reduceAdd, Nat.reduceSub, Nat.reduceMul, Nat.reduceLeDiff, reduceIte, Nat.reduceEqDiff, Nat.reduceBEq, Try.ntmps82, cW_eq, hh, rH_get hh, bh0t, V.bool.injEq, V.int.injEq, true_and]
  grind)
  · intro bh0f
    have h0f := bh0f
    try simp only [beq_true, beq_false, decide_eq_true_eq, decide_eq_false_iff_not, Bool.not_eq_true', Bool.not_eq_false', Bool.not_eq_true, Bool.not_eq_false, ne_eq, Int.ofNat_lt, Int.ofNat_le, beq_iff_eq, bne_iff_ne, beq_eq_false_iff_ne, bne_eq_false_iff_eq, ge_iff_le, gt_iff_lt, Bool.not_true, Bool.not_false, Decidable.not_not, Int.natCast_inj, Int.natCast_nonneg] at h0f
    try simp only [beq_true, beq_false, Bool.not_eq_true', Bool.not_eq_false', Bool.not_not, Bool.not_true, Bool.not_false] at bh0f
    try exact absurd bh0f (by decide)
    all_goals (
  apply T_skip
  apply K_seq
  apply T_seq
  apply T_seq
  apply T_r F
  · (simp only [go_sem, Nat.reducePow, Nat.reduceLT, Nat.reduceAdd, Nat.reduceSub, Nat.reduceMul, Nat.reduceLeDiff, reduceIte, Nat.reduceEqDiff, Nat.reduceBEq, Try.ntmps82, cW_eq, hh, rH_get hh, bh0f]) <;> exact rfl
  apply K_seq
  apply T_if
  · (simp only [go_sem, Nat.reducePow, Nat.reduceLT, Nat.reduceAdd, Nat.reduceSub, Nat.reduceMul, Nat.reduceLeDiff, reduceIte, Nat.reduceEqDiff, Nat.reduceBEq, Try.ntmps82, cW_eq, hh, rH_get hh, bh0f]) <;> exact rfl
  · intro bh1t
    have h1t := bh1t
    try simp only [beq_true, beq_false, decide_eq_true_eq, decide_eq_false_iff_not, Bool.not_eq_true', Bool.not_eq_false', Bool.not_eq_true, Bool.not_eq_false, ne_eq, Int.ofNat_lt, Int.ofNat_le, beq_iff_eq, bne_iff_ne, beq_eq_false_iff_ne, bne_eq_false_iff_eq, ge_iff_le, gt_iff_lt, Bool.not_true, Bool.not_false, Decidable.not_not, Int.natCast_inj, Int.natCast_nonneg] at h1t
    try simp only [beq_true, beq_false, Bool.not_eq_true', Bool.not_eq_false', Bool.not_not, Bool.not_true, Bool.not_false] at bh1t
    try exact absurd bh1t (by decide)
    all_goals (
  apply T_seq
  apply T_r F
  · (simp only [go_sem, Nat.reducePow, Nat.reduceLT, Nat.reduceAdd, Nat.reduceSub, Nat.reduceMul, Nat.reduceLeDiff, reduceIte, Nat.reduceEqDiff, Nat.reduceBEq, Try.ntmps82, cW_eq, hh, rH_get hh, bh0f, bh1t]) <;> exact rfl
  apply K_seq
  apply T_ret
  apply K_seqR
  apply fin_ret
  · (simp only [go_sem, Nat.reducePow, Nat.reduceLT, Nat.reduceAdd, Nat.reduceSub, Nat.reduceMul, Nat.reduceLeDiff, reduceIte, Nat.reduceEqDiff, Nat.reduceBEq, Try.ntmps82, cW_eq, hh, rH_get hh, bh0f, bh1t, Try.f82]) <;> exact rfl
  -- leaf 1 (ret)
  simp only [go_sem, Nat.reducePow, Nat.reduceLT, Nat.reduceAdd, Nat.reduceSub, Nat.reduceMul, Nat.reduceLeDiff, reduceIte, Nat.reduceEqDiff, Nat.reduceBEq, Try.ntmps82, cW_eq, hh, rH_get hh, bh0f, bh1t, V.bool.injEq, V.int.injEq, true_and]
  grind)
  · intro bh1f
    have h1f := bh1f
    try simp only [beq_true, beq_false, decide_eq_true_eq, decide_eq_false_iff_not, Bool.not_eq_true', Bool.not_eq_false', Bool.not_eq_true, Bool.not_eq_false, ne_eq, Int.ofNat_lt, Int.ofNat_le, beq_iff_eq, bne_iff_ne, beq_eq_false_iff_ne, bne_eq_false_iff_eq, ge_iff_le, gt_iff_lt, Bool.not_true, Bool.not_false, Decidable.not_not, Int.natCast_inj, Int.natCast_nonneg] at h1f
    try simp only [beq_true, beq_false, Bool.not_eq_true', Bool.not_eq_false', Bool.not_not, Bool.not_true, Bool.not_false] at bh1f
    try exact absurd bh1f (by decide)
    all_goals (
  apply T_skip
  apply K_seq
  apply T_seq
  apply T_r F
  · (simp only [go_sem, Nat.reducePow, Nat.reduceLT, Nat.reduceAdd, Nat.reduceSub, Nat.reduceMul, Nat.reduceLeDiff, reduceIte, Nat.reduceEqDiff, Nat.reduceBEq, Try.ntmps82, cW_eq, hh, rH_get hh, bh0f, bh1f]) <;> exact rfl
  apply K_seq
  apply T_ret
  apply fin_ret
  · (simp only [go_sem, Nat.reducePow, Nat.reduceLT, Nat.reduceAdd, Nat.reduceSub, Nat.reduceMul, Nat.reduceLeDiff, reduceIte, Nat.reduceEqDiff, Nat.reduceBEq, Try.ntmps82, cW_eq, hh, rH_get hh, bh0f, bh1f, Try.f82]) <;> exact rfl
  -- leaf 2 (ret)
  simp only [go_sem, Nat.reducePow, Nat.reduceLT, Nat.reduceAdd, Nat.reduceSub, Nat.reduceMul, Nat.reduceLeDiff, reduceIte, Nat.reduceEqDiff, Nat.reduceBEq, Try.ntmps82, cW_eq, hh, rH_get hh, bh0f, bh1f, V.bool.injEq, V.int.injEq, true_and]
  grind))

theorem mv_different (l : List Int) (n : Int) (hn : 0 ≤ n ∧ n ≤ 9223372036854775807) : Ret Try.prog 71 [.sl 1 (rI l), .int .i64 n] (.bool (M.different l n)) := by
  refine Ret.of_fits fun hfits => ?_
  simp only [V.fits, V.fitsL, V.fitsR, rI_length] at hfits
  have hl := hfits.1.1
  have hwn : IntKind.i64.wrap (n - 1) = n - 1 := wrap_id (by omega) (by omega)
  apply Ret_fin (fn := Try.f71) Try.func71 rfl
  apply T_seq
  apply T_r F
  · (simp only [go_sem, Nat.reducePow, Nat.reduceLT, Nat.reduceAdd, Nat.reduceSub, Nat.reduceMul, Nat.reduceLeDiff, reduceIte, Nat.reduceEqDiff, Nat.reduceBEq, Try.ntmps71, hwn]) <;> exact rfl
  apply K_seq
  apply T_seq
  apply T_seq
  apply T_r F
  · (simp only [go_sem, Nat.reducePow, Nat.reduceLT, Nat.reduceAdd, Nat.reduceSub, Nat.reduceMul, Nat.reduceLeDiff, reduceIte, Nat.reduceEqDiff, Nat.reduceBEq, Try.ntmps71, hwn]) <;> exact rfl
  apply K_seq
  apply T_block
  apply T_lp (α := Nat) [true, true, false, false, false, false, false, true, true, true, false, false, false, false, false, false, false, false, false, false, false, false, false, false, false, false, false] (fun k => (⟨[.sl 1 (rI l), .int .i64 n, .undef, .undef, .undef, .undef, .undef, .sl 1 (rI l), .int .i64 (l.length : Int), .int .i64 (k : Int), .undef, .undef, .undef, .undef, .undef, .undef, .undef, .undef, .undef, .undef, .undef, .undef, .undef, .undef, .undef, .undef, .undef], []⟩ : St)) (fun k => k ≤ l.length ∧ ∀ j, j < k → M.inr (M.at' l j) 0 (n - 1) = true ∧ M.shared l j = false) (fun k => l.length - k) (0)
  · (simp only [go_sem, Nat.reducePow, Nat.reduceLT, Nat.reduceAdd, Nat.reduceSub, Nat.reduceMul, Nat.reduceLeDiff, reduceIte, Nat.reduceEqDiff, Nat.reduceBEq, Try.ntmps71, hwn]) <;> exact rfl
  · simp
  · rintro k ⟨hk, hj⟩
    apply T_seq
    apply T_r F
    · (simp only [go_sem, Nat.reducePow, Nat.reduceLT, Nat.reduceAdd, Nat.reduceSub, Nat.reduceMul, Nat.reduceLeDiff, reduceIte, Nat.reduceEqDiff, Nat.reduceBEq, Try.ntmps71, hwn]) <;> exact rfl
    apply K_seq
    apply T_seq
    apply T_if
    · (simp only [go_sem, Nat.reducePow, Nat.reduceLT, Nat.reduceAdd, Nat.reduceSub, Nat.reduceMul, Nat.reduceLeDiff, reduceIte, Nat.reduceEqDiff, Nat.reduceBEq, Try.ntmps71, hwn]) <;> exact rfl
    · intro bh0t
      have h0t := bh0t
      try simp only [beq_true, beq_false, decide_eq_true_eq, decide_eq_false_iff_not, Bool.not_eq_true', Bool.not_eq_false', Bool.not_eq_true, Bool.not_eq_false, ne_eq, Int.ofNat_lt, Int.ofNat_le, beq_iff_eq, bne_iff_ne, beq_eq_false_iff_ne, bne_eq_false_iff_eq, ge_iff_le, gt_iff_lt, Bool.not_true, Bool.not_false, Decidable.not_not, Int.natCast_inj, Int.natCast_nonneg] at h0t
      try simp only [beq_true, beq_false, Bool.not_eq_true', Bool.not_eq_false', Bool.not_not, Bool.not_true, Bool.not_false] at bh0t
      try exact absurd bh0t (by decide)
      all_goals (
  have hb : k < 9223372036854775807 := by omega
  have hkl : k ≤ l.length := by omega
  have hat := M.at_get h0t
  have hsh : M.shared l k = (l.take k).contains l[k] := by rw [M.shared, hat]
  apply T_skip
  apply K_seq
  apply T_seq
  apply T_block
  apply T_seq
  apply T_r F
  · (simp only [go_sem, Nat.reducePow, Nat.reduceLT, Nat.reduceAdd, Nat.reduceSub, Nat.reduceMul, Nat.reduceLeDiff, reduceIte, Nat.reduceEqDiff, Nat.reduceBEq, Try.ntmps71, hwn, bh0t, h0t, rI_get h0t, hb, hkl]) <;> exact rfl
  apply K_seq
  apply T_seq
  apply T_wL F [0, 1, 2, 3, 4, 5, 6, 7, 8, 9, 10, 11] rfl
  apply W_pre [0, 1, 2] [3, 4, 5, 6, 7, 8, 9, 10, 11]
  · (simp only [go_sem, Nat.reducePow, Nat.reduceLT, Nat.reduceAdd, Nat.reduceSub, Nat.reduceMul, Nat.reduceLeDiff, reduceIte, Nat.reduceEqDiff, Nat.reduceBEq, Try.ntmps71, hwn, bh0t, h0t, rI_get h0t, hb, hkl]) <;> exact rfl
  apply W_call -- call 0 of function 70
  · (simp only [go_sem, Nat.reducePow, Nat.reduceLT, Nat.reduceAdd, Nat.reduceSub, Nat.reduceMul, Nat.reduceLeDiff, reduceIte, Nat.reduceEqDiff, Nat.reduceBEq, Try.ntmps71, hwn, bh0t, h0t, rI_get h0t, hb, hkl]) <;> exact rfl
  · (simp only [go_sem, Nat.reducePow, Nat.reduceLT, Nat.reduceAdd, Nat.reduceSub, Nat.reduceMul, Nat.reduceLeDiff, reduceIte, Nat.reduceEqDiff, Nat.reduceBEq, Try.ntmps71, hwn, bh0t, h0t, rI_get h0t, hb, hkl]) <;> exact rfl
  · exact rfl
  · (simp only [go_sem, Nat.reducePow, Nat.reduceLT, Nat.reduceAdd, Nat.reduceSub, Nat.reduceMul, Nat.reduceLeDiff, reduceIte, Nat.reduceEqDiff, Nat.reduceBEq, Try.ntmps71, hwn, bh0t, h0t, rI_get h0t, hb, hkl]) <;> exact rfl
  · (simp only [go_sem, Nat.reducePow, Nat.reduceLT, Nat.reduceAdd, Nat.reduceSub, Nat.reduceMul, Nat.reduceLeDiff, reduceIte, Nat.reduceEqDiff, Nat.reduceBEq, Try.ntmps71, hwn, bh0t, h0t, rI_get h0t, hb, hkl]) <;> exact rfl
  · exact ⟨_, Try.func70, rfl, rfl⟩
  · (simp only [go_sem, Nat.reducePow, Nat.reduceLT, Nat.reduceAdd, Nat.reduceSub, Nat.reduceMul, Nat.reduceLeDiff, reduceIte, Nat.reduceEqDiff, Nat.reduceBEq, Try.ntmps71, hwn, bh0t, h0t, rI_get h0t, hb, hkl]) <;> exact rfl
  · (simp only [go_sem, Nat.reducePow, Nat.reduceLT, Nat.reduceAdd, Nat.reduceSub, Nat.reduceMul, Nat.reduceLeDiff, reduceIte, Nat.reduceEqDiff, Nat.reduceBEq, Try.ntmps71, hwn, bh0t, h0t, rI_get h0t, hb, hkl]) <;> exact rfl
  · exact mv_in _ _ _
  apply W_pre [4, 5] [6, 7, 8, 9, 10, 11]
  · (simp only [go_sem, Nat.reducePow, Nat.reduceLT, Nat.reduceAdd, Nat.reduceSub, Nat.reduceMul, Nat.reduceLeDiff, reduceIte, Nat.reduceEqDiff, Nat.reduceBEq, Try.ntmps71, hwn, bh0t, h0t, rI_get h0t, hb, hkl]) <;> exact rfl
  apply W_guard
  · (simp only [go_sem, Nat.reducePow, Nat.reduceLT, Nat.reduceAdd, Nat.reduceSub, Nat.reduceMul, Nat.reduceLeDiff, reduceIte, Nat.reduceEqDiff, Nat.reduceBEq, Try.ntmps71, hwn, bh0t, h0t, rI_get h0t, hb, hkl]) <;> exact rfl
  · (simp only [go_sem, Nat.reducePow, Nat.reduceLT, Nat.reduceAdd, Nat.reduceSub, Nat.reduceMul, Nat.reduceLeDiff, reduceIte, Nat.reduceEqDiff, Nat.reduceBEq, Try.ntmps71, hwn, bh0t, h0t, rI_get h0t, hb, hkl]) <;> exact rfl
  · intro bg0t
    have g0t := bg0t
    try simp only [beq_true, beq_false, decide_eq_true_eq, decide_eq_false_iff_not, Bool.not_eq_true', Bool.not_eq_false', Bool.not_eq_true, Bool.not_eq_false, ne_eq, Int.ofNat_lt, Int.ofNat_le, beq_iff_eq, bne_iff_ne, beq_eq_false_iff_ne, bne_eq_false_iff_eq, ge_iff_le, gt_iff_lt, Bool.not_true, Bool.not_false, Decidable.not_not, Int.natCast_inj, Int.natCast_nonneg] at g0t
    try simp only [beq_true, beq_false, Bool.not_eq_true', Bool.not_eq_false', Bool.not_not, Bool.not_true, Bool.not_false] at bg0t
    try exact absurd bg0t (by decide)
    all_goals (
  apply W_pre [6, 7, 8, 9] [10, 11]
  · (simp only [go_sem, Nat.reducePow, Nat.reduceLT, Nat.reduceAdd, Nat.reduceSub, Nat.reduceMul, Nat.reduceLeDiff, reduceIte, Nat.reduceEqDiff, Nat.reduceBEq, Try.ntmps71, hwn, bh0t, h0t, rI_get h0t, hb, hkl, bg0t]) <;> exact rfl
  apply W_call -- call 1 of function 86
  · (simp only [go_sem, Nat.reducePow, Nat.reduceLT, Nat.reduceAdd, Nat.reduceSub, Nat.reduceMul, Nat.reduceLeDiff, reduceIte, Nat.reduceEqDiff, Nat.reduceBEq, Try.ntmps71, hwn, bh0t, h0t, rI_get h0t, hb, hkl, bg0t]) <;> exact rfl
  · (simp only [go_sem, Nat.reducePow, Nat.reduceLT, Nat.reduceAdd, Nat.reduceSub, Nat.reduceMul, Nat.reduceLeDiff, reduceIte, Nat.reduceEqDiff, Nat.reduceBEq, Try.ntmps71, hwn, bh0t, h0t, rI_get h0t, hb, hkl, bg0t]) <;> exact rfl
  · exact rfl
  · (simp only [go_sem, Nat.reducePow, Nat.reduceLT, Nat.reduceAdd, Nat.reduceSub, Nat.reduceMul, Nat.reduceLeDiff, reduceIte, Nat.reduceEqDiff, Nat.reduceBEq, Try.ntmps71, hwn, bh0t, h0t, rI_get h0t, hb, hkl, bg0t]) <;> exact rfl
  · (simp only [go_sem, Nat.reducePow, Nat.reduceLT, Nat.reduceAdd, Nat.reduceSub, Nat.reduceMul, Nat.reduceLeDiff, reduceIte, Nat.reduceEqDiff, Nat.reduceBEq, Try.ntmps71, hwn, bh0t, h0t, rI_get h0t, hb, hkl, bg0t]) <;> exact rfl
  · exact ⟨_, Try.func86, rfl, rfl⟩
  · (simp only [go_sem, Nat.reducePow, Nat.reduceLT, Nat.reduceAdd, Nat.reduceSub, Nat.reduceMul, Nat.reduceLeDiff, reduceIte, Nat.reduceEqDiff, Nat.reduceBEq, Try.ntmps71, hwn, bh0t, h0t, rI_get h0t, hb, hkl, bg0t]) <;> exact rfl
  · (simp only [go_sem, Nat.reducePow, Nat.reduceLT, Nat.reduceAdd, Nat.reduceSub, Nat.reduceMul, Nat.reduceLeDiff, reduceIte, Nat.reduceEqDiff, Nat.reduceBEq, Try.ntmps71, hwn, bh0t, h0t, rI_get h0t, hb, hkl, bg0t]) <;> exact rfl
  · exact sl_contains _ _
  apply W_run
  · (simp only [go_sem, Nat.reducePow, Nat.reduceLT, Nat.reduceAdd, Nat.reduceSub, Nat.reduceMul, Nat.reduceLeDiff, reduceIte, Nat.reduceEqDiff, Nat.reduceBEq, Try.ntmps71, hwn, bh0t, h0t, rI_get h0t, hb, hkl, bg0t]) <;> exact rfl
  apply W_nil
  apply K_seq
  apply T_if
  · (simp only [go_sem, Nat.reducePow, Nat.reduceLT, Nat.reduceAdd, Nat.reduceSub, Nat.reduceMul, Nat.reduceLeDiff, reduceIte, Nat.reduceEqDiff, Nat.reduceBEq, Try.ntmps71, hwn, bh0t, h0t, rI_get h0t, hb, hkl, bg0t]) <;> exact rfl
  · intro bh1t
    have h1t := bh1t
    try simp only [beq_true, beq_false, decide_eq_true_eq, decide_eq_false_iff_not, Bool.not_eq_true', Bool.not_eq_false', Bool.not_eq_true, Bool.not_eq_false, ne_eq, Int.ofNat_lt, Int.ofNat_le, beq_iff_eq, bne_iff_ne, beq_eq_false_iff_ne, bne_eq_false_iff_eq, ge_iff_le, gt_iff_lt, Bool.not_true, Bool.not_false, Decidable.not_not, Int.natCast_inj, Int.natCast_nonneg] at h1t
    try simp only [beq_true, beq_false, Bool.not_eq_true', Bool.not_eq_false', Bool.not_not, Bool.not_true, Bool.not_false] at bh1t
    try exact absurd bh1t (by decide)
    all_goals (
  apply T_seq
  apply T_r F
  · (simp only [go_sem, Nat.reducePow, Nat.reduceLT, Nat.reduceAdd, Nat.reduceSub, Nat.reduceMul, Nat.reduceLeDiff, reduceIte, Nat.reduceEqDiff, Nat.reduceBEq, Try.ntmps71, hwn, bh0t, h0t, rI_get h0t, hb, hkl, bg0t, bh1t]) <;> exact rfl
  apply K_seq
  apply T_ret
  apply K_blkR
  apply K_seqR
  apply K_lpR
  apply K_blkR
  apply K_seqR
  apply fin_ret
  · (simp only [go_sem, Nat.reducePow, Nat.reduceLT, Nat.reduceAdd, Nat.reduceSub, Nat.reduceMul, Nat.reduceLeDiff, reduceIte, Nat.reduceEqDiff, Nat.reduceBEq, Try.ntmps71, hwn, bh0t, h0t, rI_get h0t, hb, hkl, bg0t, bh1t, Try.f71]) <;> exact rfl
  -- leaf 0 (ret)
  simp only [go_sem, Nat.reducePow, Nat.reduceLT, Nat.reduceAdd, Nat.reduceSub, Nat.reduceMul, Nat.reduceLeDiff, reduceIte, Nat.reduceEqDiff, Nat.reduceBEq, Try.ntmps71, hwn, bh0t, h0t, rI_get h0t, hb, hkl, bg0t, bh1t, V.bool.injEq, V.int.injEq, true_and]
  grind [M.different_false, M.different_true])
  · intro bh1f
    have h1f := bh1f
    try simp only [beq_true, beq_false, decide_eq_true_eq, decide_eq_false_iff_not, Bool.not_eq_true', Bool.not_eq_false', Bool.not_eq_true, Bool.not_eq_false, ne_eq, Int.ofNat_lt, Int.ofNat_le, beq_iff_eq, bne_iff_ne, beq_eq_false_iff_ne, bne_eq_false_iff_eq, ge_iff_le, gt_iff_lt, Bool.not_true, Bool.not_false, Decidable.not_not, Int.natCast_inj, Int.natCast_nonneg] at h1f
    try simp only [beq_true, beq_false, Bool.not_eq_true', Bool.not_eq_false', Bool.not_not, Bool.not_true, Bool.not_false] at bh1f
    try exact absurd bh1f (by decide)
    all_goals (
  apply T_skip
  apply K_blk
  apply K_seq
  apply T_r F
  · (simp only [go_sem, Nat.reducePow, Nat.reduceLT, Nat.reduceAdd, Nat.reduceSub, Nat.reduceMul, Nat.reduceLeDiff, reduceIte, Nat.reduceEqDiff, Nat.reduceBEq, Try.ntmps71, hwn, bh0t, h0t, rI_get h0t, hb, hkl, bg0t, bh1f]) <;> exact rfl
  refine K_lp (k + 1) ?_ ?_
  · (simp only [go_sem, Nat.reducePow, Nat.reduceLT, Nat.reduceAdd, Nat.reduceSub, Nat.reduceMul, Nat.reduceLeDiff, reduceIte, Nat.reduceEqDiff, Nat.reduceBEq, Try.ntmps71, hwn, bh0t, h0t, rI_get h0t, hb, hkl, bg0t, bh1f]) <;> exact rfl
  -- leaf 1 (loop0)
  grind))
  · intro bg0f
    have g0f := bg0f
    try simp only [beq_true, beq_false, decide_eq_true_eq, decide_eq_false_iff_not, Bool.not_eq_true', Bool.not_eq_false', Bool.not_eq_true, Bool.not_eq_false, ne_eq, Int.ofNat_lt, Int.ofNat_le, beq_iff_eq, bne_iff_ne, beq_eq_false_iff_ne, bne_eq_false_iff_eq, ge_iff_le, gt_iff_lt, Bool.not_true, Bool.not_false, Decidable.not_not, Int.natCast_inj, Int.natCast_nonneg] at g0f
    try simp only [beq_true, beq_false, Bool.not_eq_true', Bool.not_eq_false', Bool.not_not, Bool.not_true, Bool.not_false] at bg0f
    try exact absurd bg0f (by decide)
    all_goals (
  apply W_run
  · (simp only [go_sem, Nat.reducePow, Nat.reduceLT, Nat.reduceAdd, Nat.reduceSub, Nat.reduceMul, Nat.reduceLeDiff, reduceIte, Nat.reduceEqDiff, Nat.reduceBEq, Try.ntmps71, hwn, bh0t, h0t, rI_get h0t, hb, hkl, bg0f]) <;> exact rfl
  apply W_nil
  apply K_seq
  apply T_if
  · (simp only [go_sem, Nat.reducePow, Nat.reduceLT, Nat.reduceAdd, Nat.reduceSub, Nat.reduceMul, Nat.reduceLeDiff, reduceIte, Nat.reduceEqDiff, Nat.reduceBEq, Try.ntmps71, hwn, bh0t, h0t, rI_get h0t, hb, hkl, bg0f]) <;> exact rfl
  · intro bh2t
    have h2t := bh2t
    try simp only [beq_true, beq_false, decide_eq_true_eq, decide_eq_false_iff_not, Bool.not_eq_true', Bool.not_eq_false', Bool.not_eq_true, Bool.not_eq_false, ne_eq, Int.ofNat_lt, Int.ofNat_le, beq_iff_eq, bne_iff_ne, beq_eq_false_iff_ne, bne_eq_false_iff_eq, ge_iff_le, gt_iff_lt, Bool.not_true, Bool.not_false, Decidable.not_not, Int.natCast_inj, Int.natCast_nonneg] at h2t
    try simp only [beq_true, beq_false, Bool.not_eq_true', Bool.not_eq_false', Bool.not_not, Bool.not_true, Bool.not_false] at bh2t
    try exact absurd bh2t (by decide)
    all_goals (
  apply T_seq
  apply T_r F
  · (simp only [go_sem, Nat.reducePow, Nat.reduceLT, Nat.reduceAdd, Nat.reduceSub, Nat.reduceMul, Nat.reduceLeDiff, reduceIte, Nat.reduceEqDiff, Nat.reduceBEq, Try.ntmps71, hwn, bh0t, h0t, rI_get h0t, hb, hkl, bg0f, bh2t]) <;> exact rfl
  apply K_seq
  apply T_ret
  apply K_blkR
  apply K_seqR
  apply K_lpR
  apply K_blkR
  apply K_seqR
  apply fin_ret
  · (simp only [go_sem, Nat.reducePow, Nat.reduceLT, Nat.reduceAdd, Nat.reduceSub, Nat.reduceMul, Nat.reduceLeDiff, reduceIte, Nat.reduceEqDiff, Nat.reduceBEq, Try.ntmps71, hwn, bh0t, h0t, rI_get h0t, hb, hkl, bg0f, bh2t, Try.f71]) <;> exact rfl
  -- leaf 2 (ret)
  simp only [go_sem, Nat.reducePow, Nat.reduceLT, Nat.reduceAdd, Nat.reduceSub, Nat.reduceMul, Nat.reduceLeDiff, reduceIte, Nat.reduceEqDiff, Nat.reduceBEq, Try.ntmps71, hwn, bh0t, h0t, rI_get h0t, hb, hkl, bg0f, bh2t, V.bool.injEq, V.int.injEq, true_and]
  grind [M.different_false, M.different_true])
  · intro bh2f
    exact absurd bh2f (by simp)))
    · intro bh0f
      have h0f := bh0f
      try simp only [beq_true, beq_false, decide_eq_true_eq, decide_eq_false_iff_not, Bool.not_eq_true', Bool.not_eq_false', Bool.not_eq_true, Bool.not_eq_false, ne_eq, Int.ofNat_lt, Int.ofNat_le, beq_iff_eq, bne_iff_ne, beq_eq_false_iff_ne, bne_eq_false_iff_eq, ge_iff_le, gt_iff_lt, Bool.not_true, Bool.not_false, Decidable.not_not, Int.natCast_inj, Int.natCast_nonneg] at h0f
      try simp only [beq_true, beq_false, Bool.not_eq_true', Bool.not_eq_false', Bool.not_not, Bool.not_true, Bool.not_false] at bh0f
      try exact absurd bh0f (by decide)
      all_goals (
  apply T_exit
  apply K_seqE
  apply K_lpE
  apply K_blkE
  apply K_seq
  apply T_seq
  apply T_r F
  · (simp only [go_sem, Nat.reducePow, Nat.reduceLT, Nat.reduceAdd, Nat.reduceSub, Nat.reduceMul, Nat.reduceLeDiff, reduceIte, Nat.reduceEqDiff, Nat.reduceBEq, Try.ntmps71, hwn, bh0f]) <;> exact rfl
  apply K_seq
  apply T_ret
  apply fin_ret
  · (simp only [go_sem, Nat.reducePow, Nat.reduceLT, Nat.reduceAdd, Nat.reduceSub, Nat.reduceMul, Nat.reduceLeDiff, reduceIte, Nat.reduceEqDiff, Nat.reduceBEq, Try.ntmps71, hwn, bh0f, Try.f71]) <;> exact rfl
  -- leaf 3 (ret)
  simp only [go_sem, Nat.reducePow, Nat.reduceLT, Nat.reduceAdd, Nat.reduceSub, Nat.reduceMul, Nat.reduceLeDiff, reduceIte, Nat.reduceEqDiff, Nat.reduceBEq, Try.ntmps71, hwn, bh0f, V.bool.injEq, V.int.injEq, true_and]
  grind [M.different_false, M.different_true])

end Go.Ab
