import Derived.Test.YtahflobpopclpaaSp1
namespace Go.Ab
open Go Go.RowKit Go.Proofs Fac
set_option linter.unusedVariables false
set_option linter.unusedSimpArgs false
set_option maxRecDepth 4000
set_option maxHeartbeats 1000000

theorem ref_in (x lo hi : Int) : Ret Try.prog 43 [.int .i64 x, .int .i64 lo, .int .i64 hi] (.bool (M.inr x lo hi)) := by
  apply Ret_fin (fn := Try.f43) Try.func43 rfl
  apply T_seq
  apply T_r F
  · (simp only [go_sem, Nat.reducePow, Nat.reduceLT, Nat.reduceAdd, Nat.reduceSub, Nat.reduceMul, Nat.reduceLeDiff, reduceIte, Nat.reduceEqDiff, Nat.reduceBEq, Try.ntmps43]) <;> exact rfl
  apply K_seq
  apply T_seq
  apply T_wL F [0, 1, 2, 3, 4, 5, 6, 7, 8] rfl
  apply W_pre [0, 1, 2, 3] [4, 5, 6, 7, 8]
  · (simp only [go_sem, Nat.reducePow, Nat.reduceLT, Nat.reduceAdd, Nat.reduceSub, Nat.reduceMul, Nat.reduceLeDiff, reduceIte, Nat.reduceEqDiff, Nat.reduceBEq, Try.ntmps43]) <;> exact rfl
  apply W_guard
  · (simp only [go_sem, Nat.reducePow, Nat.reduceLT, Nat.reduceAdd, Nat.reduceSub, Nat.reduceMul, Nat.reduceLeDiff, reduceIte, Nat.reduceEqDiff, Nat.reduceBEq, Try.ntmps43]) <;> exact rfl
  · (simp only [go_sem, Nat.reducePow, Nat.reduceLT, Nat.reduceAdd, Nat.reduceSub, Nat.reduceMul, Nat.reduceLeDiff, reduceIte, Nat.reduceEqDiff, Nat.reduceBEq, Try.ntmps43]) <;> exact rfl
  · intro bg0t
    have g0t := bg0t
    try simp only [beq_true, beq_false, decide_eq_true_eq, decide_eq_false_iff_not, Bool.not_eq_true', Bool.not_eq_false', Bool.not_eq_true, Bool.not_eq_false, ne_eq, Int.ofNat_lt, Int.ofNat_le, beq_iff_eq, bne_iff_ne, beq_eq_false_iff_ne, bne_eq_false_iff_eq, ge_iff_le, gt_iff_lt, Bool.not_true, Bool.not_false, Decidable.not_not, Int.natCast_inj, Int.natCast_nonneg] at g0t
    try simp only [beq_true, beq_false, Bool.not_eq_true', Bool.not_eq_false', Bool.not_not, Bool.not_true, Bool.not_false] at bg0t
    try exact absurd bg0t (by decide)
    all_goals (
  apply W_run
  · (simp only [go_sem, Nat.reducePow, Nat.reduceLT, Nat.reduceAdd, Nat.reduceSub, Nat.reduceMul, Nat.reduceLeDiff, reduceIte, Nat.reduceEqDiff, Nat.reduceBEq, Try.ntmps43, bg0t]) <;> exact rfl
  apply W_nil
  apply K_seq
  apply T_ret
  apply fin_ret
  · (simp only [go_sem, Nat.reducePow, Nat.reduceLT, Nat.reduceAdd, Nat.reduceSub, Nat.reduceMul, Nat.reduceLeDiff, reduceIte, Nat.reduceEqDiff, Nat.reduceBEq, Try.ntmps43, bg0t, Try.f43]) <;> exact rfl
  -- leaf 0 (ret)
  simp only [go_sem, Nat.reducePow, Nat.reduceLT, Nat.reduceAdd, Nat.reduceSub, Nat.reduceMul, Nat.reduceLeDiff, reduceIte, Nat.reduceEqDiff, Nat.reduceBEq, Try.ntmps43, bg0t, V.bool.injEq, V.int.injEq, true_and]
  grind [M.inr])
  · intro bg0f
    have g0f := bg0f
    try simp only [beq_true, beq_false, decide_eq_true_eq, decide_eq_false_iff_not, Bool.not_eq_true', Bool.not_eq_false', Bool.not_eq_true, Bool.not_eq_false, ne_eq, Int.ofNat_lt, Int.ofNat_le, beq_iff_eq, bne_iff_ne, beq_eq_false_iff_ne, bne_eq_false_iff_eq, ge_iff_le, gt_iff_lt, Bool.not_true, Bool.not_false, Decidable.not_not, Int.natCast_inj, Int.natCast_nonneg] at g0f
    try simp only [beq_true, beq_false, Bool.not_eq_true', Bool.not_eq_false', Bool.not_not, Bool.not_true, Bool.not_false] at bg0f
    try exact absurd bg0f (by decide)
    all_goals (
  apply W_run
  · (simp only [go_sem, Nat.reducePow, Nat.reduceLT, Nat.reduceAdd, Nat.reduceSub, Nat.reduceMul, Nat.reduceLeDiff, reduceIte, Nat.reduceEqDiff, Nat.reduceBEq, Try.ntmps43, bg0f]) <;> exact rfl
  apply W_nil
  apply K_seq
  apply T_ret
  apply fin_ret
  · (simp only [go_sem, Nat.reducePow, Nat.reduceLT, Nat.reduceAdd, Nat.reduceSub, Nat.reduceMul, Nat.reduceLeDiff, reduceIte, Nat.reduceEqDiff, Nat.reduceBEq, Try.ntmps43, bg0f, Try.f43]) <;> exact rfl
  -- leaf 1 (ret)
  simp only [go_sem, Nat.reducePow, Nat.reduceLT, Nat.reduceAdd, Nat.reduceSub, Nat.reduceMul, Nat.reduceLeDiff, reduceIte, Nat.reduceEqDiff, Nat.reduceBEq, Try.ntmps43, bg0f, V.bool.injEq, V.int.injEq, true_and]
  grind [M.inr])

theorem ref_has (l : List Int) (n : Int) : Ret Try.prog 18 [.sl 1 (rI l), .int .i64 n] (.bool (l.contains n)) := by
  refine Ret.of_fits fun hfits => ?_
  simp only [V.fits, V.fitsL, V.fitsR, rI_length] at hfits
  have hl := hfits.1.1
  apply Ret_fin (fn := Try.f18) Try.func18 rfl
  apply T_seq
  apply T_r F
  · (simp only [go_sem, Nat.reducePow, Nat.reduceLT, Nat.reduceAdd, Nat.reduceSub, Nat.reduceMul, Nat.reduceLeDiff, reduceIte, Nat.reduceEqDiff, Nat.reduceBEq, Try.ntmps18]) <;> exact rfl
  apply K_seq
  apply T_seq
  apply T_seq
  apply T_r F
  · (simp only [go_sem, Nat.reducePow, Nat.reduceLT, Nat.reduceAdd, Nat.reduceSub, Nat.reduceMul, Nat.reduceLeDiff, reduceIte, Nat.reduceEqDiff, Nat.reduceBEq, Try.ntmps18]) <;> exact rfl
  apply K_seq
  apply T_block
  apply T_lp (α := Nat) [true, true, false, false, false, true, false, false, false, false, false, false, false, false, false, false, false, false] (fun k => (⟨[.sl 1 (rI l), .int .i64 n, .undef, .undef, .undef, .int .i64 (k : Int), .undef, .undef, .undef, .undef, .undef, .undef, .undef, .undef, .undef, .undef, .undef, .undef], []⟩ : St)) (fun k => k ≤ l.length ∧ (l.drop k).contains n = l.contains n) (fun k => l.length - k) (0)
  · (simp only [go_sem, Nat.reducePow, Nat.reduceLT, Nat.reduceAdd, Nat.reduceSub, Nat.reduceMul, Nat.reduceLeDiff, reduceIte, Nat.reduceEqDiff, Nat.reduceBEq, Try.ntmps18]) <;> exact rfl
  · simp
  · rintro k ⟨hk, hj⟩
    apply T_seq
    apply T_seq
    apply T_r F
    · (simp only [go_sem, Nat.reducePow, Nat.reduceLT, Nat.reduceAdd, Nat.reduceSub, Nat.reduceMul, Nat.reduceLeDiff, reduceIte, Nat.reduceEqDiff, Nat.reduceBEq, Try.ntmps18]) <;> exact rfl
    apply K_seq
    apply T_if
    · (simp only [go_sem, Nat.reducePow, Nat.reduceLT, Nat.reduceAdd, Nat.reduceSub, Nat.reduceMul, Nat.reduceLeDiff, reduceIte, Nat.reduceEqDiff, Nat.reduceBEq, Try.ntmps18]) <;> exact rfl
    · intro bh0t
      have h0t := bh0t
      try simp only [beq_true, beq_false, decide_eq_true_eq, decide_eq_false_iff_not, Bool.not_eq_true', Bool.not_eq_false', Bool.not_eq_true, Bool.not_eq_false, ne_eq, Int.ofNat_lt, Int.ofNat_le, beq_iff_eq, bne_iff_ne, beq_eq_false_iff_ne, bne_eq_false_iff_eq, ge_iff_le, gt_iff_lt, Bool.not_true, Bool.not_false, Decidable.not_not, Int.natCast_inj, Int.natCast_nonneg] at h0t
      try simp only [beq_true, beq_false, Bool.not_eq_true', Bool.not_eq_false', Bool.not_not, Bool.not_true, Bool.not_false] at bh0t
      try exact absurd bh0t (by decide)
      all_goals (
  have hb : k < 9223372036854775807 := by omega
  have hd := List.drop_eq_getElem_cons h0t
  apply T_skip
  apply K_seq
  apply T_seq
  apply T_block
  apply T_seq
  apply T_r F
  · (simp only [go_sem, Nat.reducePow, Nat.reduceLT, Nat.reduceAdd, Nat.reduceSub, Nat.reduceMul, Nat.reduceLeDiff, reduceIte, Nat.reduceEqDiff, Nat.reduceBEq, Try.ntmps18, bh0t, h0t, rI_get h0t, hb]) <;> exact rfl
  apply K_seq
  apply T_if
  · (simp only [go_sem, Nat.reducePow, Nat.reduceLT, Nat.reduceAdd, Nat.reduceSub, Nat.reduceMul, Nat.reduceLeDiff, reduceIte, Nat.reduceEqDiff, Nat.reduceBEq, Try.ntmps18, bh0t, h0t, rI_get h0t, hb]) <;> exact rfl
  · intro bh1t
    have h1t := bh1t
    try simp only [beq_true, beq_false, decide_eq_true_eq, decide_eq_false_iff_not, Bool.not_eq_true', Bool.not_eq_false', Bool.not_eq_true, Bool.not_eq_false, ne_eq, Int.ofNat_lt, Int.ofNat_le, beq_iff_eq, bne_iff_ne, beq_eq_false_iff_ne, bne_eq_false_iff_eq, ge_iff_le, gt_iff_lt, Bool.not_true, Bool.not_false, Decidable.not_not, Int.natCast_inj, Int.natCast_nonneg] at h1t
    try simp only [beq_true, beq_false, Bool.not_eq_true', Bool.not_eq_false', Bool.not_not, Bool.not_true, Bool.not_false] at bh1t
    try exact absurd bh1t (by decide)
    all_goals (
  apply T_seq
  apply T_r F
  · (simp only [go_sem, Nat.reducePow, Nat.reduceLT, Nat.reduceAdd, Nat.reduceSub, Nat.reduceMul, Nat.reduceLeDiff, reduceIte, Nat.reduceEqDiff, Nat.reduceBEq, Try.ntmps18, bh0t, h0t, rI_get h0t, hb, bh1t]) <;> exact rfl
  apply K_seq
  apply T_ret
  apply K_blkR
  apply K_seqR
  apply K_lpR
  apply K_blkR
  apply K_seqR
  apply fin_ret
  · (simp only [go_sem, Nat.reducePow, Nat.reduceLT, Nat.reduceAdd, Nat.reduceSub, Nat.reduceMul, Nat.reduceLeDiff, reduceIte, Nat.reduceEqDiff, Nat.reduceBEq, Try.ntmps18, bh0t, h0t, rI_get h0t, hb, bh1t, Try.f18]) <;> exact rfl
  -- leaf 0 (ret)
  simp only [go_sem, Nat.reducePow, Nat.reduceLT, Nat.reduceAdd, Nat.reduceSub, Nat.reduceMul, Nat.reduceLeDiff, reduceIte, Nat.reduceEqDiff, Nat.reduceBEq, Try.ntmps18, bh0t, h0t, rI_get h0t, hb, bh1t, V.bool.injEq, V.int.injEq, true_and]
  grind)
  · intro bh1f
    have h1f := bh1f
    try simp only [beq_true, beq_false, decide_eq_true_eq, decide_eq_false_iff_not, Bool.not_eq_true', Bool.not_eq_false', Bool.not_eq_true, Bool.not_eq_false, ne_eq, Int.ofNat_lt, Int.ofNat_le, beq_iff_eq, bne_iff_ne, beq_eq_false_iff_ne, bne_eq_false_iff_eq, ge_iff_le, gt_iff_lt, Bool.not_true, Bool.not_false, Decidable.not_not, Int.natCast_inj, Int.natCast_nonneg] at h1f
    try simp only [beq_true, beq_false, Bool.not_eq_true', Bool.not_eq_false', Bool.not_not, Bool.not_true, Bool.not_false] at bh1f
    try exact absurd bh1f (by decide)
    all_goals (
  apply T_skip
  apply K_blk
  apply K_seq
  apply T_r F
  · (simp only [go_sem, Nat.reducePow, Nat.reduceLT, Nat.reduceAdd, Nat.reduceSub, Nat.reduceMul, Nat.reduceLeDiff, reduceIte, Nat.reduceEqDiff, Nat.reduceBEq, Try.ntmps18, bh0t, h0t, rI_get h0t, hb, bh1f]) <;> exact rfl
  refine K_lp (k + 1) ?_ ?_
  · (simp only [go_sem, Nat.reducePow, Nat.reduceLT, Nat.reduceAdd, Nat.reduceSub, Nat.reduceMul, Nat.reduceLeDiff, reduceIte, Nat.reduceEqDiff, Nat.reduceBEq, Try.ntmps18, bh0t, h0t, rI_get h0t, hb, bh1f]) <;> exact rfl
  -- leaf 1 (loop0)
  grind))
    · intro bh0f
      have h0f := bh0f
      try simp only [beq_true, beq_false, decide_eq_true_eq, decide_eq_false_iff_not, Bool.not_eq_true', Bool.not_eq_false', Bool.not_eq_true, Bool.not_eq_false, ne_eq, Int.ofNat_lt, Int.ofNat_le, beq_iff_eq, bne_iff_ne, beq_eq_false_iff_ne, bne_eq_false_iff_eq, ge_iff_le, gt_iff_lt, Bool.not_true, Bool.not_false, Decidable.not_not, Int.natCast_inj, Int.natCast_nonneg] at h0f
      try simp only [beq_true, beq_false, Bool.not_eq_true', Bool.not_eq_false', Bool.not_not, Bool.not_true, Bool.not_false] at bh0f
      try exact absurd bh0f (by decide)
      all_goals (
  apply T_exit
  apply K_seqE
  apply K_lpE
  apply K_blkE
  apply K_seq
  apply T_seq
  apply T_r F
  · (simp only [go_sem, Nat.reducePow, Nat.reduceLT, Nat.reduceAdd, Nat.reduceSub, Nat.reduceMul, Nat.reduceLeDiff, reduceIte, Nat.reduceEqDiff, Nat.reduceBEq, Try.ntmps18, bh0f]) <;> exact rfl
  apply K_seq
  apply T_ret
  apply fin_ret
  · (simp only [go_sem, Nat.reducePow, Nat.reduceLT, Nat.reduceAdd, Nat.reduceSub, Nat.reduceMul, Nat.reduceLeDiff, reduceIte, Nat.reduceEqDiff, Nat.reduceBEq, Try.ntmps18, bh0f, Try.f18]) <;> exact rfl
  -- leaf 2 (ret)
  simp only [go_sem, Nat.reducePow, Nat.reduceLT, Nat.reduceAdd, Nat.reduceSub, Nat.reduceMul, Nat.reduceLeDiff, reduceIte, Nat.reduceEqDiff, Nat.reduceBEq, Try.ntmps18, bh0f, V.bool.injEq, V.int.injEq, true_and]
  grind)

theorem ref_lot (t : Town) (n : Int) : Ret Try.prog 33 [.agg (cT t), .int .i64 n] (.bool (M.lot t n)) := by
  refine Ret.of_fits fun hfits => ?_
  simp only [V.fits, V.fitsL, V.fitsR, cT_fits] at hfits
  have ht := hfits.1.walk
  apply Ret_fin (fn := Try.f33) Try.func33 rfl
  apply T_seq
  apply T_r F
  · (simp only [go_sem, Nat.reducePow, Nat.reduceLT, Nat.reduceAdd, Nat.reduceSub, Nat.reduceMul, Nat.reduceLeDiff, reduceIte, Nat.reduceEqDiff, Nat.reduceBEq, Try.ntmps33, wrap_len ht]) <;> exact rfl
  apply K_seq
  apply T_seq
  apply T_wL F [0, 1, 2, 3, 4, 5, 6] rfl
  apply W_pre [0, 1, 2, 3, 4] [5, 6]
  · (simp only [go_sem, Nat.reducePow, Nat.reduceLT, Nat.reduceAdd, Nat.reduceSub, Nat.reduceMul, Nat.reduceLeDiff, reduceIte, Nat.reduceEqDiff, Nat.reduceBEq, Try.ntmps33, wrap_len ht]) <;> exact rfl
  apply W_call -- call 0 of function 43
  · (simp only [go_sem, Nat.reducePow, Nat.reduceLT, Nat.reduceAdd, Nat.reduceSub, Nat.reduceMul, Nat.reduceLeDiff, reduceIte, Nat.reduceEqDiff, Nat.reduceBEq, Try.ntmps33, wrap_len ht]) <;> exact rfl
  · (simp only [go_sem, Nat.reducePow, Nat.reduceLT, Nat.reduceAdd, Nat.reduceSub, Nat.reduceMul, Nat.reduceLeDiff, reduceIte, Nat.reduceEqDiff, Nat.reduceBEq, Try.ntmps33, wrap_len ht]) <;> exact rfl
  · exact rfl
  · (simp only [go_sem, Nat.reducePow, Nat.reduceLT, Nat.reduceAdd, Nat.reduceSub, Nat.reduceMul, Nat.reduceLeDiff, reduceIte, Nat.reduceEqDiff, Nat.reduceBEq, Try.ntmps33, wrap_len ht]) <;> exact rfl
  · (simp only [go_sem, Nat.reducePow, Nat.reduceLT, Nat.reduceAdd, Nat.reduceSub, Nat.reduceMul, Nat.reduceLeDiff, reduceIte, Nat.reduceEqDiff, Nat.reduceBEq, Try.ntmps33, wrap_len ht]) <;> exact rfl
  · exact ⟨_, Try.func43, rfl, rfl⟩
  · (simp only [go_sem, Nat.reducePow, Nat.reduceLT, Nat.reduceAdd, Nat.reduceSub, Nat.reduceMul, Nat.reduceLeDiff, reduceIte, Nat.reduceEqDiff, Nat.reduceBEq, Try.ntmps33, wrap_len ht]) <;> exact rfl
  · (simp only [go_sem, Nat.reducePow, Nat.reduceLT, Nat.reduceAdd, Nat.reduceSub, Nat.reduceMul, Nat.reduceLeDiff, reduceIte, Nat.reduceEqDiff, Nat.reduceBEq, Try.ntmps33, wrap_len ht]) <;> exact rfl
  · exact ref_in _ _ _
  apply W_run
  · (simp only [go_sem, Nat.reducePow, Nat.reduceLT, Nat.reduceAdd, Nat.reduceSub, Nat.reduceMul, Nat.reduceLeDiff, reduceIte, Nat.reduceEqDiff, Nat.reduceBEq, Try.ntmps33, wrap_len ht]) <;> exact rfl
  apply W_nil
  apply K_seq
  apply T_ret
  apply fin_ret
  · (simp only [go_sem, Nat.reducePow, Nat.reduceLT, Nat.reduceAdd, Nat.reduceSub, Nat.reduceMul, Nat.reduceLeDiff, reduceIte, Nat.reduceEqDiff, Nat.reduceBEq, Try.ntmps33, wrap_len ht, Try.f33]) <;> exact rfl
  -- leaf 0 (ret)
  simp only [go_sem, Nat.reducePow, Nat.reduceLT, Nat.reduceAdd, Nat.reduceSub, Nat.reduceMul, Nat.reduceLeDiff, reduceIte, Nat.reduceEqDiff, Nat.reduceBEq, Try.ntmps33, wrap_len ht, V.bool.injEq, V.int.injEq, true_and]
  first | rfl | simp [M.lot]

theorem ref_house (t : Town) (n : Int) : Ret Try.prog 15 [.agg (cT t), .int .i64 n] (.bool (M.house t n)) := by
  refine Ret.of_fits fun hfits => ?_
  simp only [V.fits, V.fitsL, V.fitsR, cT_fits] at hfits
  have ht := hfits.1.houses
  apply Ret_fin (fn := Try.f15) Try.func15 rfl
  apply T_seq
  apply T_r F
  · (simp only [go_sem, Nat.reducePow, Nat.reduceLT, Nat.reduceAdd, Nat.reduceSub, Nat.reduceMul, Nat.reduceLeDiff, reduceIte, Nat.reduceEqDiff, Nat.reduceBEq, Try.ntmps15, wrap_len ht]) <;> exact rfl
  apply K_seq
  apply T_seq
  apply T_wL F [0, 1, 2, 3, 4, 5, 6] rfl
  apply W_pre [0, 1, 2, 3, 4] [5, 6]
  · (simp only [go_sem, Nat.reducePow, Nat.reduceLT, Nat.reduceAdd, Nat.reduceSub, Nat.reduceMul, Nat.reduceLeDiff, reduceIte, Nat.reduceEqDiff, Nat.reduceBEq, Try.ntmps15, wrap_len ht]) <;> exact rfl
  apply W_call -- call 0 of function 43
  · (simp only [go_sem, Nat.reducePow, Nat.reduceLT, Nat.reduceAdd, Nat.reduceSub, Nat.reduceMul, Nat.reduceLeDiff, reduceIte, Nat.reduceEqDiff, Nat.reduceBEq, Try.ntmps15, wrap_len ht]) <;> exact rfl
  · (simp only [go_sem, Nat.reducePow, Nat.reduceLT, Nat.reduceAdd, Nat.reduceSub, Nat.reduceMul, Nat.reduceLeDiff, reduceIte, Nat.reduceEqDiff, Nat.reduceBEq, Try.ntmps15, wrap_len ht]) <;> exact rfl
  · exact rfl
  · (simp only [go_sem, Nat.reducePow, Nat.reduceLT, Nat.reduceAdd, Nat.reduceSub, Nat.reduceMul, Nat.reduceLeDiff, reduceIte, Nat.reduceEqDiff, Nat.reduceBEq, Try.ntmps15, wrap_len ht]) <;> exact rfl
  · (simp only [go_sem, Nat.reducePow, Nat.reduceLT, Nat.reduceAdd, Nat.reduceSub, Nat.reduceMul, Nat.reduceLeDiff, reduceIte, Nat.reduceEqDiff, Nat.reduceBEq, Try.ntmps15, wrap_len ht]) <;> exact rfl
  · exact ⟨_, Try.func43, rfl, rfl⟩
  · (simp only [go_sem, Nat.reducePow, Nat.reduceLT, Nat.reduceAdd, Nat.reduceSub, Nat.reduceMul, Nat.reduceLeDiff, reduceIte, Nat.reduceEqDiff, Nat.reduceBEq, Try.ntmps15, wrap_len ht]) <;> exact rfl
  · (simp only [go_sem, Nat.reducePow, Nat.reduceLT, Nat.reduceAdd, Nat.reduceSub, Nat.reduceMul, Nat.reduceLeDiff, reduceIte, Nat.reduceEqDiff, Nat.reduceBEq, Try.ntmps15, wrap_len ht]) <;> exact rfl
  · exact ref_in _ _ _
  apply W_run
  · (simp only [go_sem, Nat.reducePow, Nat.reduceLT, Nat.reduceAdd, Nat.reduceSub, Nat.reduceMul, Nat.reduceLeDiff, reduceIte, Nat.reduceEqDiff, Nat.reduceBEq, Try.ntmps15, wrap_len ht]) <;> exact rfl
  apply W_nil
  apply K_seq
  apply T_ret
  apply fin_ret
  · (simp only [go_sem, Nat.reducePow, Nat.reduceLT, Nat.reduceAdd, Nat.reduceSub, Nat.reduceMul, Nat.reduceLeDiff, reduceIte, Nat.reduceEqDiff, Nat.reduceBEq, Try.ntmps15, wrap_len ht, Try.f15]) <;> exact rfl
  -- leaf 0 (ret)
  simp only [go_sem, Nat.reducePow, Nat.reduceLT, Nat.reduceAdd, Nat.reduceSub, Nat.reduceMul, Nat.reduceLeDiff, reduceIte, Nat.reduceEqDiff, Nat.reduceBEq, Try.ntmps15, wrap_len ht, V.bool.injEq, V.int.injEq, true_and]
  first | rfl | simp [M.house]

theorem ref_plan (t : Town) (p : List Int) : Ret Try.prog 14 [.agg (cT t), .sl 1 (rI p)] (.bool (M.plan t p)) := by
  refine Ret.of_fits fun hfits => ?_
  simp only [V.fits, V.fitsL, V.fitsR, cT_fits] at hfits
  simp only [V.fits, V.fitsL, rI_length] at hfits
  have hl := hfits.2.1.1
  apply Ret_fin (fn := Try.f14) Try.func14 rfl
  apply T_seq
  apply T_r F
  · (simp only [go_sem, Nat.reducePow, Nat.reduceLT, Nat.reduceAdd, Nat.reduceSub, Nat.reduceMul, Nat.reduceLeDiff, reduceIte, Nat.reduceEqDiff, Nat.reduceBEq, Try.ntmps14]) <;> exact rfl
  apply K_seq
  apply T_seq
  apply T_seq
  apply T_r F
  · (simp only [go_sem, Nat.reducePow, Nat.reduceLT, Nat.reduceAdd, Nat.reduceSub, Nat.reduceMul, Nat.reduceLeDiff, reduceIte, Nat.reduceEqDiff, Nat.reduceBEq, Try.ntmps14]) <;> exact rfl
  apply K_seq
  apply T_block
  apply T_lp (α := Nat) [false, true, true, false, false, true, false, false, false, false, false, false, false, false, false, false, false, false, false, false, false, false, false, false, false] (fun k => (⟨[.undef, .sl 1 (rI p), .ptr 0 0, .undef, .undef, .int .i64 (k : Int), .undef, .undef, .undef, .undef, .undef, .undef, .undef, .undef, .undef, .undef, .undef, .undef, .undef, .undef, .undef, .undef, .undef, .undef, .undef], [.box 28 (cT t)]⟩ : St)) (fun k => k ≤ p.length ∧ (p.drop k).all (M.lot t) = p.all (M.lot t)) (fun k => p.length - k) (0)
  · (simp only [go_sem, Nat.reducePow, Nat.reduceLT, Nat.reduceAdd, Nat.reduceSub, Nat.reduceMul, Nat.reduceLeDiff, reduceIte, Nat.reduceEqDiff, Nat.reduceBEq, Try.ntmps14]) <;> exact rfl
  · simp
  · rintro k ⟨hk, hj⟩
    apply T_seq
    apply T_seq
    apply T_r F
    · (simp only [go_sem, Nat.reducePow, Nat.reduceLT, Nat.reduceAdd, Nat.reduceSub, Nat.reduceMul, Nat.reduceLeDiff, reduceIte, Nat.reduceEqDiff, Nat.reduceBEq, Try.ntmps14]) <;> exact rfl
    apply K_seq
    apply T_if
    · (simp only [go_sem, Nat.reducePow, Nat.reduceLT, Nat.reduceAdd, Nat.reduceSub, Nat.reduceMul, Nat.reduceLeDiff, reduceIte, Nat.reduceEqDiff, Nat.reduceBEq, Try.ntmps14]) <;> exact rfl
    · intro bh0t
      have h0t := bh0t
      try simp only [beq_true, beq_false, decide_eq_true_eq, decide_eq_false_iff_not, Bool.not_eq_true', Bool.not_eq_false', Bool.not_eq_true, Bool.not_eq_false, ne_eq, Int.ofNat_lt, Int.ofNat_le, beq_iff_eq, bne_iff_ne, beq_eq_false_iff_ne, bne_eq_false_iff_eq, ge_iff_le, gt_iff_lt, Bool.not_true, Bool.not_false, Decidable.not_not, Int.natCast_inj, Int.natCast_nonneg] at h0t
      try simp only [beq_true, beq_false, Bool.not_eq_true', Bool.not_eq_false', Bool.not_not, Bool.not_true, Bool.not_false] at bh0t
      try exact absurd bh0t (by decide)
      all_goals (
  have hb : k < 9223372036854775807 := by omega
  have hd := List.drop_eq_getElem_cons h0t
  apply T_skip
  apply K_seq
  apply T_seq
  apply T_block
  apply T_seq
  apply T_qL F [0, 1, 2, 3, 4, 5, 6] rfl (by kernel_rfl)
  apply Q_pre [0, 1, 2, 3, 4] [5, 6]
  · (simp only [go_sem, Nat.reducePow, Nat.reduceLT, Nat.reduceAdd, Nat.reduceSub, Nat.reduceMul, Nat.reduceLeDiff, reduceIte, Nat.reduceEqDiff, Nat.reduceBEq, Try.ntmps14, bh0t, h0t, rI_get h0t, hb]) <;> exact rfl
  apply Q_call -- call 0 of function 33
  · (simp only [go_sem, Nat.reducePow, Nat.reduceLT, Nat.reduceAdd, Nat.reduceSub, Nat.reduceMul, Nat.reduceLeDiff, reduceIte, Nat.reduceEqDiff, Nat.reduceBEq, Try.ntmps14, bh0t, h0t, rI_get h0t, hb]) <;> exact rfl
  · (simp only [go_sem, Nat.reducePow, Nat.reduceLT, Nat.reduceAdd, Nat.reduceSub, Nat.reduceMul, Nat.reduceLeDiff, reduceIte, Nat.reduceEqDiff, Nat.reduceBEq, Try.ntmps14, bh0t, h0t, rI_get h0t, hb]) <;> exact rfl
  · exact rfl
  · (simp only [go_sem, Nat.reducePow, Nat.reduceLT, Nat.reduceAdd, Nat.reduceSub, Nat.reduceMul, Nat.reduceLeDiff, reduceIte, Nat.reduceEqDiff, Nat.reduceBEq, Try.ntmps14, bh0t, h0t, rI_get h0t, hb]) <;> exact rfl
  · (simp only [go_sem, Nat.reducePow, Nat.reduceLT, Nat.reduceAdd, Nat.reduceSub, Nat.reduceMul, Nat.reduceLeDiff, reduceIte, Nat.reduceEqDiff, Nat.reduceBEq, Try.ntmps14, bh0t, h0t, rI_get h0t, hb]) <;> exact rfl
  · exact ⟨_, Try.func33, rfl, rfl⟩
  · (simp only [go_sem, Nat.reducePow, Nat.reduceLT, Nat.reduceAdd, Nat.reduceSub, Nat.reduceMul, Nat.reduceLeDiff, reduceIte, Nat.reduceEqDiff, Nat.reduceBEq, Try.ntmps14, bh0t, h0t, rI_get h0t, hb]) <;> exact rfl
  · exact ref_lot _ _
  apply Q_run
  · (simp only [go_sem, Nat.reducePow, Nat.reduceLT, Nat.reduceAdd, Nat.reduceSub, Nat.reduceMul, Nat.reduceLeDiff, reduceIte, Nat.reduceEqDiff, Nat.reduceBEq, Try.ntmps14, bh0t, h0t, rI_get h0t, hb]) <;> exact rfl
  apply Q_nil
  apply K_seq
  apply T_if
  · (simp only [go_sem, Nat.reducePow, Nat.reduceLT, Nat.reduceAdd, Nat.reduceSub, Nat.reduceMul, Nat.reduceLeDiff, reduceIte, Nat.reduceEqDiff, Nat.reduceBEq, Try.ntmps14, bh0t, h0t, rI_get h0t, hb]) <;> exact rfl
  · intro bh1t
    have h1t := bh1t
    try simp only [beq_true, beq_false, decide_eq_true_eq, decide_eq_false_iff_not, Bool.not_eq_true', Bool.not_eq_false', Bool.not_eq_true, Bool.not_eq_false, ne_eq, Int.ofNat_lt, Int.ofNat_le, beq_iff_eq, bne_iff_ne, beq_eq_false_iff_ne, bne_eq_false_iff_eq, ge_iff_le, gt_iff_lt, Bool.not_true, Bool.not_false, Decidable.not_not, Int.natCast_inj, Int.natCast_nonneg] at h1t
    try simp only [beq_true, beq_false, Bool.not_eq_true', Bool.not_eq_false', Bool.not_not, Bool.not_true, Bool.not_false] at bh1t
    try exact absurd bh1t (by decide)
    all_goals (
  apply T_seq
  apply T_r F
  · (simp only [go_sem, Nat.reducePow, Nat.reduceLT, Nat.reduceAdd, Nat.reduceSub, Nat.reduceMul, Nat.reduceLeDiff, reduceIte, Nat.reduceEqDiff, Nat.reduceBEq, Try.ntmps14, bh0t, h0t, rI_get h0t, hb, bh1t]) <;> exact rfl
  apply K_seq
  apply T_ret
  apply K_blkR
  apply K_seqR
  apply K_lpR
  apply K_blkR
  apply K_seqR
  apply fin_ret
  · (simp only [go_sem, Nat.reducePow, Nat.reduceLT, Nat.reduceAdd, Nat.reduceSub, Nat.reduceMul, Nat.reduceLeDiff, reduceIte, Nat.reduceEqDiff, Nat.reduceBEq, Try.ntmps14, bh0t, h0t, rI_get h0t, hb, bh1t, Try.f14]) <;> exact rfl
  -- leaf 0 (ret)
  simp only [go_sem, Nat.reducePow, Nat.reduceLT, Nat.reduceAdd, Nat.reduceSub, Nat.reduceMul, Nat.reduceLeDiff, reduceIte, Nat.reduceEqDiff, Nat.reduceBEq, Try.ntmps14, bh0t, h0t, rI_get h0t, hb, bh1t, V.bool.injEq, V.int.injEq, true_and]
  grind [M.plan])
  · intro bh1f
    have h1f := bh1f
    try simp only [beq_true, beq_false, decide_eq_true_eq, decide_eq_false_iff_not, Bool.not_eq_true', Bool.not_eq_false', Bool.not_eq_true, Bool.not_eq_false, ne_eq, Int.ofNat_lt, Int.ofNat_le, beq_iff_eq, bne_iff_ne, beq_eq_false_iff_ne, bne_eq_false_iff_eq, ge_iff_le, gt_iff_lt, Bool.not_true, Bool.not_false, Decidable.not_not, Int.natCast_inj, Int.natCast_nonneg] at h1f
    try simp only [beq_true, beq_false, Bool.not_eq_true', Bool.not_eq_false', Bool.not_not, Bool.not_true, Bool.not_false] at bh1f
    try exact absurd bh1f (by decide)
    all_goals (
  apply T_skip
  apply K_blk
  apply K_seq
  apply T_r F
  · (simp only [go_sem, Nat.reducePow, Nat.reduceLT, Nat.reduceAdd, Nat.reduceSub, Nat.reduceMul, Nat.reduceLeDiff, reduceIte, Nat.reduceEqDiff, Nat.reduceBEq, Try.ntmps14, bh0t, h0t, rI_get h0t, hb, bh1f]) <;> exact rfl
  refine K_lp (k + 1) ?_ ?_
  · (simp only [go_sem, Nat.reducePow, Nat.reduceLT, Nat.reduceAdd, Nat.reduceSub, Nat.reduceMul, Nat.reduceLeDiff, reduceIte, Nat.reduceEqDiff, Nat.reduceBEq, Try.ntmps14, bh0t, h0t, rI_get h0t, hb, bh1f]) <;> exact rfl
  -- leaf 1 (loop0)
  grind))
    · intro bh0f
      have h0f := bh0f
      try simp only [beq_true, beq_false, decide_eq_true_eq, decide_eq_false_iff_not, Bool.not_eq_true', Bool.not_eq_false', Bool.not_eq_true, Bool.not_eq_false, ne_eq, Int.ofNat_lt, Int.ofNat_le, beq_iff_eq, bne_iff_ne, beq_eq_false_iff_ne, bne_eq_false_iff_eq, ge_iff_le, gt_iff_lt, Bool.not_true, Bool.not_false, Decidable.not_not, Int.natCast_inj, Int.natCast_nonneg] at h0f
      try simp only [beq_true, beq_false, Bool.not_eq_true', Bool.not_eq_false', Bool.not_not, Bool.not_true, Bool.not_false] at bh0f
      try exact absurd bh0f (by decide)
      all_goals (
  apply T_exit
  apply K_seqE
  apply K_lpE
  apply K_blkE
  apply K_seq
  apply T_seq
  apply T_r F
  · (simp only [go_sem, Nat.reducePow, Nat.reduceLT, Nat.reduceAdd, Nat.reduceSub, Nat.reduceMul, Nat.reduceLeDiff, reduceIte, Nat.reduceEqDiff, Nat.reduceBEq, Try.ntmps14, bh0f]) <;> exact rfl
  apply K_seq
  apply T_ret
  apply fin_ret
  · (simp only [go_sem, Nat.reducePow, Nat.reduceLT, Nat.reduceAdd, Nat.reduceSub, Nat.reduceMul, Nat.reduceLeDiff, reduceIte, Nat.reduceEqDiff, Nat.reduceBEq, Try.ntmps14, bh0f, Try.f14]) <;> exact rfl
  -- leaf 2 (ret)
  simp only [go_sem, Nat.reducePow, Nat.reduceLT, Nat.reduceAdd, Nat.reduceSub, Nat.reduceMul, Nat.reduceLeDiff, reduceIte, Nat.reduceEqDiff, Nat.reduceBEq, Try.ntmps14, bh0f, V.bool.injEq, V.int.injEq, true_and]
  grind [M.plan])

end Go.Ab
