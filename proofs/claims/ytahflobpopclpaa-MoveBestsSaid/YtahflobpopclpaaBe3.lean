import Derived.Test.YtahflobpopclpaaBe2
import Derived.RecoverIn
set_option linter.unusedVariables false
set_option linter.unusedSimpArgs false
namespace Go.Ab
open Go Go.RowKit Go.Proofs Fac
set_option linter.unusedVariables false
set_option linter.unusedSimpArgs false
set_option maxRecDepth 4000
set_option maxHeartbeats 1000000

theorem ref_fault (t : Town) (p : List Int) (ok : M.Ok t) (hp : M.plan t p = true) : Ret Try.prog 40 [.agg (cT t), .sl 1 (rI p)] (.agg [.int .i64 (M.fault t p).1, .int .i64 (M.fault t p).2]) := by
  refine Ret.of_fits fun hfits => ?_
  simp only [V.fits, V.fitsL, V.fitsR, cT_fits] at hfits
  simp only [V.fits, V.fitsL, rI_length] at hfits
  have hl := hfits.2.1.1
  have hlen := (M.plan_iff.1 hp).1
  have hlot := (M.plan_iff.1 hp).2
  have hgl := ok.gone
  have hlk := hfits.1.kin
  apply Ret_fin (fn := Try.f40) Try.func40 rfl
  apply T_seq
  apply T_r F
  · (simp only [go_sem, Try.ntmps40]) <;> exact rfl
  apply K_seq
  apply T_seq
  apply T_seq
  apply T_r F
  · (simp only [go_sem, Try.ntmps40]) <;> exact rfl
  apply K_seq
  apply T_block
  apply T_lp (α := Nat) [false, true, true, false, true, true, false, false, false, false, false, false, false, false, false, false, false, false, false, false, false, false, false, false, false, false, false, false, false, false, false, false, false, false, false, false, false, false, false, false, false, false, false, false, false, false, false, false, false, false, false, false, false, false, false, false, false, false, false, false, false, false, false, false, false, false, false, false, false, false, false, false, false, false, false, false, false, false, false, false, false, false, false, false, false, false, false, false, false, false, false, false, false, false, false, false, false, false, false, false, false, false, false, false, false, false, false, false, false, false, false, false] (fun k0 => (⟨[.undef, .sl 1 (rI p), .ptr 0 0, .undef, .ptr 1 0, .int .i64 (k0 : Int), .undef, .undef, .undef, .undef, .undef, .undef, .undef, .undef, .undef, .undef, .undef, .undef, .undef, .undef, .undef, .undef, .undef, .undef, .undef, .undef, .undef, .undef, .undef, .undef, .undef, .undef, .undef, .undef, .undef, .undef, .undef, .undef, .undef, .undef, .undef, .undef, .undef, .undef, .undef, .undef, .undef, .undef, .undef, .undef, .undef, .undef, .undef, .undef, .undef, .undef, .undef, .undef, .undef, .undef, .undef, .undef, .undef, .undef, .undef, .undef, .undef, .undef, .undef, .undef, .undef, .undef, .undef, .undef, .undef, .undef, .undef, .undef, .undef, .undef, .undef, .undef, .undef, .undef, .undef, .undef, .undef, .undef, .undef, .undef, .undef, .undef, .undef, .undef, .undef, .undef, .undef, .undef, .undef, .undef, .undef, .undef, .undef, .undef, .undef, .undef, .undef, .undef, .undef, .undef, .undef, .undef], [.box 28 (cT t), .box 35 [.int .i64 0, .int .i64 0]]⟩ : St)) (fun k0 => k0 ≤ p.length ∧ ∀ j, j < k0 → M.shared p j = false) (fun k0 => p.length - k0) (0)
  · (simp only [go_sem, Try.ntmps40]) <;> exact rfl
  · simp
  · rintro k0 ⟨hk0, hj0⟩
    apply T_seq
    apply T_seq
    apply T_r F
    · (simp only [go_sem, Try.ntmps40]) <;> exact rfl
    apply K_seq
    apply T_if
    · (simp only [go_sem, Try.ntmps40]) <;> exact rfl
    · intro bh0t
      have h0t := bh0t
      try simp only [CS] at h0t
      try simp only [BS] at bh0t
      try exact absurd bh0t (by decide)
      all_goals (
  have hb0 : k0 < 9223372036854775807 := by omega
  have ha0 := M.at_get h0t
  have hkl : k0 ≤ p.length := by omega
  have hs0 : M.shared p k0 = (p.take k0).contains p[k0] := by rw [M.shared, ha0]
  apply T_skip
  apply K_seq
  apply T_seq
  apply T_block
  apply T_seq
  apply T_qL F [0, 1, 2, 3, 4, 5, 6, 7] rfl (by kernel_rfl)
  apply Q_pre [0, 1, 2, 3] [4, 5, 6, 7]
  · (simp only [go_sem, Try.ntmps40, bh0t, h0t, rI_get h0t, hb0, hkl]) <;> exact rfl
  apply Q_pre [4, 5, 6] [7]
  · (simp only [go_sem, Try.ntmps40, bh0t, h0t, rI_get h0t, hb0, hkl]) <;> exact rfl
  apply Q_call -- call 0 of function 18
  · (simp only [go_sem, Try.ntmps40, bh0t, h0t, rI_get h0t, hb0, hkl]) <;> exact rfl
  · (simp only [go_sem, Try.ntmps40, bh0t, h0t, rI_get h0t, hb0, hkl]) <;> exact rfl
  · exact rfl
  · (simp only [go_sem, Try.ntmps40, bh0t, h0t, rI_get h0t, hb0, hkl]) <;> exact rfl
  · (simp only [go_sem, Try.ntmps40, bh0t, h0t, rI_get h0t, hb0, hkl]) <;> exact rfl
  · exact ⟨_, Try.func18, rfl, rfl⟩
  · (simp only [go_sem, Try.ntmps40, bh0t, h0t, rI_get h0t, hb0, hkl]) <;> exact rfl
  · exact ref_has _ _
  apply Q_run
  · (simp only [go_sem, Try.ntmps40, bh0t, h0t, rI_get h0t, hb0, hkl]) <;> exact rfl
  apply Q_nil
  apply K_seq
  apply T_if
  · (simp only [go_sem, Try.ntmps40, bh0t, h0t, rI_get h0t, hb0, hkl]) <;> exact rfl
  · intro bh1t
    have h1t := bh1t
    try simp only [CS] at h1t
    try simp only [BS] at bh1t
    try exact absurd bh1t (by decide)
    all_goals (
  have f0 := M.first_some h0t (hs0.trans h1t) hj0
  apply T_seq
  apply T_r F
  · (simp only [go_sem, Try.ntmps40, bh0t, h0t, rI_get h0t, hb0, hkl, bh1t]) <;> exact rfl
  apply K_seq
  apply T_ret
  apply K_blkR
  apply K_seqR
  apply K_lpR
  apply K_blkR
  apply K_seqR
  apply fin_ret
  · (simp only [go_sem, Try.ntmps40, bh0t, h0t, rI_get h0t, hb0, hkl, bh1t, Try.f40]) <;> exact rfl
  -- leaf 0 (ret)
  simp only [go_sem, Try.ntmps40, bh0t, h0t, rI_get h0t, hb0, hkl, bh1t, V.bool.injEq, V.int.injEq, true_and]
  simp [M.fault, f0])
  · intro bh1f
    have h1f := bh1f
    try simp only [CS] at h1f
    try simp only [BS] at bh1f
    try exact absurd bh1f (by decide)
    all_goals (
  apply T_skip
  apply K_blk
  apply K_seq
  apply T_r F
  · (simp only [go_sem, Try.ntmps40, bh0t, h0t, rI_get h0t, hb0, hkl, bh1f]) <;> exact rfl
  refine K_lp (k0 + 1) ?_ ?_
  · (simp only [go_sem, Try.ntmps40, bh0t, h0t, rI_get h0t, hb0, hkl, bh1f]) <;> exact rfl
  -- leaf 1 (loop0)
  grind))
    · intro bh0f
      have h0f := bh0f
      try simp only [CS] at h0f
      try simp only [BS] at bh0f
      try exact absurd bh0f (by decide)
      all_goals (
  have f0 : M.first p.length (M.shared p) = none := M.first_none fun j hj => hj0 j (by omega)
  apply T_exit
  apply K_seqE
  apply K_lpE
  apply K_blkE
  apply K_seq
  apply T_seq
  apply T_seq
  apply T_r F
  · (simp only [go_sem, Try.ntmps40, bh0f]) <;> exact rfl
  apply K_seq
  apply T_block
  apply T_lp (α := Nat) [false, true, true, false, true, false, true, false, false, false, false, false, false, false, false, false, false, false, false, false, false, false, false, false, false, false, false, false, false, false, false, false, false, false, false, false, false, false, false, false, false, false, false, false, false, false, false, false, false, false, false, false, false, false, false, false, false, false, false, false, false, false, false, false, false, false, false, false, false, false, false, false, false, false, false, false, false, false, false, false, false, false, false, false, false, false, false, false, false, false, false, false, false, false, false, false, false, false, false, false, false, false, false, false, false, false, false, false, false, false, false, false] (fun k1 => (⟨[.undef, .sl 1 (rI p), .ptr 0 0, .undef, .ptr 1 0, .undef, .int .i64 (k1 : Int), .undef, .undef, .undef, .undef, .undef, .undef, .undef, .undef, .undef, .undef, .undef, .undef, .undef, .undef, .undef, .undef, .undef, .undef, .undef, .undef, .undef, .undef, .undef, .undef, .undef, .undef, .undef, .undef, .undef, .undef, .undef, .undef, .undef, .undef, .undef, .undef, .undef, .undef, .undef, .undef, .undef, .undef, .undef, .undef, .undef, .undef, .undef, .undef, .undef, .undef, .undef, .undef, .undef, .undef, .undef, .undef, .undef, .undef, .undef, .undef, .undef, .undef, .undef, .undef, .undef, .undef, .undef, .undef, .undef, .undef, .undef, .undef, .undef, .undef, .undef, .undef, .undef, .undef, .undef, .undef, .undef, .undef, .undef, .undef, .undef, .undef, .undef, .undef, .undef, .undef, .undef, .undef, .undef, .undef, .undef, .undef, .undef, .undef, .undef, .undef, .undef, .undef, .undef, .undef, .undef], [.box 28 (cT t), .box 35 [.int .i64 0, .int .i64 0]]⟩ : St)) (fun k1 => k1 ≤ p.length ∧ ∀ j, j < k1 → M.gone t (M.at' p j) = false) (fun k1 => p.length - k1) (0)
  · (simp only [go_sem, Try.ntmps40, bh0f]) <;> exact rfl
  · simp
  · rintro k1 ⟨hk1, hj1⟩
    apply T_seq
    apply T_seq
    apply T_r F
    · (simp only [go_sem, Try.ntmps40, bh0f]) <;> exact rfl
    apply K_seq
    apply T_if
    · (simp only [go_sem, Try.ntmps40, bh0f]) <;> exact rfl
    · intro bh2t
      have h2t := bh2t
      try simp only [CS] at h2t
      try simp only [BS] at bh2t
      try exact absurd bh2t (by decide)
      all_goals (
  have hb1 : k1 < 9223372036854775807 := by omega
  have ha1 := M.at_get h2t
  have hlk1 : M.lot t p[k1] = true := by have := hlot k1 h2t; rwa [M.at_get h2t] at this
  have hg1 := M.lot_iff.1 hlk1
  have hgg : (p[k1]).toNat < t.gone.length := by omega
  have hg0 := hg1.1
  have hs1 : M.gone t (M.at' p k1) = t.gone[(p[k1]).toNat] := by rw [ha1, M.gone_get hgg]
  apply T_skip
  apply K_seq
  apply T_seq
  apply T_block
  apply T_seq
  apply T_qL F [0, 1, 2, 3, 4, 5, 6, 7] rfl (by kernel_rfl)
  apply Q_pre [0, 1, 2, 3] [4, 5, 6, 7]
  · (simp only [go_sem, Try.ntmps40, bh0f, bh2t, h2t, rI_get h2t, hb1, hg0, rB_get hgg]) <;> exact rfl
  apply Q_run
  · (simp only [go_sem, Try.ntmps40, bh0f, bh2t, h2t, rI_get h2t, hb1, hg0, rB_get hgg]) <;> exact rfl
  apply Q_nil
  apply K_seq
  apply T_if
  · (simp only [go_sem, Try.ntmps40, bh0f, bh2t, h2t, rI_get h2t, hb1, hg0, rB_get hgg]) <;> exact rfl
  · intro bh3t
    have h3t := bh3t
    try simp only [CS] at h3t
    try simp only [BS] at bh3t
    try exact absurd bh3t (by decide)
    all_goals (
  have f1 := M.first_some (f := fun i => M.gone t (M.at' p i)) h2t (hs1.trans h3t) hj1
  apply T_seq
  apply T_r F
  · (simp only [go_sem, Try.ntmps40, bh0f, bh2t, h2t, rI_get h2t, hb1, hg0, rB_get hgg, bh3t]) <;> exact rfl
  apply K_seq
  apply T_ret
  apply K_blkR
  apply K_seqR
  apply K_lpR
  apply K_blkR
  apply K_seqR
  apply fin_ret
  · (simp only [go_sem, Try.ntmps40, bh0f, bh2t, h2t, rI_get h2t, hb1, hg0, rB_get hgg, bh3t, Try.f40]) <;> exact rfl
  -- leaf 2 (ret)
  simp only [go_sem, Try.ntmps40, bh0f, bh2t, h2t, rI_get h2t, hb1, hg0, rB_get hgg, bh3t, V.bool.injEq, V.int.injEq, true_and]
  simp [M.fault, f0, f1])
  · intro bh3f
    have h3f := bh3f
    try simp only [CS] at h3f
    try simp only [BS] at bh3f
    try exact absurd bh3f (by decide)
    all_goals (
  apply T_skip
  apply K_blk
  apply K_seq
  apply T_r F
  · (simp only [go_sem, Try.ntmps40, bh0f, bh2t, h2t, rI_get h2t, hb1, hg0, rB_get hgg, bh3f]) <;> exact rfl
  refine K_lp (k1 + 1) ?_ ?_
  · (simp only [go_sem, Try.ntmps40, bh0f, bh2t, h2t, rI_get h2t, hb1, hg0, rB_get hgg, bh3f]) <;> exact rfl
  -- leaf 3 (loop1)
  grind))
    · intro bh2f
      have h2f := bh2f
      try simp only [CS] at h2f
      try simp only [BS] at bh2f
      try exact absurd bh2f (by decide)
      all_goals (
  have f1 : M.first p.length (fun i => M.gone t (M.at' p i)) = none := M.first_none fun j hj => hj1 j (by omega)
  apply T_exit
  apply K_seqE
  apply K_lpE
  apply K_blkE
  apply K_seq
  apply T_seq
  apply T_seq
  apply T_r F
  · (simp only [go_sem, Try.ntmps40, bh0f, bh2f]) <;> exact rfl
  apply K_seq
  apply T_block
  apply T_lp (α := Nat) [false, true, true, false, true, false, false, true, false, false, false, false, false, false, false, false, false, false, false, false, false, false, false, false, false, false, false, false, false, false, false, false, false, false, false, false, false, false, false, false, false, false, false, false, false, false, false, false, false, false, false, false, false, false, false, false, false, false, false, false, false, false, false, false, false, false, false, false, false, false, false, false, false, false, false, false, false, false, false, false, false, false, false, false, false, false, false, false, false, false, false, false, false, false, false, false, false, false, false, false, false, false, false, false, false, false, false, false, false, false, false, false] (fun k2 => (⟨[.undef, .sl 1 (rI p), .ptr 0 0, .undef, .ptr 1 0, .undef, .undef, .int .i64 (k2 : Int), .undef, .undef, .undef, .undef, .undef, .undef, .undef, .undef, .undef, .undef, .undef, .undef, .undef, .undef, .undef, .undef, .undef, .undef, .undef, .undef, .undef, .undef, .undef, .undef, .undef, .undef, .undef, .undef, .undef, .undef, .undef, .undef, .undef, .undef, .undef, .undef, .undef, .undef, .undef, .undef, .undef, .undef, .undef, .undef, .undef, .undef, .undef, .undef, .undef, .undef, .undef, .undef, .undef, .undef, .undef, .undef, .undef, .undef, .undef, .undef, .undef, .undef, .undef, .undef, .undef, .undef, .undef, .undef, .undef, .undef, .undef, .undef, .undef, .undef, .undef, .undef, .undef, .undef, .undef, .undef, .undef, .undef, .undef, .undef, .undef, .undef, .undef, .undef, .undef, .undef, .undef, .undef, .undef, .undef, .undef, .undef, .undef, .undef, .undef, .undef, .undef, .undef, .undef, .undef], [.box 28 (cT t), .box 35 [.int .i64 0, .int .i64 0]]⟩ : St)) (fun k2 => k2 ≤ p.length ∧ ∀ j, j < k2 → M.unwished t p j = false) (fun k2 => p.length - k2) (0)
  · (simp only [go_sem, Try.ntmps40, bh0f, bh2f]) <;> exact rfl
  · simp
  · rintro k2 ⟨hk2, hj2⟩
    apply T_seq
    apply T_seq
    apply T_r F
    · (simp only [go_sem, Try.ntmps40, bh0f, bh2f]) <;> exact rfl
    apply K_seq
    apply T_if
    · (simp only [go_sem, Try.ntmps40, bh0f, bh2f]) <;> exact rfl
    · intro bh4t
      have h4t := bh4t
      try simp only [CS] at h4t
      try simp only [BS] at bh4t
      try exact absurd bh4t (by decide)
      all_goals (
  have hb2 : k2 < 9223372036854775807 := by omega
  have ha2 := M.at_get h4t
  have hs2 : M.unwished t p k2 = decide (M.rank t k2 p[k2] < 0) := by rw [M.unwished, ha2]
  apply T_skip
  apply K_seq
  apply T_seq
  apply T_block
  apply T_seq
  apply T_qL F [0, 1, 2, 3, 4, 5, 6, 7] rfl (by kernel_rfl)
  apply Q_pre [0, 1, 2, 3, 4, 5] [6, 7]
  · (simp only [go_sem, Try.ntmps40, bh0f, bh2f, bh4t, h4t, rI_get h4t, hb2]) <;> exact rfl
  apply Q_call -- call 1 of function 61
  · (simp only [go_sem, Try.ntmps40, bh0f, bh2f, bh4t, h4t, rI_get h4t, hb2]) <;> exact rfl
  · (simp only [go_sem, Try.ntmps40, bh0f, bh2f, bh4t, h4t, rI_get h4t, hb2]) <;> exact rfl
  · exact rfl
  · (simp only [go_sem, Try.ntmps40, bh0f, bh2f, bh4t, h4t, rI_get h4t, hb2]) <;> exact rfl
  · (simp only [go_sem, Try.ntmps40, bh0f, bh2f, bh4t, h4t, rI_get h4t, hb2]) <;> exact rfl
  · exact ⟨_, Try.func61, rfl, rfl⟩
  · (simp only [go_sem, Try.ntmps40, bh0f, bh2f, bh4t, h4t, rI_get h4t, hb2]) <;> exact rfl
  · exact ref_rank _ _ _ (by omega)
  apply Q_run
  · (simp only [go_sem, Try.ntmps40, bh0f, bh2f, bh4t, h4t, rI_get h4t, hb2]) <;> exact rfl
  apply Q_nil
  apply K_seq
  apply T_if
  · (simp only [go_sem, Try.ntmps40, bh0f, bh2f, bh4t, h4t, rI_get h4t, hb2]) <;> exact rfl
  · intro bh5t
    have h5t := bh5t
    try simp only [CS] at h5t
    try simp only [BS] at bh5t
    try exact absurd bh5t (by decide)
    all_goals (
  have f2 := M.first_some h4t (hs2.trans bh5t) hj2
  apply T_seq
  apply T_r F
  · (simp only [go_sem, Try.ntmps40, bh0f, bh2f, bh4t, h4t, rI_get h4t, hb2, bh5t]) <;> exact rfl
  apply K_seq
  apply T_ret
  apply K_blkR
  apply K_seqR
  apply K_lpR
  apply K_blkR
  apply K_seqR
  apply fin_ret
  · (simp only [go_sem, Try.ntmps40, bh0f, bh2f, bh4t, h4t, rI_get h4t, hb2, bh5t, Try.f40]) <;> exact rfl
  -- leaf 4 (ret)
  simp only [go_sem, Try.ntmps40, bh0f, bh2f, bh4t, h4t, rI_get h4t, hb2, bh5t, V.bool.injEq, V.int.injEq, true_and]
  simp [M.fault, f0, f1, f2])
  · intro bh5f
    have h5f := bh5f
    try simp only [CS] at h5f
    try simp only [BS] at bh5f
    try exact absurd bh5f (by decide)
    all_goals (
  apply T_skip
  apply K_blk
  apply K_seq
  apply T_r F
  · (simp only [go_sem, Try.ntmps40, bh0f, bh2f, bh4t, h4t, rI_get h4t, hb2, bh5f]) <;> exact rfl
  refine K_lp (k2 + 1) ?_ ?_
  · (simp only [go_sem, Try.ntmps40, bh0f, bh2f, bh4t, h4t, rI_get h4t, hb2, bh5f]) <;> exact rfl
  -- leaf 5 (loop2)
  grind))
    · intro bh4f
      have h4f := bh4f
      try simp only [CS] at h4f
      try simp only [BS] at bh4f
      try exact absurd bh4f (by decide)
      all_goals (
  have f2 : M.first p.length (M.unwished t p) = none := M.first_none fun j hj => hj2 j (by omega)
  apply T_exit
  apply K_seqE
  apply K_lpE
  apply K_blkE
  apply K_seq
  apply T_seq
  apply T_seq
  apply T_r F
  · (simp only [go_sem, Try.ntmps40, bh0f, bh2f, bh4f]) <;> exact rfl
  apply K_seq
  apply T_block
  apply T_lp (α := Nat) [false, true, true, false, true, false, false, false, true, false, false, false, false, false, false, false, false, false, false, false, false, false, false, false, false, false, false, false, false, false, false, false, false, false, false, false, false, false, false, false, false, false, false, false, false, false, false, false, false, false, false, false, false, false, false, false, false, false, false, false, false, false, false, false, false, false, false, false, false, false, false, false, false, false, false, false, false, false, false, false, false, false, false, false, false, false, false, false, false, false, false, false, false, false, false, false, false, false, false, false, false, false, false, false, false, false, false, false, false, false, false, false] (fun k3 => (⟨[.undef, .sl 1 (rI p), .ptr 0 0, .undef, .ptr 1 0, .undef, .undef, .undef, .int .i64 (k3 : Int), .undef, .undef, .undef, .undef, .undef, .undef, .undef, .undef, .undef, .undef, .undef, .undef, .undef, .undef, .undef, .undef, .undef, .undef, .undef, .undef, .undef, .undef, .undef, .undef, .undef, .undef, .undef, .undef, .undef, .undef, .undef, .undef, .undef, .undef, .undef, .undef, .undef, .undef, .undef, .undef, .undef, .undef, .undef, .undef, .undef, .undef, .undef, .undef, .undef, .undef, .undef, .undef, .undef, .undef, .undef, .undef, .undef, .undef, .undef, .undef, .undef, .undef, .undef, .undef, .undef, .undef, .undef, .undef, .undef, .undef, .undef, .undef, .undef, .undef, .undef, .undef, .undef, .undef, .undef, .undef, .undef, .undef, .undef, .undef, .undef, .undef, .undef, .undef, .undef, .undef, .undef, .undef, .undef, .undef, .undef, .undef, .undef, .undef, .undef, .undef, .undef, .undef, .undef], [.box 28 (cT t), .box 35 [.int .i64 0, .int .i64 0]]⟩ : St)) (fun k3 => k3 ≤ p.length ∧ ∀ j, j < k3 → M.untaught t p j = false) (fun k3 => p.length - k3) (0)
  · (simp only [go_sem, Try.ntmps40, bh0f, bh2f, bh4f]) <;> exact rfl
  · simp
  · rintro k3 ⟨hk3, hj3⟩
    apply T_seq
    apply T_seq
    apply T_r F
    · (simp only [go_sem, Try.ntmps40, bh0f, bh2f, bh4f]) <;> exact rfl
    apply K_seq
    apply T_if
    · (simp only [go_sem, Try.ntmps40, bh0f, bh2f, bh4f]) <;> exact rfl
    · intro bh6t
      have h6t := bh6t
      try simp only [CS] at h6t
      try simp only [BS] at bh6t
      try exact absurd bh6t (by decide)
      all_goals (
  have hb3 : k3 < 9223372036854775807 := by omega
  have ha3 := M.at_get h6t
  have hlk3 : M.lot t p[k3] = true := by have := hlot k3 h6t; rwa [M.at_get h6t] at this
  have hg3 := M.lot_iff.1 hlk3
  have hh3 : k3 < t.houses.length := by omega
  have hs3 : M.untaught t p k3 = (t.houses[k3].school && !M.taught t p[k3]) := by rw [M.untaught, ha3, M.hs_get hh3]
  apply T_skip
  apply K_seq
  apply T_seq
  apply T_block
  apply T_seq
  apply T_qL F [0, 1, 2, 3, 4, 5, 6, 7, 8, 9, 10, 11, 12, 13, 14] rfl (by kernel_rfl)
  apply Q_pre [0, 1, 2, 3] [4, 5, 6, 7, 8, 9, 10, 11, 12, 13, 14]
  · (simp only [go_sem, Try.ntmps40, bh0f, bh2f, bh4f, bh6t, h6t, rI_get h6t, hb3, rH_get hh3]) <;> exact rfl
  apply Q_pre [4, 5, 6] [7, 8, 9, 10, 11, 12, 13, 14]
  · (simp only [go_sem, Try.ntmps40, bh0f, bh2f, bh4f, bh6t, h6t, rI_get h6t, hb3, rH_get hh3]) <;> exact rfl
  apply Q_guard
  · (simp only [go_sem, Try.ntmps40, bh0f, bh2f, bh4f, bh6t, h6t, rI_get h6t, hb3, rH_get hh3]) <;> exact rfl
  · (simp only [go_sem, Try.ntmps40, bh0f, bh2f, bh4f, bh6t, h6t, rI_get h6t, hb3, rH_get hh3]) <;> exact rfl
  · intro bg0t
    have g0t := bg0t
    try simp only [CS] at g0t
    try simp only [BS] at bg0t
    try exact absurd bg0t (by decide)
    all_goals (
  apply Q_pre [7, 8, 9, 10, 11] [12, 13, 14]
  · (simp only [go_sem, Try.ntmps40, bh0f, bh2f, bh4f, bh6t, h6t, rI_get h6t, hb3, rH_get hh3, bg0t]) <;> exact rfl
  apply Q_call -- call 2 of function 68
  · (simp only [go_sem, Try.ntmps40, bh0f, bh2f, bh4f, bh6t, h6t, rI_get h6t, hb3, rH_get hh3, bg0t]) <;> exact rfl
  · (simp only [go_sem, Try.ntmps40, bh0f, bh2f, bh4f, bh6t, h6t, rI_get h6t, hb3, rH_get hh3, bg0t]) <;> exact rfl
  · exact rfl
  · (simp only [go_sem, Try.ntmps40, bh0f, bh2f, bh4f, bh6t, h6t, rI_get h6t, hb3, rH_get hh3, bg0t]) <;> exact rfl
  · (simp only [go_sem, Try.ntmps40, bh0f, bh2f, bh4f, bh6t, h6t, rI_get h6t, hb3, rH_get hh3, bg0t]) <;> exact rfl
  · exact ⟨_, Try.func68, rfl, rfl⟩
  · (simp only [go_sem, Try.ntmps40, bh0f, bh2f, bh4f, bh6t, h6t, rI_get h6t, hb3, rH_get hh3, bg0t]) <;> exact rfl
  · exact ref_taught _ _ ok (by assumption)
  apply Q_run
  · (simp only [go_sem, Try.ntmps40, bh0f, bh2f, bh4f, bh6t, h6t, rI_get h6t, hb3, rH_get hh3, bg0t]) <;> exact rfl
  apply Q_nil
  apply K_seq
  apply T_if
  · (simp only [go_sem, Try.ntmps40, bh0f, bh2f, bh4f, bh6t, h6t, rI_get h6t, hb3, rH_get hh3, bg0t]) <;> exact rfl
  · intro bh7t
    have h7t := bh7t
    try simp only [CS] at h7t
    try simp only [BS] at bh7t
    try exact absurd bh7t (by decide)
    all_goals (
  have f3 := M.first_some h6t (by rw [hs3]; simp [*]) hj3
  apply T_seq
  apply T_r F
  · (simp only [go_sem, Try.ntmps40, bh0f, bh2f, bh4f, bh6t, h6t, rI_get h6t, hb3, rH_get hh3, bg0t, bh7t]) <;> exact rfl
  apply K_seq
  apply T_ret
  apply K_blkR
  apply K_seqR
  apply K_lpR
  apply K_blkR
  apply K_seqR
  apply fin_ret
  · (simp only [go_sem, Try.ntmps40, bh0f, bh2f, bh4f, bh6t, h6t, rI_get h6t, hb3, rH_get hh3, bg0t, bh7t, Try.f40]) <;> exact rfl
  -- leaf 6 (ret)
  simp only [go_sem, Try.ntmps40, bh0f, bh2f, bh4f, bh6t, h6t, rI_get h6t, hb3, rH_get hh3, bg0t, bh7t, V.bool.injEq, V.int.injEq, true_and]
  simp [M.fault, f0, f1, f2, f3])
  · intro bh7f
    have h7f := bh7f
    try simp only [CS] at h7f
    try simp only [BS] at bh7f
    try exact absurd bh7f (by decide)
    all_goals (
  apply T_skip
  apply K_blk
  apply K_seq
  apply T_r F
  · (simp only [go_sem, Try.ntmps40, bh0f, bh2f, bh4f, bh6t, h6t, rI_get h6t, hb3, rH_get hh3, bg0t, bh7f]) <;> exact rfl
  refine K_lp (k3 + 1) ?_ ?_
  · (simp only [go_sem, Try.ntmps40, bh0f, bh2f, bh4f, bh6t, h6t, rI_get h6t, hb3, rH_get hh3, bg0t, bh7f]) <;> exact rfl
  -- leaf 7 (loop3)
  grind))
  · intro bg0f
    have g0f := bg0f
    try simp only [CS] at g0f
    try simp only [BS] at bg0f
    try exact absurd bg0f (by decide)
    all_goals (
  apply Q_pre [7, 8, 9, 10] [11, 12, 13, 14]
  · (simp only [go_sem, Try.ntmps40, bh0f, bh2f, bh4f, bh6t, h6t, rI_get h6t, hb3, rH_get hh3, bg0f]) <;> exact rfl
  apply Q_run
  · (simp only [go_sem, Try.ntmps40, bh0f, bh2f, bh4f, bh6t, h6t, rI_get h6t, hb3, rH_get hh3, bg0f]) <;> exact rfl
  apply Q_nil
  apply K_seq
  apply T_if
  · (simp only [go_sem, Try.ntmps40, bh0f, bh2f, bh4f, bh6t, h6t, rI_get h6t, hb3, rH_get hh3, bg0f]) <;> exact rfl
  · intro bh8t
    exact absurd bh8t (by simp)
  · intro bh8f
    have h8f := bh8f
    try simp only [CS] at h8f
    try simp only [BS] at bh8f
    try exact absurd bh8f (by decide)
    all_goals (
  apply T_skip
  apply K_blk
  apply K_seq
  apply T_r F
  · (simp only [go_sem, Try.ntmps40, bh0f, bh2f, bh4f, bh6t, h6t, rI_get h6t, hb3, rH_get hh3, bg0f, bh8f]) <;> exact rfl
  refine K_lp (k3 + 1) ?_ ?_
  · (simp only [go_sem, Try.ntmps40, bh0f, bh2f, bh4f, bh6t, h6t, rI_get h6t, hb3, rH_get hh3, bg0f, bh8f]) <;> exact rfl
  -- leaf 8 (loop3)
  grind)))
    · intro bh6f
      have h6f := bh6f
      try simp only [CS] at h6f
      try simp only [BS] at bh6f
      try exact absurd bh6f (by decide)
      all_goals (
  have f3 : M.first p.length (M.untaught t p) = none := M.first_none fun j hj => hj3 j (by omega)
  apply T_exit
  apply K_seqE
  apply K_lpE
  apply K_blkE
  apply K_seq
  apply T_seq
  apply T_seq
  apply T_r F
  · (simp only [go_sem, Try.ntmps40, bh0f, bh2f, bh4f, bh6f]) <;> exact rfl
  apply K_seq
  apply T_block
  apply T_lp (α := Nat) [false, true, true, false, true, false, false, false, false, true, false, false, false, false, false, false, false, false, false, false, false, false, false, false, false, false, false, false, false, false, false, false, false, false, false, false, false, false, false, false, false, false, false, false, false, false, false, false, false, false, false, false, false, false, false, false, false, false, false, false, false, false, false, false, false, false, false, false, false, false, false, false, false, false, false, false, false, false, false, false, false, false, false, false, false, false, false, false, false, false, false, false, false, false, false, false, false, false, false, false, false, false, false, false, false, false, false, false, false, false, false, false] (fun k4 => (⟨[.undef, .sl 1 (rI p), .ptr 0 0, .undef, .ptr 1 0, .undef, .undef, .undef, .undef, .int .i64 (k4 : Int), .undef, .undef, .undef, .undef, .undef, .undef, .undef, .undef, .undef, .undef, .undef, .undef, .undef, .undef, .undef, .undef, .undef, .undef, .undef, .undef, .undef, .undef, .undef, .undef, .undef, .undef, .undef, .undef, .undef, .undef, .undef, .undef, .undef, .undef, .undef, .undef, .undef, .undef, .undef, .undef, .undef, .undef, .undef, .undef, .undef, .undef, .undef, .undef, .undef, .undef, .undef, .undef, .undef, .undef, .undef, .undef, .undef, .undef, .undef, .undef, .undef, .undef, .undef, .undef, .undef, .undef, .undef, .undef, .undef, .undef, .undef, .undef, .undef, .undef, .undef, .undef, .undef, .undef, .undef, .undef, .undef, .undef, .undef, .undef, .undef, .undef, .undef, .undef, .undef, .undef, .undef, .undef, .undef, .undef, .undef, .undef, .undef, .undef, .undef, .undef, .undef, .undef], [.box 28 (cT t), .box 35 [.int .i64 0, .int .i64 0]]⟩ : St)) (fun k4 => k4 ≤ t.kin.length ∧ ∀ j, j < k4 → M.apart t p j = false) (fun k4 => t.kin.length - k4) (0)
  · (simp only [go_sem, Try.ntmps40, bh0f, bh2f, bh4f, bh6f]) <;> exact rfl
  · simp
  · rintro k4 ⟨hk4, hj4⟩
    apply T_seq
    apply T_seq
    apply T_r F
    · (simp only [go_sem, Try.ntmps40, bh0f, bh2f, bh4f, bh6f]) <;> exact rfl
    apply K_seq
    apply T_if
    · (simp only [go_sem, Try.ntmps40, bh0f, bh2f, bh4f, bh6f]) <;> exact rfl
    · intro bh9t
      have h9t := bh9t
      try simp only [CS] at h9t
      try simp only [BS] at bh9t
      try exact absurd bh9t (by decide)
      all_goals (
  have hb4 : k4 < 9223372036854775807 := by omega
  have hkn := M.kn_get h9t
  have hko := ok.kins k4 h9t
  unfold M.KinOk at hko
  rw [hkn] at hko
  have ho1 := M.house_iff.1 hko.1
  have ho2 := M.house_iff.1 hko.2.1
  have hz1 := ho1.1
  have hz2 := ho2.1
  have hq1 : (t.kin[k4].1).toNat < p.length := by omega
  have hq2 : (t.kin[k4].2).toNat < p.length := by omega
  have hl1 : M.lot t p[(t.kin[k4].1).toNat] = true := by have := hlot _ hq1; rwa [M.at_get hq1] at this
  have hl2 : M.lot t p[(t.kin[k4].2).toNat] = true := by have := hlot _ hq2; rwa [M.at_get hq2] at this
  have hx1 := M.lot_iff.1 hl1
  have hx2 := M.lot_iff.1 hl2
  have n1 := hx1.1
  have n2 : (p[(t.kin[k4].1).toNat]).toNat < t.walk.length := by omega
  have n3 := hx2.1
  have n4 : (p[(t.kin[k4].2).toNat]).toNat < (t.walk[(p[(t.kin[k4].1).toNat]).toNat]).length := by rw [ok.square n2]; omega
  have hs4 : M.apart t p k4 = !M.near t p[(t.kin[k4].1).toNat] p[(t.kin[k4].2).toNat] := by rw [M.apart, hkn, M.at_get hq1, M.at_get hq2]
  apply T_skip
  apply K_seq
  apply T_seq
  apply T_block
  apply T_seq
  apply T_qL F [0, 1, 2, 3, 4, 5, 6, 7, 8, 9, 10, 11, 12, 13, 14, 15, 16, 17, 18, 19, 20] rfl (by kernel_rfl)
  apply Q_pre [0, 1, 2, 3] [4, 5, 6, 7, 8, 9, 10, 11, 12, 13, 14, 15, 16, 17, 18, 19, 20]
  · (simp only [go_sem, Try.ntmps40, bh0f, bh2f, bh4f, bh6f, bh9t, h9t, rP_get h9t, hb4, hz1, hz2, rI_get hq1, rI_get hq2]) <;> exact rfl
  apply Q_pre [4, 5, 6, 7] [8, 9, 10, 11, 12, 13, 14, 15, 16, 17, 18, 19, 20]
  · (simp only [go_sem, Try.ntmps40, bh0f, bh2f, bh4f, bh6f, bh9t, h9t, rP_get h9t, hb4, hz1, hz2, rI_get hq1, rI_get hq2]) <;> exact rfl
  apply Q_pre [8, 9, 10, 11] [12, 13, 14, 15, 16, 17, 18, 19, 20]
  · (simp only [go_sem, Try.ntmps40, bh0f, bh2f, bh4f, bh6f, bh9t, h9t, rP_get h9t, hb4, hz1, hz2, rI_get hq1, rI_get hq2]) <;> exact rfl
  apply Q_pre [12, 13, 14, 15] [16, 17, 18, 19, 20]
  · (simp only [go_sem, Try.ntmps40, bh0f, bh2f, bh4f, bh6f, bh9t, h9t, rP_get h9t, hb4, hz1, hz2, rI_get hq1, rI_get hq2]) <;> exact rfl
  apply Q_pre [16, 17, 18] [19, 20]
  · (simp only [go_sem, Try.ntmps40, bh0f, bh2f, bh4f, bh6f, bh9t, h9t, rP_get h9t, hb4, hz1, hz2, rI_get hq1, rI_get hq2]) <;> exact rfl
  apply Q_call -- call 3 of function 69
  · (simp only [go_sem, Try.ntmps40, bh0f, bh2f, bh4f, bh6f, bh9t, h9t, rP_get h9t, hb4, hz1, hz2, rI_get hq1, rI_get hq2]) <;> exact rfl
  · (simp only [go_sem, Try.ntmps40, bh0f, bh2f, bh4f, bh6f, bh9t, h9t, rP_get h9t, hb4, hz1, hz2, rI_get hq1, rI_get hq2]) <;> exact rfl
  · exact rfl
  · (simp only [go_sem, Try.ntmps40, bh0f, bh2f, bh4f, bh6f, bh9t, h9t, rP_get h9t, hb4, hz1, hz2, rI_get hq1, rI_get hq2]) <;> exact rfl
  · (simp only [go_sem, Try.ntmps40, bh0f, bh2f, bh4f, bh6f, bh9t, h9t, rP_get h9t, hb4, hz1, hz2, rI_get hq1, rI_get hq2]) <;> exact rfl
  · exact ⟨_, Try.func69, rfl, rfl⟩
  · (simp only [go_sem, Try.ntmps40, bh0f, bh2f, bh4f, bh6f, bh9t, h9t, rP_get h9t, hb4, hz1, hz2, rI_get hq1, rI_get hq2]) <;> exact rfl
  · exact ref_near _ _ _ (by assumption) (by assumption) (by assumption) (by assumption)
  apply Q_run
  · (simp only [go_sem, Try.ntmps40, bh0f, bh2f, bh4f, bh6f, bh9t, h9t, rP_get h9t, hb4, hz1, hz2, rI_get hq1, rI_get hq2]) <;> exact rfl
  apply Q_nil
  apply K_seq
  apply T_if
  · (simp only [go_sem, Try.ntmps40, bh0f, bh2f, bh4f, bh6f, bh9t, h9t, rP_get h9t, hb4, hz1, hz2, rI_get hq1, rI_get hq2]) <;> exact rfl
  · intro bh10t
    have h10t := bh10t
    try simp only [CS] at h10t
    try simp only [BS] at bh10t
    try exact absurd bh10t (by decide)
    all_goals (
  have f4 := M.first_some h9t (by rw [hs4]; simp [*]) hj4
  apply T_seq
  apply T_r F
  · (simp only [go_sem, Try.ntmps40, bh0f, bh2f, bh4f, bh6f, bh9t, h9t, rP_get h9t, hb4, hz1, hz2, rI_get hq1, rI_get hq2, bh10t]) <;> exact rfl
  apply K_seq
  apply T_ret
  apply K_blkR
  apply K_seqR
  apply K_lpR
  apply K_blkR
  apply K_seqR
  apply fin_ret
  · (simp only [go_sem, Try.ntmps40, bh0f, bh2f, bh4f, bh6f, bh9t, h9t, rP_get h9t, hb4, hz1, hz2, rI_get hq1, rI_get hq2, bh10t, Try.f40]) <;> exact rfl
  -- leaf 9 (ret)
  simp only [go_sem, Try.ntmps40, bh0f, bh2f, bh4f, bh6f, bh9t, h9t, rP_get h9t, hb4, hz1, hz2, rI_get hq1, rI_get hq2, bh10t, V.bool.injEq, V.int.injEq, true_and]
  simp [M.fault, f0, f1, f2, f3, f4])
  · intro bh10f
    have h10f := bh10f
    try simp only [CS] at h10f
    try simp only [BS] at bh10f
    try exact absurd bh10f (by decide)
    all_goals (
  apply T_skip
  apply K_blk
  apply K_seq
  apply T_r F
  · (simp only [go_sem, Try.ntmps40, bh0f, bh2f, bh4f, bh6f, bh9t, h9t, rP_get h9t, hb4, hz1, hz2, rI_get hq1, rI_get hq2, bh10f]) <;> exact rfl
  refine K_lp (k4 + 1) ?_ ?_
  · (simp only [go_sem, Try.ntmps40, bh0f, bh2f, bh4f, bh6f, bh9t, h9t, rP_get h9t, hb4, hz1, hz2, rI_get hq1, rI_get hq2, bh10f]) <;> exact rfl
  -- leaf 10 (loop4)
  grind))
    · intro bh9f
      have h9f := bh9f
      try simp only [CS] at h9f
      try simp only [BS] at bh9f
      try exact absurd bh9f (by decide)
      all_goals (
  have f4 : M.first t.kin.length (M.apart t p) = none := M.first_none fun j hj => hj4 j (by omega)
  apply T_exit
  apply K_seqE
  apply K_lpE
  apply K_blkE
  apply K_seq
  apply T_seq
  apply T_r F
  · (simp only [go_sem, Try.ntmps40, bh0f, bh2f, bh4f, bh6f, bh9f]) <;> exact rfl
  apply K_seq
  apply T_ret
  apply fin_ret
  · (simp only [go_sem, Try.ntmps40, bh0f, bh2f, bh4f, bh6f, bh9f, Try.f40]) <;> exact rfl
  -- leaf 11 (ret)
  simp only [go_sem, Try.ntmps40, bh0f, bh2f, bh4f, bh6f, bh9f, V.bool.injEq, V.int.injEq, true_and]
  simp [M.fault, f0, f1, f2, f3, f4])))))

end Go.Ab
namespace Go.Ab
open Go Go.RowKit Go.Proofs Fac
set_option linter.unusedVariables false
set_option linter.unusedSimpArgs false
set_option maxRecDepth 4000
set_option maxHeartbeats 1000000

theorem ref_town (t : Town) : Ret Try.prog 13 [.agg (cT t)] (.bool (decide (M.Ok t))) := by
  refine Ret.of_fits fun hfits => ?_
  simp only [V.fits, V.fitsL, V.fitsR, cT_fits] at hfits
  have hl := hfits.1.schools
  have hl2 := hfits.1.kin
  have hok := M.ok_iff t
  apply Ret_fin (fn := Try.f13) Try.func13 rfl
  apply T_seq
  apply T_r F
  · (simp only [go_sem, Try.ntmps13]) <;> exact rfl
  apply K_seq
  apply T_seq
  apply T_seq
  apply T_wL F [0, 1, 2, 3, 4, 5, 6, 7, 8, 9, 10, 11, 12, 13, 14, 15, 16, 17, 18, 19, 20, 21, 22, 23, 24, 25, 26, 27, 28] rfl
  apply W_pre [0] [1, 2, 3, 4, 5, 6, 7, 8, 9, 10, 11, 12, 13, 14, 15, 16, 17, 18, 19, 20, 21, 22, 23, 24, 25, 26, 27, 28]
  · (simp only [go_sem, Try.ntmps13]) <;> exact rfl
  apply W_call -- call 0 of function 41
  · (simp only [go_sem, Try.ntmps13]) <;> exact rfl
  · (simp only [go_sem, Try.ntmps13]) <;> exact rfl
  · exact rfl
  · (simp only [go_sem, Try.ntmps13]) <;> exact rfl
  · (simp only [go_sem, Try.ntmps13]) <;> exact rfl
  · exact ⟨_, Try.func41, rfl, rfl⟩
  · (simp only [go_sem, Try.ntmps13]) <;> exact rfl
  · (simp only [go_sem, Try.ntmps13]) <;> exact rfl
  · exact ref_walks _
  apply W_pre [2, 3] [4, 5, 6, 7, 8, 9, 10, 11, 12, 13, 14, 15, 16, 17, 18, 19, 20, 21, 22, 23, 24, 25, 26, 27, 28]
  · (simp only [go_sem, Try.ntmps13]) <;> exact rfl
  apply W_guard
  · (simp only [go_sem, Try.ntmps13]) <;> exact rfl
  · (simp only [go_sem, Try.ntmps13]) <;> exact rfl
  · intro bg0t
    have g0t := bg0t
    try simp only [CS] at g0t
    try simp only [BS] at bg0t
    try exact absurd bg0t (by decide)
    all_goals (
  apply W_pre [4] [5, 6, 7, 8, 9, 10, 11, 12, 13, 14, 15, 16, 17, 18, 19, 20, 21, 22, 23, 24, 25, 26, 27, 28]
  · (simp only [go_sem, Try.ntmps13, bg0t]) <;> exact rfl
  apply W_call -- call 1 of function 42
  · (simp only [go_sem, Try.ntmps13, bg0t]) <;> exact rfl
  · (simp only [go_sem, Try.ntmps13, bg0t]) <;> exact rfl
  · exact rfl
  · (simp only [go_sem, Try.ntmps13, bg0t]) <;> exact rfl
  · (simp only [go_sem, Try.ntmps13, bg0t]) <;> exact rfl
  · exact ⟨_, Try.func42, rfl, rfl⟩
  · (simp only [go_sem, Try.ntmps13, bg0t]) <;> exact rfl
  · (simp only [go_sem, Try.ntmps13, bg0t]) <;> exact rfl
  · exact ref_houses _
  apply W_pre [6, 7, 8] [9, 10, 11, 12, 13, 14, 15, 16, 17, 18, 19, 20, 21, 22, 23, 24, 25, 26, 27, 28]
  · (simp only [go_sem, Try.ntmps13, bg0t]) <;> exact rfl
  apply W_guard
  · (simp only [go_sem, Try.ntmps13, bg0t]) <;> exact rfl
  · (simp only [go_sem, Try.ntmps13, bg0t]) <;> exact rfl
  · intro bg1t
    have g1t := bg1t
    try simp only [CS] at g1t
    try simp only [BS] at bg1t
    try exact absurd bg1t (by decide)
    all_goals (
  apply W_pre [9, 10] [11, 12, 13, 14, 15, 16, 17, 18, 19, 20, 21, 22, 23, 24, 25, 26, 27, 28]
  · (simp only [go_sem, Try.ntmps13, bg0t, bg1t]) <;> exact rfl
  apply W_call -- call 2 of function 43
  · (simp only [go_sem, Try.ntmps13, bg0t, bg1t]) <;> exact rfl
  · (simp only [go_sem, Try.ntmps13, bg0t, bg1t]) <;> exact rfl
  · exact rfl
  · (simp only [go_sem, Try.ntmps13, bg0t, bg1t]) <;> exact rfl
  · (simp only [go_sem, Try.ntmps13, bg0t, bg1t]) <;> exact rfl
  · exact ⟨_, Try.func43, rfl, rfl⟩
  · (simp only [go_sem, Try.ntmps13, bg0t, bg1t]) <;> exact rfl
  · (simp only [go_sem, Try.ntmps13, bg0t, bg1t]) <;> exact rfl
  · exact ref_in _ _ _
  apply W_pre [12, 13, 14] [15, 16, 17, 18, 19, 20, 21, 22, 23, 24, 25, 26, 27, 28]
  · (simp only [go_sem, Try.ntmps13, bg0t, bg1t]) <;> exact rfl
  apply W_guard
  · (simp only [go_sem, Try.ntmps13, bg0t, bg1t]) <;> exact rfl
  · (simp only [go_sem, Try.ntmps13, bg0t, bg1t]) <;> exact rfl
  · intro bg2t
    have g2t := bg2t
    try simp only [CS] at g2t
    try simp only [BS] at bg2t
    try exact absurd bg2t (by decide)
    all_goals (
  apply W_pre [15, 16, 17, 18] [19, 20, 21, 22, 23, 24, 25, 26, 27, 28]
  · (simp only [go_sem, Try.ntmps13, bg0t, bg1t, bg2t]) <;> exact rfl
  apply W_pre [19, 20, 21, 22, 23] [24, 25, 26, 27, 28]
  · (simp only [go_sem, Try.ntmps13, bg0t, bg1t, bg2t]) <;> exact rfl
  apply W_guard
  · (simp only [go_sem, Try.ntmps13, bg0t, bg1t, bg2t]) <;> exact rfl
  · (simp only [go_sem, Try.ntmps13, bg0t, bg1t, bg2t]) <;> exact rfl
  · intro bg3t
    have g3t := bg3t
    try simp only [CS] at g3t
    try simp only [BS] at bg3t
    try exact absurd bg3t (by decide)
    all_goals (
  apply W_run
  · (simp only [go_sem, Try.ntmps13, bg0t, bg1t, bg2t, bg3t]) <;> exact rfl
  apply W_nil
  apply K_seq
  apply T_if
  · (simp only [go_sem, Try.ntmps13, bg0t, bg1t, bg2t, bg3t]) <;> exact rfl
  · intro bh0t
    have h0t := bh0t
    try simp only [CS] at h0t
    try simp only [BS] at bh0t
    try exact absurd bh0t (by decide)
    all_goals (
  apply T_seq
  apply T_r F
  · (simp only [go_sem, Try.ntmps13, bg0t, bg1t, bg2t, bg3t, bh0t]) <;> exact rfl
  apply K_seq
  apply T_ret
  apply K_seqR
  apply fin_ret
  · (simp only [go_sem, Try.ntmps13, bg0t, bg1t, bg2t, bg3t, bh0t, Try.f13]) <;> exact rfl
  -- leaf 0 (ret)
  simp only [go_sem, Try.ntmps13, bg0t, bg1t, bg2t, bg3t, bh0t, V.bool.injEq, V.int.injEq, true_and]
  grind [M.SchoolOk, M.KinOk])
  · intro bh0f
    have h0f := bh0f
    try simp only [CS] at h0f
    try simp only [BS] at bh0f
    try exact absurd bh0f (by decide)
    all_goals (
  apply T_skip
  apply K_seq
  apply T_seq
  apply T_seq
  apply T_r F
  · (simp only [go_sem, Try.ntmps13, bg0t, bg1t, bg2t, bg3t, bh0f]) <;> exact rfl
  apply K_seq
  apply T_block
  apply T_lp (α := Nat) [false, true, false, true, false, false, false, false, false, false, false, false, false, false, false, false, false, false, false, false, false, false, false, false, false, false, false, false, false, false, false, false, false, false, false, false, false, false, false, false, false, false, false, false, false, false, false, false, false, false, false, false, false, false, false, false, false, false, false, false, false, false, false, false, false, false, false, false, false, false, false, false, false, false, false, false, false, false, false, false, false, false, false, false, false, false, false, false, false, false, false, false, false, false, false, false, false, false, false] (fun i => (⟨[.undef, .ptr 0 0, .undef, .int .i64 (i : Int), .undef, .undef, .undef, .undef, .undef, .undef, .undef, .undef, .undef, .undef, .undef, .undef, .undef, .undef, .undef, .undef, .undef, .undef, .undef, .undef, .undef, .undef, .undef, .undef, .undef, .undef, .undef, .undef, .undef, .undef, .undef, .undef, .undef, .undef, .undef, .undef, .undef, .undef, .undef, .undef, .undef, .undef, .undef, .undef, .undef, .undef, .undef, .undef, .undef, .undef, .undef, .undef, .undef, .undef, .undef, .undef, .undef, .undef, .undef, .undef, .undef, .undef, .undef, .undef, .undef, .undef, .undef, .undef, .undef, .undef, .undef, .undef, .undef, .undef, .undef, .undef, .undef, .undef, .undef, .undef, .undef, .undef, .undef, .undef, .undef, .undef, .undef, .undef, .undef, .undef, .undef, .undef, .undef, .undef, .undef], [.box 28 (cT t)]⟩ : St)) (fun i => i ≤ t.schools.length ∧ ∀ a, a < i → M.SchoolOk t a) (fun i => t.schools.length - i) (0)
  · (simp only [go_sem, Try.ntmps13, bg0t, bg1t, bg2t, bg3t, bh0f]) <;> exact rfl
  · simp
  · rintro i ⟨hi, hia⟩
    apply T_seq
    apply T_seq
    apply T_r F
    · (simp only [go_sem, Try.ntmps13, bg0t, bg1t, bg2t, bg3t, bh0f]) <;> exact rfl
    apply K_seq
    apply T_if
    · (simp only [go_sem, Try.ntmps13, bg0t, bg1t, bg2t, bg3t, bh0f]) <;> exact rfl
    · intro bh1t
      have h1t := bh1t
      try simp only [CS] at h1t
      try simp only [BS] at bh1t
      try exact absurd bh1t (by decide)
      all_goals (
  have hb : i < 9223372036854775807 := by omega
  have hat := M.at_get h1t
  apply T_skip
  apply K_seq
  apply T_seq
  apply T_block
  apply T_seq
  apply T_qL F [0, 1, 2, 3, 4, 5, 6, 7, 8, 9, 10, 11, 12, 13, 14, 15, 16, 17, 18, 19, 20, 21, 22, 23, 24, 25] rfl (by kernel_rfl)
  apply Q_pre [0, 1, 2, 3, 4, 5] [6, 7, 8, 9, 10, 11, 12, 13, 14, 15, 16, 17, 18, 19, 20, 21, 22, 23, 24, 25]
  · (simp only [go_sem, Try.ntmps13, bg0t, bg1t, bg2t, bg3t, bh0f, bh1t, h1t, rI_get h1t, hb]) <;> exact rfl
  apply Q_call -- call 3 of function 33
  · (simp only [go_sem, Try.ntmps13, bg0t, bg1t, bg2t, bg3t, bh0f, bh1t, h1t, rI_get h1t, hb]) <;> exact rfl
  · (simp only [go_sem, Try.ntmps13, bg0t, bg1t, bg2t, bg3t, bh0f, bh1t, h1t, rI_get h1t, hb]) <;> exact rfl
  · exact rfl
  · (simp only [go_sem, Try.ntmps13, bg0t, bg1t, bg2t, bg3t, bh0f, bh1t, h1t, rI_get h1t, hb]) <;> exact rfl
  · (simp only [go_sem, Try.ntmps13, bg0t, bg1t, bg2t, bg3t, bh0f, bh1t, h1t, rI_get h1t, hb]) <;> exact rfl
  · exact ⟨_, Try.func33, rfl, rfl⟩
  · (simp only [go_sem, Try.ntmps13, bg0t, bg1t, bg2t, bg3t, bh0f, bh1t, h1t, rI_get h1t, hb]) <;> exact rfl
  · exact ref_lot _ _
  apply Q_pre [7, 8] [9, 10, 11, 12, 13, 14, 15, 16, 17, 18, 19, 20, 21, 22, 23, 24, 25]
  · (simp only [go_sem, Try.ntmps13, bg0t, bg1t, bg2t, bg3t, bh0f, bh1t, h1t, rI_get h1t, hb]) <;> exact rfl
  apply Q_guard
  · (simp only [go_sem, Try.ntmps13, bg0t, bg1t, bg2t, bg3t, bh0f, bh1t, h1t, rI_get h1t, hb]) <;> exact rfl
  · (simp only [go_sem, Try.ntmps13, bg0t, bg1t, bg2t, bg3t, bh0f, bh1t, h1t, rI_get h1t, hb]) <;> exact rfl
  · intro bg4t
    have g4t := bg4t
    try simp only [CS] at g4t
    try simp only [BS] at bg4t
    try exact absurd bg4t (by decide)
    all_goals (
  apply Q_pre [9, 10, 11] [12, 13, 14, 15, 16, 17, 18, 19, 20, 21, 22, 23, 24, 25]
  · (simp only [go_sem, Try.ntmps13, bg0t, bg1t, bg2t, bg3t, bh0f, bh1t, h1t, rI_get h1t, hb, bg4t]) <;> exact rfl
  apply Q_guard
  · (simp only [go_sem, Try.ntmps13, bg0t, bg1t, bg2t, bg3t, bh0f, bh1t, h1t, rI_get h1t, hb, bg4t]) <;> exact rfl
  · (simp only [go_sem, Try.ntmps13, bg0t, bg1t, bg2t, bg3t, bh0f, bh1t, h1t, rI_get h1t, hb, bg4t]) <;> exact rfl
  · intro bg5t
    have g5t := bg5t
    try simp only [CS] at g5t
    try simp only [BS] at bg5t
    try exact absurd bg5t (by decide)
    all_goals (
  have hpos : 0 < i := by omega
  have hi1 : i - 1 < t.schools.length := by omega
  have hw : IntKind.i64.wrap ((i : Int) - 1) = ((i - 1 : Nat) : Int) := by rw [wrap_id (by omega) (by omega)]; omega
  have hat1 := M.at_get hi1
  apply Q_pre [12, 13, 14, 15] [16, 17, 18, 19, 20, 21, 22, 23, 24, 25]
  · (simp only [go_sem, Try.ntmps13, bg0t, bg1t, bg2t, bg3t, bh0f, bh1t, h1t, rI_get h1t, hb, bg4t, bg5t, hw, hi1, rI_get hi1]) <;> exact rfl
  apply Q_pre [16, 17, 18, 19] [20, 21, 22, 23, 24, 25]
  · (simp only [go_sem, Try.ntmps13, bg0t, bg1t, bg2t, bg3t, bh0f, bh1t, h1t, rI_get h1t, hb, bg4t, bg5t, hw, hi1, rI_get hi1]) <;> exact rfl
  apply Q_run
  · (simp only [go_sem, Try.ntmps13, bg0t, bg1t, bg2t, bg3t, bh0f, bh1t, h1t, rI_get h1t, hb, bg4t, bg5t, hw, hi1, rI_get hi1]) <;> exact rfl
  apply Q_nil
  apply K_seq
  apply T_if
  · (simp only [go_sem, Try.ntmps13, bg0t, bg1t, bg2t, bg3t, bh0f, bh1t, h1t, rI_get h1t, hb, bg4t, bg5t, hw, hi1, rI_get hi1]) <;> exact rfl
  · intro bh2t
    have h2t := bh2t
    try simp only [CS] at h2t
    try simp only [BS] at bh2t
    try exact absurd bh2t (by decide)
    all_goals (
  apply T_seq
  apply T_r F
  · (simp only [go_sem, Try.ntmps13, bg0t, bg1t, bg2t, bg3t, bh0f, bh1t, h1t, rI_get h1t, hb, bg4t, bg5t, hw, hi1, rI_get hi1, bh2t]) <;> exact rfl
  apply K_seq
  apply T_ret
  apply K_blkR
  apply K_seqR
  apply K_lpR
  apply K_blkR
  apply K_seqR
  apply fin_ret
  · (simp only [go_sem, Try.ntmps13, bg0t, bg1t, bg2t, bg3t, bh0f, bh1t, h1t, rI_get h1t, hb, bg4t, bg5t, hw, hi1, rI_get hi1, bh2t, Try.f13]) <;> exact rfl
  -- leaf 1 (ret)
  simp only [go_sem, Try.ntmps13, bg0t, bg1t, bg2t, bg3t, bh0f, bh1t, h1t, rI_get h1t, hb, bg4t, bg5t, hw, hi1, rI_get hi1, bh2t, V.bool.injEq, V.int.injEq, true_and]
  grind [M.SchoolOk, M.KinOk])
  · intro bh2f
    have h2f := bh2f
    try simp only [CS] at h2f
    try simp only [BS] at bh2f
    try exact absurd bh2f (by decide)
    all_goals (
  apply T_skip
  apply K_blk
  apply K_seq
  apply T_r F
  · (simp only [go_sem, Try.ntmps13, bg0t, bg1t, bg2t, bg3t, bh0f, bh1t, h1t, rI_get h1t, hb, bg4t, bg5t, hw, hi1, rI_get hi1, bh2f]) <;> exact rfl
  refine K_lp (i + 1) ?_ ?_
  · (simp only [go_sem, Try.ntmps13, bg0t, bg1t, bg2t, bg3t, bh0f, bh1t, h1t, rI_get h1t, hb, bg4t, bg5t, hw, hi1, rI_get hi1, bh2f]) <;> exact rfl
  -- leaf 2 (loop0)
  grind [M.SchoolOk]))
  · intro bg5f
    have g5f := bg5f
    try simp only [CS] at g5f
    try simp only [BS] at bg5f
    try exact absurd bg5f (by decide)
    all_goals (
  apply Q_pre [12, 13, 14, 15] [16, 17, 18, 19, 20, 21, 22, 23, 24, 25]
  · (simp only [go_sem, Try.ntmps13, bg0t, bg1t, bg2t, bg3t, bh0f, bh1t, h1t, rI_get h1t, hb, bg4t, bg5f]) <;> exact rfl
  apply Q_pre [16, 17, 18, 19] [20, 21, 22, 23, 24, 25]
  · (simp only [go_sem, Try.ntmps13, bg0t, bg1t, bg2t, bg3t, bh0f, bh1t, h1t, rI_get h1t, hb, bg4t, bg5f]) <;> exact rfl
  apply Q_run
  · (simp only [go_sem, Try.ntmps13, bg0t, bg1t, bg2t, bg3t, bh0f, bh1t, h1t, rI_get h1t, hb, bg4t, bg5f]) <;> exact rfl
  apply Q_nil
  apply K_seq
  apply T_if
  · (simp only [go_sem, Try.ntmps13, bg0t, bg1t, bg2t, bg3t, bh0f, bh1t, h1t, rI_get h1t, hb, bg4t, bg5f]) <;> exact rfl
  · intro bh3t
    exact absurd bh3t (by simp)
  · intro bh3f
    have h3f := bh3f
    try simp only [CS] at h3f
    try simp only [BS] at bh3f
    try exact absurd bh3f (by decide)
    all_goals (
  apply T_skip
  apply K_blk
  apply K_seq
  apply T_r F
  · (simp only [go_sem, Try.ntmps13, bg0t, bg1t, bg2t, bg3t, bh0f, bh1t, h1t, rI_get h1t, hb, bg4t, bg5f, bh3f]) <;> exact rfl
  refine K_lp (i + 1) ?_ ?_
  · (simp only [go_sem, Try.ntmps13, bg0t, bg1t, bg2t, bg3t, bh0f, bh1t, h1t, rI_get h1t, hb, bg4t, bg5f, bh3f]) <;> exact rfl
  -- leaf 3 (loop0)
  grind [M.SchoolOk])))
  · intro bg4f
    have g4f := bg4f
    try simp only [CS] at g4f
    try simp only [BS] at bg4f
    try exact absurd bg4f (by decide)
    all_goals (
  apply Q_pre [9, 10, 11, 12] [13, 14, 15, 16, 17, 18, 19, 20, 21, 22, 23, 24, 25]
  · (simp only [go_sem, Try.ntmps13, bg0t, bg1t, bg2t, bg3t, bh0f, bh1t, h1t, rI_get h1t, hb, bg4f]) <;> exact rfl
  apply Q_pre [13, 14, 15, 16] [17, 18, 19, 20, 21, 22, 23, 24, 25]
  · (simp only [go_sem, Try.ntmps13, bg0t, bg1t, bg2t, bg3t, bh0f, bh1t, h1t, rI_get h1t, hb, bg4f]) <;> exact rfl
  apply Q_pre [17, 18, 19, 20] [21, 22, 23, 24, 25]
  · (simp only [go_sem, Try.ntmps13, bg0t, bg1t, bg2t, bg3t, bh0f, bh1t, h1t, rI_get h1t, hb, bg4f]) <;> exact rfl
  apply Q_run
  · (simp only [go_sem, Try.ntmps13, bg0t, bg1t, bg2t, bg3t, bh0f, bh1t, h1t, rI_get h1t, hb, bg4f]) <;> exact rfl
  apply Q_nil
  apply K_seq
  apply T_if
  · (simp only [go_sem, Try.ntmps13, bg0t, bg1t, bg2t, bg3t, bh0f, bh1t, h1t, rI_get h1t, hb, bg4f]) <;> exact rfl
  · intro bh4t
    have h4t := bh4t
    try simp only [CS] at h4t
    try simp only [BS] at bh4t
    try exact absurd bh4t (by decide)
    all_goals (
  apply T_seq
  apply T_r F
  · (simp only [go_sem, Try.ntmps13, bg0t, bg1t, bg2t, bg3t, bh0f, bh1t, h1t, rI_get h1t, hb, bg4f, bh4t]) <;> exact rfl
  apply K_seq
  apply T_ret
  apply K_blkR
  apply K_seqR
  apply K_lpR
  apply K_blkR
  apply K_seqR
  apply fin_ret
  · (simp only [go_sem, Try.ntmps13, bg0t, bg1t, bg2t, bg3t, bh0f, bh1t, h1t, rI_get h1t, hb, bg4f, bh4t, Try.f13]) <;> exact rfl
  -- leaf 4 (ret)
  simp only [go_sem, Try.ntmps13, bg0t, bg1t, bg2t, bg3t, bh0f, bh1t, h1t, rI_get h1t, hb, bg4f, bh4t, V.bool.injEq, V.int.injEq, true_and]
  grind [M.SchoolOk, M.KinOk])
  · intro bh4f
    exact absurd bh4f (by simp)))
    · intro bh1f
      have h1f := bh1f
      try simp only [CS] at h1f
      try simp only [BS] at bh1f
      try exact absurd bh1f (by decide)
      all_goals (
  apply T_exit
  apply K_seqE
  apply K_lpE
  apply K_blkE
  apply K_seq
  apply T_seq
  apply T_seq
  apply T_r F
  · (simp only [go_sem, Try.ntmps13, bg0t, bg1t, bg2t, bg3t, bh0f, bh1f]) <;> exact rfl
  apply K_seq
  apply T_block
  apply T_lp (α := Nat) [false, true, false, false, true, false, false, false, false, false, false, false, false, false, false, false, false, false, false, false, false, false, false, false, false, false, false, false, false, false, false, false, false, false, false, false, false, false, false, false, false, false, false, false, false, false, false, false, false, false, false, false, false, false, false, false, false, false, false, false, false, false, false, false, false, false, false, false, false, false, false, false, false, false, false, false, false, false, false, false, false, false, false, false, false, false, false, false, false, false, false, false, false, false, false, false, false, false, false] (fun k => (⟨[.undef, .ptr 0 0, .undef, .undef, .int .i64 (k : Int), .undef, .undef, .undef, .undef, .undef, .undef, .undef, .undef, .undef, .undef, .undef, .undef, .undef, .undef, .undef, .undef, .undef, .undef, .undef, .undef, .undef, .undef, .undef, .undef, .undef, .undef, .undef, .undef, .undef, .undef, .undef, .undef, .undef, .undef, .undef, .undef, .undef, .undef, .undef, .undef, .undef, .undef, .undef, .undef, .undef, .undef, .undef, .undef, .undef, .undef, .undef, .undef, .undef, .undef, .undef, .undef, .undef, .undef, .undef, .undef, .undef, .undef, .undef, .undef, .undef, .undef, .undef, .undef, .undef, .undef, .undef, .undef, .undef, .undef, .undef, .undef, .undef, .undef, .undef, .undef, .undef, .undef, .undef, .undef, .undef, .undef, .undef, .undef, .undef, .undef, .undef, .undef, .undef, .undef], [.box 28 (cT t)]⟩ : St)) (fun k => k ≤ t.kin.length ∧ ∀ b, b < k → M.KinOk t b) (fun k => t.kin.length - k) (0)
  · (simp only [go_sem, Try.ntmps13, bg0t, bg1t, bg2t, bg3t, bh0f, bh1f]) <;> exact rfl
  · simp
  · rintro k ⟨hk, hkb⟩
    apply T_seq
    apply T_seq
    apply T_r F
    · (simp only [go_sem, Try.ntmps13, bg0t, bg1t, bg2t, bg3t, bh0f, bh1f]) <;> exact rfl
    apply K_seq
    apply T_if
    · (simp only [go_sem, Try.ntmps13, bg0t, bg1t, bg2t, bg3t, bh0f, bh1f]) <;> exact rfl
    · intro bh5t
      have h5t := bh5t
      try simp only [CS] at h5t
      try simp only [BS] at bh5t
      try exact absurd bh5t (by decide)
      all_goals (
  have hb : k < 9223372036854775807 := by omega
  have hkn := M.kn_get h5t
  apply T_skip
  apply K_seq
  apply T_seq
  apply T_block
  apply T_seq
  apply T_r F
  · (simp only [go_sem, Try.ntmps13, bg0t, bg1t, bg2t, bg3t, bh0f, bh1f, bh5t, h5t, rP_get h5t, hb]) <;> exact rfl
  apply K_seq
  apply T_seq
  apply T_wL F [0, 1, 2, 3, 4, 5, 6, 7, 8, 9, 10, 11, 12, 13, 14, 15, 16, 17, 18] rfl
  apply W_pre [0, 1, 2] [3, 4, 5, 6, 7, 8, 9, 10, 11, 12, 13, 14, 15, 16, 17, 18]
  · (simp only [go_sem, Try.ntmps13, bg0t, bg1t, bg2t, bg3t, bh0f, bh1f, bh5t, h5t, rP_get h5t, hb]) <;> exact rfl
  apply W_call -- call 4 of function 15
  · (simp only [go_sem, Try.ntmps13, bg0t, bg1t, bg2t, bg3t, bh0f, bh1f, bh5t, h5t, rP_get h5t, hb]) <;> exact rfl
  · (simp only [go_sem, Try.ntmps13, bg0t, bg1t, bg2t, bg3t, bh0f, bh1f, bh5t, h5t, rP_get h5t, hb]) <;> exact rfl
  · exact rfl
  · (simp only [go_sem, Try.ntmps13, bg0t, bg1t, bg2t, bg3t, bh0f, bh1f, bh5t, h5t, rP_get h5t, hb]) <;> exact rfl
  · (simp only [go_sem, Try.ntmps13, bg0t, bg1t, bg2t, bg3t, bh0f, bh1f, bh5t, h5t, rP_get h5t, hb]) <;> exact rfl
  · exact ⟨_, Try.func15, rfl, rfl⟩
  · (simp only [go_sem, Try.ntmps13, bg0t, bg1t, bg2t, bg3t, bh0f, bh1f, bh5t, h5t, rP_get h5t, hb]) <;> exact rfl
  · (simp only [go_sem, Try.ntmps13, bg0t, bg1t, bg2t, bg3t, bh0f, bh1f, bh5t, h5t, rP_get h5t, hb]) <;> exact rfl
  · exact ref_house _ _
  apply W_pre [4, 5] [6, 7, 8, 9, 10, 11, 12, 13, 14, 15, 16, 17, 18]
  · (simp only [go_sem, Try.ntmps13, bg0t, bg1t, bg2t, bg3t, bh0f, bh1f, bh5t, h5t, rP_get h5t, hb]) <;> exact rfl
  apply W_guard
  · (simp only [go_sem, Try.ntmps13, bg0t, bg1t, bg2t, bg3t, bh0f, bh1f, bh5t, h5t, rP_get h5t, hb]) <;> exact rfl
  · (simp only [go_sem, Try.ntmps13, bg0t, bg1t, bg2t, bg3t, bh0f, bh1f, bh5t, h5t, rP_get h5t, hb]) <;> exact rfl
  · intro bg6t
    have g6t := bg6t
    try simp only [CS] at g6t
    try simp only [BS] at bg6t
    try exact absurd bg6t (by decide)
    all_goals (
  apply W_pre [6, 7, 8] [9, 10, 11, 12, 13, 14, 15, 16, 17, 18]
  · (simp only [go_sem, Try.ntmps13, bg0t, bg1t, bg2t, bg3t, bh0f, bh1f, bh5t, h5t, rP_get h5t, hb, bg6t]) <;> exact rfl
  apply W_call -- call 5 of function 15
  · (simp only [go_sem, Try.ntmps13, bg0t, bg1t, bg2t, bg3t, bh0f, bh1f, bh5t, h5t, rP_get h5t, hb, bg6t]) <;> exact rfl
  · (simp only [go_sem, Try.ntmps13, bg0t, bg1t, bg2t, bg3t, bh0f, bh1f, bh5t, h5t, rP_get h5t, hb, bg6t]) <;> exact rfl
  · exact rfl
  · (simp only [go_sem, Try.ntmps13, bg0t, bg1t, bg2t, bg3t, bh0f, bh1f, bh5t, h5t, rP_get h5t, hb, bg6t]) <;> exact rfl
  · (simp only [go_sem, Try.ntmps13, bg0t, bg1t, bg2t, bg3t, bh0f, bh1f, bh5t, h5t, rP_get h5t, hb, bg6t]) <;> exact rfl
  · exact ⟨_, Try.func15, rfl, rfl⟩
  · (simp only [go_sem, Try.ntmps13, bg0t, bg1t, bg2t, bg3t, bh0f, bh1f, bh5t, h5t, rP_get h5t, hb, bg6t]) <;> exact rfl
  · (simp only [go_sem, Try.ntmps13, bg0t, bg1t, bg2t, bg3t, bh0f, bh1f, bh5t, h5t, rP_get h5t, hb, bg6t]) <;> exact rfl
  · exact ref_house _ _
  apply W_pre [10, 11, 12] [13, 14, 15, 16, 17, 18]
  · (simp only [go_sem, Try.ntmps13, bg0t, bg1t, bg2t, bg3t, bh0f, bh1f, bh5t, h5t, rP_get h5t, hb, bg6t]) <;> exact rfl
  apply W_guard
  · (simp only [go_sem, Try.ntmps13, bg0t, bg1t, bg2t, bg3t, bh0f, bh1f, bh5t, h5t, rP_get h5t, hb, bg6t]) <;> exact rfl
  · (simp only [go_sem, Try.ntmps13, bg0t, bg1t, bg2t, bg3t, bh0f, bh1f, bh5t, h5t, rP_get h5t, hb, bg6t]) <;> exact rfl
  · intro bg7t
    have g7t := bg7t
    try simp only [CS] at g7t
    try simp only [BS] at bg7t
    try exact absurd bg7t (by decide)
    all_goals (
  apply W_run
  · (simp only [go_sem, Try.ntmps13, bg0t, bg1t, bg2t, bg3t, bh0f, bh1f, bh5t, h5t, rP_get h5t, hb, bg6t, bg7t]) <;> exact rfl
  apply W_nil
  apply K_seq
  apply T_if
  · (simp only [go_sem, Try.ntmps13, bg0t, bg1t, bg2t, bg3t, bh0f, bh1f, bh5t, h5t, rP_get h5t, hb, bg6t, bg7t]) <;> exact rfl
  · intro bh6t
    have h6t := bh6t
    try simp only [CS] at h6t
    try simp only [BS] at bh6t
    try exact absurd bh6t (by decide)
    all_goals (
  apply T_seq
  apply T_r F
  · (simp only [go_sem, Try.ntmps13, bg0t, bg1t, bg2t, bg3t, bh0f, bh1f, bh5t, h5t, rP_get h5t, hb, bg6t, bg7t, bh6t]) <;> exact rfl
  apply K_seq
  apply T_ret
  apply K_blkR
  apply K_seqR
  apply K_lpR
  apply K_blkR
  apply K_seqR
  apply fin_ret
  · (simp only [go_sem, Try.ntmps13, bg0t, bg1t, bg2t, bg3t, bh0f, bh1f, bh5t, h5t, rP_get h5t, hb, bg6t, bg7t, bh6t, Try.f13]) <;> exact rfl
  -- leaf 5 (ret)
  simp only [go_sem, Try.ntmps13, bg0t, bg1t, bg2t, bg3t, bh0f, bh1f, bh5t, h5t, rP_get h5t, hb, bg6t, bg7t, bh6t, V.bool.injEq, V.int.injEq, true_and]
  grind [M.SchoolOk, M.KinOk])
  · intro bh6f
    have h6f := bh6f
    try simp only [CS] at h6f
    try simp only [BS] at bh6f
    try exact absurd bh6f (by decide)
    all_goals (
  apply T_skip
  apply K_blk
  apply K_seq
  apply T_r F
  · (simp only [go_sem, Try.ntmps13, bg0t, bg1t, bg2t, bg3t, bh0f, bh1f, bh5t, h5t, rP_get h5t, hb, bg6t, bg7t, bh6f]) <;> exact rfl
  refine K_lpc (k + 1) 1 (Nat.zero_le _) ?_ ?_ ?_ ?_ ?_
  · (simp only [go_sem, Try.ntmps13, bg0t, bg1t, bg2t, bg3t, bh0f, bh1f, bh5t, h5t, rP_get h5t, hb, bg6t, bg7t, bh6f]) <;> decide
  · (simp only [go_sem, Try.ntmps13, bg0t, bg1t, bg2t, bg3t, bh0f, bh1f, bh5t, h5t, rP_get h5t, hb, bg6t, bg7t, bh6f, Nat.reduceLT, decide_true, Nat.zero_lt_one, Nat.zero_lt_succ]) <;> rfl
  · (simp only [go_sem, Try.ntmps13, bg0t, bg1t, bg2t, bg3t, bh0f, bh1f, bh5t, h5t, rP_get h5t, hb, bg6t, bg7t, bh6f, Nat.reduceLT, decide_true, Nat.zero_lt_one, Nat.zero_lt_succ]) <;> rfl
  · (simp only [go_sem, Try.ntmps13, bg0t, bg1t, bg2t, bg3t, bh0f, bh1f, bh5t, h5t, rP_get h5t, hb, bg6t, bg7t, bh6f]) <;> exact rfl
  -- leaf 6 (loop1)
  grind [M.KinOk]))
  · intro bg7f
    have g7f := bg7f
    try simp only [CS] at g7f
    try simp only [BS] at bg7f
    try exact absurd bg7f (by decide)
    all_goals (
  apply W_run
  · (simp only [go_sem, Try.ntmps13, bg0t, bg1t, bg2t, bg3t, bh0f, bh1f, bh5t, h5t, rP_get h5t, hb, bg6t, bg7f]) <;> exact rfl
  apply W_nil
  apply K_seq
  apply T_if
  · (simp only [go_sem, Try.ntmps13, bg0t, bg1t, bg2t, bg3t, bh0f, bh1f, bh5t, h5t, rP_get h5t, hb, bg6t, bg7f]) <;> exact rfl
  · intro bh7t
    have h7t := bh7t
    try simp only [CS] at h7t
    try simp only [BS] at bh7t
    try exact absurd bh7t (by decide)
    all_goals (
  apply T_seq
  apply T_r F
  · (simp only [go_sem, Try.ntmps13, bg0t, bg1t, bg2t, bg3t, bh0f, bh1f, bh5t, h5t, rP_get h5t, hb, bg6t, bg7f, bh7t]) <;> exact rfl
  apply K_seq
  apply T_ret
  apply K_blkR
  apply K_seqR
  apply K_lpR
  apply K_blkR
  apply K_seqR
  apply fin_ret
  · (simp only [go_sem, Try.ntmps13, bg0t, bg1t, bg2t, bg3t, bh0f, bh1f, bh5t, h5t, rP_get h5t, hb, bg6t, bg7f, bh7t, Try.f13]) <;> exact rfl
  -- leaf 7 (ret)
  simp only [go_sem, Try.ntmps13, bg0t, bg1t, bg2t, bg3t, bh0f, bh1f, bh5t, h5t, rP_get h5t, hb, bg6t, bg7f, bh7t, V.bool.injEq, V.int.injEq, true_and]
  grind [M.SchoolOk, M.KinOk])
  · intro bh7f
    exact absurd bh7f (by simp)))
  · intro bg6f
    have g6f := bg6f
    try simp only [CS] at g6f
    try simp only [BS] at bg6f
    try exact absurd bg6f (by decide)
    all_goals (
  apply W_pre [6, 7, 8, 9] [10, 11, 12, 13, 14, 15, 16, 17, 18]
  · (simp only [go_sem, Try.ntmps13, bg0t, bg1t, bg2t, bg3t, bh0f, bh1f, bh5t, h5t, rP_get h5t, hb, bg6f]) <;> exact rfl
  apply W_pre [10, 11, 12, 13] [14, 15, 16, 17, 18]
  · (simp only [go_sem, Try.ntmps13, bg0t, bg1t, bg2t, bg3t, bh0f, bh1f, bh5t, h5t, rP_get h5t, hb, bg6f]) <;> exact rfl
  apply W_run
  · (simp only [go_sem, Try.ntmps13, bg0t, bg1t, bg2t, bg3t, bh0f, bh1f, bh5t, h5t, rP_get h5t, hb, bg6f]) <;> exact rfl
  apply W_nil
  apply K_seq
  apply T_if
  · (simp only [go_sem, Try.ntmps13, bg0t, bg1t, bg2t, bg3t, bh0f, bh1f, bh5t, h5t, rP_get h5t, hb, bg6f]) <;> exact rfl
  · intro bh8t
    have h8t := bh8t
    try simp only [CS] at h8t
    try simp only [BS] at bh8t
    try exact absurd bh8t (by decide)
    all_goals (
  apply T_seq
  apply T_r F
  · (simp only [go_sem, Try.ntmps13, bg0t, bg1t, bg2t, bg3t, bh0f, bh1f, bh5t, h5t, rP_get h5t, hb, bg6f, bh8t]) <;> exact rfl
  apply K_seq
  apply T_ret
  apply K_blkR
  apply K_seqR
  apply K_lpR
  apply K_blkR
  apply K_seqR
  apply fin_ret
  · (simp only [go_sem, Try.ntmps13, bg0t, bg1t, bg2t, bg3t, bh0f, bh1f, bh5t, h5t, rP_get h5t, hb, bg6f, bh8t, Try.f13]) <;> exact rfl
  -- leaf 8 (ret)
  simp only [go_sem, Try.ntmps13, bg0t, bg1t, bg2t, bg3t, bh0f, bh1f, bh5t, h5t, rP_get h5t, hb, bg6f, bh8t, V.bool.injEq, V.int.injEq, true_and]
  grind [M.SchoolOk, M.KinOk])
  · intro bh8f
    exact absurd bh8f (by simp)))
    · intro bh5f
      have h5f := bh5f
      try simp only [CS] at h5f
      try simp only [BS] at bh5f
      try exact absurd bh5f (by decide)
      all_goals (
  apply T_exit
  apply K_seqE
  apply K_lpE
  apply K_blkE
  apply K_seq
  apply T_seq
  apply T_r F
  · (simp only [go_sem, Try.ntmps13, bg0t, bg1t, bg2t, bg3t, bh0f, bh1f, bh5f]) <;> exact rfl
  apply K_seq
  apply T_ret
  apply fin_ret
  · (simp only [go_sem, Try.ntmps13, bg0t, bg1t, bg2t, bg3t, bh0f, bh1f, bh5f, Try.f13]) <;> exact rfl
  -- leaf 9 (ret)
  simp only [go_sem, Try.ntmps13, bg0t, bg1t, bg2t, bg3t, bh0f, bh1f, bh5f, V.bool.injEq, V.int.injEq, true_and]
  grind [M.SchoolOk, M.KinOk]))))
  · intro bg3f
    have g3f := bg3f
    try simp only [CS] at g3f
    try simp only [BS] at bg3f
    try exact absurd bg3f (by decide)
    all_goals (
  apply W_run
  · (simp only [go_sem, Try.ntmps13, bg0t, bg1t, bg2t, bg3f]) <;> exact rfl
  apply W_nil
  apply K_seq
  apply T_if
  · (simp only [go_sem, Try.ntmps13, bg0t, bg1t, bg2t, bg3f]) <;> exact rfl
  · intro bh9t
    have h9t := bh9t
    try simp only [CS] at h9t
    try simp only [BS] at bh9t
    try exact absurd bh9t (by decide)
    all_goals (
  apply T_seq
  apply T_r F
  · (simp only [go_sem, Try.ntmps13, bg0t, bg1t, bg2t, bg3f, bh9t]) <;> exact rfl
  apply K_seq
  apply T_ret
  apply K_seqR
  apply fin_ret
  · (simp only [go_sem, Try.ntmps13, bg0t, bg1t, bg2t, bg3f, bh9t, Try.f13]) <;> exact rfl
  -- leaf 10 (ret)
  simp only [go_sem, Try.ntmps13, bg0t, bg1t, bg2t, bg3f, bh9t, V.bool.injEq, V.int.injEq, true_and]
  grind [M.SchoolOk, M.KinOk])
  · intro bh9f
    exact absurd bh9f (by simp)))
  · intro bg2f
    have g2f := bg2f
    try simp only [CS] at g2f
    try simp only [BS] at bg2f
    try exact absurd bg2f (by decide)
    all_goals (
  apply W_pre [15, 16, 17, 18] [19, 20, 21, 22, 23, 24, 25, 26, 27, 28]
  · (simp only [go_sem, Try.ntmps13, bg0t, bg1t, bg2f]) <;> exact rfl
  apply W_pre [19, 20, 21, 22] [23, 24, 25, 26, 27, 28]
  · (simp only [go_sem, Try.ntmps13, bg0t, bg1t, bg2f]) <;> exact rfl
  apply W_run
  · (simp only [go_sem, Try.ntmps13, bg0t, bg1t, bg2f]) <;> exact rfl
  apply W_nil
  apply K_seq
  apply T_if
  · (simp only [go_sem, Try.ntmps13, bg0t, bg1t, bg2f]) <;> exact rfl
  · intro bh10t
    have h10t := bh10t
    try simp only [CS] at h10t
    try simp only [BS] at bh10t
    try exact absurd bh10t (by decide)
    all_goals (
  apply T_seq
  apply T_r F
  · (simp only [go_sem, Try.ntmps13, bg0t, bg1t, bg2f, bh10t]) <;> exact rfl
  apply K_seq
  apply T_ret
  apply K_seqR
  apply fin_ret
  · (simp only [go_sem, Try.ntmps13, bg0t, bg1t, bg2f, bh10t, Try.f13]) <;> exact rfl
  -- leaf 11 (ret)
  simp only [go_sem, Try.ntmps13, bg0t, bg1t, bg2f, bh10t, V.bool.injEq, V.int.injEq, true_and]
  grind [M.SchoolOk, M.KinOk])
  · intro bh10f
    exact absurd bh10f (by simp)))
  · intro bg1f
    have g1f := bg1f
    try simp only [CS] at g1f
    try simp only [BS] at bg1f
    try exact absurd bg1f (by decide)
    all_goals (
  apply W_pre [9, 10, 11, 12] [13, 14, 15, 16, 17, 18, 19, 20, 21, 22, 23, 24, 25, 26, 27, 28]
  · (simp only [go_sem, Try.ntmps13, bg0t, bg1f]) <;> exact rfl
  apply W_pre [13, 14, 15, 16] [17, 18, 19, 20, 21, 22, 23, 24, 25, 26, 27, 28]
  · (simp only [go_sem, Try.ntmps13, bg0t, bg1f]) <;> exact rfl
  apply W_pre [17, 18, 19, 20] [21, 22, 23, 24, 25, 26, 27, 28]
  · (simp only [go_sem, Try.ntmps13, bg0t, bg1f]) <;> exact rfl
  apply W_pre [21, 22, 23, 24] [25, 26, 27, 28]
  · (simp only [go_sem, Try.ntmps13, bg0t, bg1f]) <;> exact rfl
  apply W_run
  · (simp only [go_sem, Try.ntmps13, bg0t, bg1f]) <;> exact rfl
  apply W_nil
  apply K_seq
  apply T_if
  · (simp only [go_sem, Try.ntmps13, bg0t, bg1f]) <;> exact rfl
  · intro bh11t
    have h11t := bh11t
    try simp only [CS] at h11t
    try simp only [BS] at bh11t
    try exact absurd bh11t (by decide)
    all_goals (
  apply T_seq
  apply T_r F
  · (simp only [go_sem, Try.ntmps13, bg0t, bg1f, bh11t]) <;> exact rfl
  apply K_seq
  apply T_ret
  apply K_seqR
  apply fin_ret
  · (simp only [go_sem, Try.ntmps13, bg0t, bg1f, bh11t, Try.f13]) <;> exact rfl
  -- leaf 12 (ret)
  simp only [go_sem, Try.ntmps13, bg0t, bg1f, bh11t, V.bool.injEq, V.int.injEq, true_and]
  grind [M.SchoolOk, M.KinOk])
  · intro bh11f
    exact absurd bh11f (by simp)))
  · intro bg0f
    have g0f := bg0f
    try simp only [CS] at g0f
    try simp only [BS] at bg0f
    try exact absurd bg0f (by decide)
    all_goals (
  apply W_pre [4, 5, 6, 7] [8, 9, 10, 11, 12, 13, 14, 15, 16, 17, 18, 19, 20, 21, 22, 23, 24, 25, 26, 27, 28]
  · (simp only [go_sem, Try.ntmps13, bg0f]) <;> exact rfl
  apply W_pre [8, 9, 10, 11] [12, 13, 14, 15, 16, 17, 18, 19, 20, 21, 22, 23, 24, 25, 26, 27, 28]
  · (simp only [go_sem, Try.ntmps13, bg0f]) <;> exact rfl
  apply W_pre [12, 13, 14, 15] [16, 17, 18, 19, 20, 21, 22, 23, 24, 25, 26, 27, 28]
  · (simp only [go_sem, Try.ntmps13, bg0f]) <;> exact rfl
  apply W_pre [16, 17, 18, 19] [20, 21, 22, 23, 24, 25, 26, 27, 28]
  · (simp only [go_sem, Try.ntmps13, bg0f]) <;> exact rfl
  apply W_pre [20, 21, 22, 23] [24, 25, 26, 27, 28]
  · (simp only [go_sem, Try.ntmps13, bg0f]) <;> exact rfl
  apply W_run
  · (simp only [go_sem, Try.ntmps13, bg0f]) <;> exact rfl
  apply W_nil
  apply K_seq
  apply T_if
  · (simp only [go_sem, Try.ntmps13, bg0f]) <;> exact rfl
  · intro bh12t
    have h12t := bh12t
    try simp only [CS] at h12t
    try simp only [BS] at bh12t
    try exact absurd bh12t (by decide)
    all_goals (
  apply T_seq
  apply T_r F
  · (simp only [go_sem, Try.ntmps13, bg0f, bh12t]) <;> exact rfl
  apply K_seq
  apply T_ret
  apply K_seqR
  apply fin_ret
  · (simp only [go_sem, Try.ntmps13, bg0f, bh12t, Try.f13]) <;> exact rfl
  -- leaf 13 (ret)
  simp only [go_sem, Try.ntmps13, bg0f, bh12t, V.bool.injEq, V.int.injEq, true_and]
  grind [M.SchoolOk, M.KinOk])
  · intro bh12f
    exact absurd bh12f (by simp))

end Go.Ab
namespace Go.Ab.M
open Go Go.RowKit
set_option linter.unusedVariables false
/-! ### towns with short lists -/
def Short (t : Town) : Prop := (∀ i, i < t.walk.length → i < 12 → (row t i).length ≤ 10) ∧ (∀ i, i < t.houses.length → i < 12 → (hs t i).wishes.length ≤ 10) ∧ t.walk.length ≤ 10 ∧ t.schools.length ≤ 10 ∧ t.gone.length ≤ 10 ∧ t.houses.length ≤ 9 ∧ t.kin.length ≤ 15
instance (t : Town) : Decidable (Short t) := by unfold Short; infer_instance
def Small (t : Town) : Prop := Short t ∧ (¬ Ok t ∨ t.houses.length ≤ 4 ∧ t.walk.length ≤ 5)
instance (t : Town) : Decidable (Small t) := by unfold Small; infer_instance
def fine (t : Town) (l : List Int) : Bool := l.all (fun x => decide (0 ≤ x) && decide (x ≤ 7)) && l.length == t.houses.length
def now (t : Town) : List Int := t.houses.map (·.lot)
theorem now_step (t : Town) {k : Nat} (h : k < t.houses.length) : rI ((now t).take k) ++ [[.int .i64 t.houses[k].lot]] = rI ((now t).take (k + 1)) := by
  rw [List.take_succ_eq_append_getElem (by simpa [now] using h)]
  simp [rI, now]
end Go.Ab.M
namespace Go.Ab.M
def differ (l m : List Int) : Bool := !(l == m)
def pleaseAt (t : Town) (p q : List Int) (i : Nat) : Bool := at' p i == at' q i || decide (rank t i (at' q i) < rank t i (at' p i))
def pleases (t : Town) (p q : List Int) : Bool := (List.range p.length).all (pleaseAt t p q) && differ p q
theorem differ_step {l m : List Int} {k : Nat} (h1 : k < l.length) (h2 : k < m.length) : differ (l.take (k + 1)) (m.take (k + 1)) = (differ (l.take k) (m.take k) || !(l[k] == m[k])) := by
  rw [List.take_succ_eq_append_getElem h1, List.take_succ_eq_append_getElem h2]
  have hlen : (l.take k).length = (m.take k).length := by simp; omega
  have key : (l.take k ++ [l[k]] = m.take k ++ [m[k]]) ↔ (l.take k = m.take k ∧ l[k] = m[k]) :=
    ⟨fun h => by have := List.append_inj h hlen; exact ⟨this.1, by simpa using this.2⟩, fun ⟨a, b⟩ => by rw [a, b]⟩
  generalize l.take k = A at *
  generalize m.take k = B at *
  generalize l[k] = x at *
  generalize m[k] = y at *
  unfold differ
  rw [Bool.eq_iff_iff]
  simp only [Bool.not_eq_true', beq_eq_false_iff_ne, ne_eq, Bool.or_eq_true, key]
  constructor
  · intro h
    by_cases hA : A = B
    · exact .inr fun hx => h ⟨hA, hx⟩
    · exact .inl hA
  · rintro (h | h) ⟨h1, h2⟩
    · exact h h1
    · exact h h2
end Go.Ab.M
namespace Go.Ab
open Go Go.RowKit Go.Proofs Fac
set_option linter.unusedVariables false
set_option linter.unusedSimpArgs false
set_option maxRecDepth 4000
set_option maxHeartbeats 1000000

theorem ref_allowed (t : Town) (p : List Int) (ok : M.Ok t) (hp : M.plan t p = true) : Ret Try.prog 21 [.agg (cT t), .sl 1 (rI p)] (.bool (M.allowed t p)) := by
  apply Ret_fin (fn := Try.f21) Try.func21 rfl
  apply T_seq
  apply T_r F
  · (simp only [go_sem, Try.ntmps21]) <;> exact rfl
  apply K_seq
  apply T_seq
  apply T_wL F [0, 1, 2, 3, 4, 5] rfl
  apply W_pre [0, 1] [2, 3, 4, 5]
  · (simp only [go_sem, Try.ntmps21]) <;> exact rfl
  apply W_call -- call 0 of function 40
  · (simp only [go_sem, Try.ntmps21]) <;> exact rfl
  · (simp only [go_sem, Try.ntmps21]) <;> exact rfl
  · exact rfl
  · (simp only [go_sem, Try.ntmps21]) <;> exact rfl
  · (simp only [go_sem, Try.ntmps21]) <;> exact rfl
  · exact ⟨_, Try.func40, rfl, rfl⟩
  · (simp only [go_sem, Try.ntmps21]) <;> exact rfl
  · (simp only [go_sem, Try.ntmps21]) <;> exact rfl
  · exact ref_fault _ _ ok hp
  apply W_run
  · (simp only [go_sem, Try.ntmps21]) <;> exact rfl
  apply W_nil
  apply K_seq
  apply T_ret
  apply fin_ret
  · (simp only [go_sem, Try.ntmps21, Try.f21]) <;> exact rfl
  -- leaf 0 (ret)
  simp only [go_sem, Try.ntmps21, V.bool.injEq, V.int.injEq, true_and]
  all_goals rfl

theorem law_fine (t : Town) (l : List Int) : Ret Try.prog 35 [.agg (cT t), .sl 1 (rI l)] (.bool (M.fine t l)) := by
  refine Ret.of_fits fun hfits => ?_
  simp only [V.fits, V.fitsL, V.fitsR, cT_fits] at hfits
  simp only [V.fits, V.fitsL, rI_length] at hfits
  have hl := hfits.2.1.1
  apply Ret_fin (fn := Try.f35) Try.func35 rfl
  apply T_seq
  apply T_r F
  · (simp only [go_sem, Try.ntmps35]) <;> exact rfl
  apply K_seq
  apply T_seq
  apply T_seq
  apply T_r F
  · (simp only [go_sem, Try.ntmps35]) <;> exact rfl
  apply K_seq
  apply T_block
  apply T_lp (α := Nat) [false, true, true, false, false, true, false, false, false, false, false, false, false, false, false, false, false, false, false, false, false, false, false, false, false, false, false, false, false, false] (fun k => (⟨[.undef, .sl 1 (rI l), .ptr 0 0, .undef, .undef, .int .i64 (k : Int), .undef, .undef, .undef, .undef, .undef, .undef, .undef, .undef, .undef, .undef, .undef, .undef, .undef, .undef, .undef, .undef, .undef, .undef, .undef, .undef, .undef, .undef, .undef, .undef], [.box 28 (cT t)]⟩ : St)) (fun k => k ≤ l.length ∧ (l.drop k).all (fun x => decide (0 ≤ x) && decide (x ≤ 7)) = l.all (fun x => decide (0 ≤ x) && decide (x ≤ 7))) (fun k => l.length - k) (0)
  · (simp only [go_sem, Try.ntmps35]) <;> exact rfl
  · simp
  · rintro k ⟨hk, hj⟩
    apply T_seq
    apply T_seq
    apply T_r F
    · (simp only [go_sem, Try.ntmps35]) <;> exact rfl
    apply K_seq
    apply T_if
    · (simp only [go_sem, Try.ntmps35]) <;> exact rfl
    · intro bh0t
      have h0t := bh0t
      try simp only [CS] at h0t
      try simp only [BS] at bh0t
      try exact absurd bh0t (by decide)
      all_goals (
  have hb : k < 9223372036854775807 := by omega
  have hd := List.drop_eq_getElem_cons h0t
  apply T_skip
  apply K_seq
  apply T_seq
  apply T_block
  apply T_seq
  apply T_wL F [0, 1, 2, 3, 4, 5, 6, 7, 8, 9, 10, 11] rfl
  apply W_pre [0, 1, 2, 3, 4, 5] [6, 7, 8, 9, 10, 11]
  · (simp only [go_sem, Try.ntmps35, bh0t, h0t, rI_get h0t, hb]) <;> exact rfl
  apply W_guard
  · (simp only [go_sem, Try.ntmps35, bh0t, h0t, rI_get h0t, hb]) <;> exact rfl
  · (simp only [go_sem, Try.ntmps35, bh0t, h0t, rI_get h0t, hb]) <;> exact rfl
  · intro bg0t
    have g0t := bg0t
    try simp only [CS] at g0t
    try simp only [BS] at bg0t
    try exact absurd bg0t (by decide)
    all_goals (
  apply W_run
  · (simp only [go_sem, Try.ntmps35, bh0t, h0t, rI_get h0t, hb, bg0t]) <;> exact rfl
  apply W_nil
  apply K_seq
  apply T_if
  · (simp only [go_sem, Try.ntmps35, bh0t, h0t, rI_get h0t, hb, bg0t]) <;> exact rfl
  · intro bh1t
    have h1t := bh1t
    try simp only [CS] at h1t
    try simp only [BS] at bh1t
    try exact absurd bh1t (by decide)
    all_goals (
  apply T_seq
  apply T_r F
  · (simp only [go_sem, Try.ntmps35, bh0t, h0t, rI_get h0t, hb, bg0t, bh1t]) <;> exact rfl
  apply K_seq
  apply T_ret
  apply K_blkR
  apply K_seqR
  apply K_lpR
  apply K_blkR
  apply K_seqR
  apply fin_ret
  · (simp only [go_sem, Try.ntmps35, bh0t, h0t, rI_get h0t, hb, bg0t, bh1t, Try.f35]) <;> exact rfl
  -- leaf 0 (ret)
  simp only [go_sem, Try.ntmps35, bh0t, h0t, rI_get h0t, hb, bg0t, bh1t, V.bool.injEq, V.int.injEq, true_and]
  grind [M.fine])
  · intro bh1f
    have h1f := bh1f
    try simp only [CS] at h1f
    try simp only [BS] at bh1f
    try exact absurd bh1f (by decide)
    all_goals (
  apply T_skip
  apply K_blk
  apply K_seq
  apply T_r F
  · (simp only [go_sem, Try.ntmps35, bh0t, h0t, rI_get h0t, hb, bg0t, bh1f]) <;> exact rfl
  refine K_lp (k + 1) ?_ ?_
  · (simp only [go_sem, Try.ntmps35, bh0t, h0t, rI_get h0t, hb, bg0t, bh1f]) <;> exact rfl
  -- leaf 1 (loop0)
  grind))
  · intro bg0f
    have g0f := bg0f
    try simp only [CS] at g0f
    try simp only [BS] at bg0f
    try exact absurd bg0f (by decide)
    all_goals (
  apply W_run
  · (simp only [go_sem, Try.ntmps35, bh0t, h0t, rI_get h0t, hb, bg0f]) <;> exact rfl
  apply W_nil
  apply K_seq
  apply T_if
  · (simp only [go_sem, Try.ntmps35, bh0t, h0t, rI_get h0t, hb, bg0f]) <;> exact rfl
  · intro bh2t
    have h2t := bh2t
    try simp only [CS] at h2t
    try simp only [BS] at bh2t
    try exact absurd bh2t (by decide)
    all_goals (
  apply T_seq
  apply T_r F
  · (simp only [go_sem, Try.ntmps35, bh0t, h0t, rI_get h0t, hb, bg0f, bh2t]) <;> exact rfl
  apply K_seq
  apply T_ret
  apply K_blkR
  apply K_seqR
  apply K_lpR
  apply K_blkR
  apply K_seqR
  apply fin_ret
  · (simp only [go_sem, Try.ntmps35, bh0t, h0t, rI_get h0t, hb, bg0f, bh2t, Try.f35]) <;> exact rfl
  -- leaf 2 (ret)
  simp only [go_sem, Try.ntmps35, bh0t, h0t, rI_get h0t, hb, bg0f, bh2t, V.bool.injEq, V.int.injEq, true_and]
  grind [M.fine])
  · intro bh2f
    exact absurd bh2f (by simp)))
    · intro bh0f
      have h0f := bh0f
      try simp only [CS] at h0f
      try simp only [BS] at bh0f
      try exact absurd bh0f (by decide)
      all_goals (
  apply T_exit
  apply K_seqE
  apply K_lpE
  apply K_blkE
  apply K_seq
  apply T_seq
  apply T_r F
  · (simp only [go_sem, Try.ntmps35, bh0f]) <;> exact rfl
  apply K_seq
  apply T_ret
  apply fin_ret
  · (simp only [go_sem, Try.ntmps35, bh0f, Try.f35]) <;> exact rfl
  -- leaf 3 (ret)
  simp only [go_sem, Try.ntmps35, bh0f, V.bool.injEq, V.int.injEq, true_and]
  grind [M.fine])

theorem ref_now (t : Town) (hh : t.houses.length ≤ 1000) : Ret Try.prog 62 [.agg (cT t)] (.sl 1 (rI (M.now t))) := by
  apply Ret_fin (fn := Try.f62) Try.func62 rfl
  apply T_seq
  apply T_r F
  · (simp only [go_sem, Try.ntmps62]) <;> exact rfl
  apply K_seq
  apply T_seq
  apply T_r F
  · (simp only [go_sem, Try.ntmps62]) <;> exact rfl
  apply K_seq
  apply T_seq
  apply T_seq
  apply T_r F
  · (simp only [go_sem, Try.ntmps62]) <;> exact rfl
  apply K_seq
  apply T_block
  apply T_ghost (d := 3) (T := 3) (sz := 1)
  · (simp only [go_sem, Try.ntmps62]) <;> exact rfl
  apply T_lp (α := Nat) [false, true, false, true, true, false, false, false, false, false, false, false, false, false, false, false, false, false, false, false, false, false] (fun k => (⟨[.undef, .ptr 0 0, .undef, .arr 1 k, .int .i64 (k : Int), .undef, .undef, .undef, .undef, .undef, .undef, .undef, .undef, .undef, .undef, .undef, .undef, .undef, .undef, .undef, .undef, .undef], [.box 28 (cT t), .arr 3 1 (rI ((M.now t).take k)) false]⟩ : St)) (fun k => k ≤ t.houses.length) (fun k => t.houses.length - k) (0)
  · (simp only [go_sem, Try.ntmps62]) <;> exact rfl
  · omega
  · rintro k hk
    have hlen : ((M.now t).take k).length = k := by simp [M.now]; omega
    apply T_seq
    apply T_seq
    apply T_r F
    · (simp only [go_sem, Try.ntmps62, hlen]) <;> exact rfl
    apply K_seq
    apply T_if
    · (simp only [go_sem, Try.ntmps62, hlen]) <;> exact rfl
    · intro bh0t
      have h0t := bh0t
      try simp only [CS] at h0t
      try simp only [BS] at bh0t
      try exact absurd bh0t (by decide)
      all_goals (
  have hb : k < 9223372036854775807 := by omega
  have hcap : (k + 1) * 8 ≤ 140737488355328 := by omega
  have hr := M.now_step t h0t
  apply T_skip
  apply K_seq
  apply T_seq
  apply T_block
  apply T_wL F [0, 1, 2, 3, 4, 5, 6, 7, 8, 9] rfl
  apply W_pre [0, 1, 2, 3] [4, 5, 6, 7, 8, 9]
  · (simp only [go_sem, Try.ntmps62, hlen, bh0t, h0t, rH_get h0t, hb, hr, hcap]) <;> exact rfl
  apply W_run
  · (simp only [go_sem, Try.ntmps62, hlen, bh0t, h0t, rH_get h0t, hb, hr, hcap]) <;> exact rfl
  apply W_nil
  apply K_blk
  apply K_seq
  apply T_r F
  · (simp only [go_sem, Try.ntmps62, hlen, bh0t, h0t, rH_get h0t, hb, hr, hcap]) <;> exact rfl
  refine K_lp (k + 1) ?_ ?_
  · (simp only [go_sem, Try.ntmps62, hlen, bh0t, h0t, rH_get h0t, hb, hr, hcap]) <;> exact rfl
  -- leaf 0 (loop0)
  grind)
    · intro bh0f
      have h0f := bh0f
      try simp only [CS] at h0f
      try simp only [BS] at bh0f
      try exact absurd bh0f (by decide)
      all_goals (
  apply T_exit
  apply K_seqE
  apply K_lpE
  apply K_blkE
  apply K_seq
  apply T_seq
  apply T_r F
  · (simp only [go_sem, Try.ntmps62, hlen, bh0f]) <;> exact rfl
  apply K_seq
  apply T_ret
  apply fin_ret
  · (simp only [go_sem, Try.ntmps62, hlen, bh0f, Try.f62]) <;> exact rfl
  -- leaf 1 (ret)
  simp only [go_sem, Try.ntmps62, hlen, bh0f, V.bool.injEq, V.int.injEq, true_and]
  rw [List.take_of_length_le (by simp [M.now]; omega)])

theorem ref_can (t : Town) (l : List Int) (h n : Int) (ok : M.Ok t) : Ret Try.prog 63 [.agg (cT t), .sl 1 (rI l), .agg [.int .i64 h, .int .i64 n]] (.bool (M.house t h && M.lot t n && !M.gone t n && !l.contains n)) := by
  apply Ret_fin (fn := Try.f63) Try.func63 rfl
  apply T_seq
  apply T_r F
  · (simp only [go_sem, Try.ntmps63]) <;> exact rfl
  apply K_seq
  apply T_seq
  apply T_wL F [0, 1, 2, 3, 4, 5, 6, 7, 8, 9, 10, 11, 12, 13, 14, 15, 16, 17, 18, 19, 20, 21, 22, 23, 24, 25, 26] rfl
  apply W_pre [0, 1, 2] [3, 4, 5, 6, 7, 8, 9, 10, 11, 12, 13, 14, 15, 16, 17, 18, 19, 20, 21, 22, 23, 24, 25, 26]
  · (simp only [go_sem, Try.ntmps63]) <;> exact rfl
  apply W_call -- call 0 of function 15
  · (simp only [go_sem, Try.ntmps63]) <;> exact rfl
  · (simp only [go_sem, Try.ntmps63]) <;> exact rfl
  · exact rfl
  · (simp only [go_sem, Try.ntmps63]) <;> exact rfl
  · (simp only [go_sem, Try.ntmps63]) <;> exact rfl
  · exact ⟨_, Try.func15, rfl, rfl⟩
  · (simp only [go_sem, Try.ntmps63]) <;> exact rfl
  · (simp only [go_sem, Try.ntmps63]) <;> exact rfl
  · exact ref_house _ _
  apply W_pre [4] [5, 6, 7, 8, 9, 10, 11, 12, 13, 14, 15, 16, 17, 18, 19, 20, 21, 22, 23, 24, 25, 26]
  · (simp only [go_sem, Try.ntmps63]) <;> exact rfl
  apply W_guard
  · (simp only [go_sem, Try.ntmps63]) <;> exact rfl
  · (simp only [go_sem, Try.ntmps63]) <;> exact rfl
  · intro bg0t
    have g0t := bg0t
    try simp only [CS] at g0t
    try simp only [BS] at bg0t
    try exact absurd bg0t (by decide)
    all_goals (
  apply W_pre [5, 6, 7] [8, 9, 10, 11, 12, 13, 14, 15, 16, 17, 18, 19, 20, 21, 22, 23, 24, 25, 26]
  · (simp only [go_sem, Try.ntmps63, bg0t]) <;> exact rfl
  apply W_call -- call 1 of function 33
  · (simp only [go_sem, Try.ntmps63, bg0t]) <;> exact rfl
  · (simp only [go_sem, Try.ntmps63, bg0t]) <;> exact rfl
  · exact rfl
  · (simp only [go_sem, Try.ntmps63, bg0t]) <;> exact rfl
  · (simp only [go_sem, Try.ntmps63, bg0t]) <;> exact rfl
  · exact ⟨_, Try.func33, rfl, rfl⟩
  · (simp only [go_sem, Try.ntmps63, bg0t]) <;> exact rfl
  · (simp only [go_sem, Try.ntmps63, bg0t]) <;> exact rfl
  · exact ref_lot _ _
  apply W_pre [9, 10] [11, 12, 13, 14, 15, 16, 17, 18, 19, 20, 21, 22, 23, 24, 25, 26]
  · (simp only [go_sem, Try.ntmps63, bg0t]) <;> exact rfl
  apply W_guard
  · (simp only [go_sem, Try.ntmps63, bg0t]) <;> exact rfl
  · (simp only [go_sem, Try.ntmps63, bg0t]) <;> exact rfl
  · intro bg1t
    have g1t := bg1t
    try simp only [CS] at g1t
    try simp only [BS] at bg1t
    try exact absurd bg1t (by decide)
    all_goals (
  have hx := M.lot_iff.1 bg1t
  have hn0 := hx.1
  have hgg : n.toNat < t.gone.length := by have := ok.gone; omega
  have hgn := M.gone_get hgg
  apply W_pre [11, 12, 13, 14] [15, 16, 17, 18, 19, 20, 21, 22, 23, 24, 25, 26]
  · (simp only [go_sem, Try.ntmps63, bg0t, bg1t, hn0, rB_get hgg]) <;> exact rfl
  apply W_pre [15, 16, 17, 18, 19] [20, 21, 22, 23, 24, 25, 26]
  · (simp only [go_sem, Try.ntmps63, bg0t, bg1t, hn0, rB_get hgg]) <;> exact rfl
  apply W_guard
  · (simp only [go_sem, Try.ntmps63, bg0t, bg1t, hn0, rB_get hgg]) <;> exact rfl
  · (simp only [go_sem, Try.ntmps63, bg0t, bg1t, hn0, rB_get hgg]) <;> exact rfl
  · intro bg2t
    have g2t := bg2t
    try simp only [CS] at g2t
    try simp only [BS] at bg2t
    try exact absurd bg2t (by decide)
    all_goals (
  apply W_pre [20, 21, 22] [23, 24, 25, 26]
  · (simp only [go_sem, Try.ntmps63, bg0t, bg1t, hn0, rB_get hgg, bg2t]) <;> exact rfl
  apply W_call -- call 2 of function 18
  · (simp only [go_sem, Try.ntmps63, bg0t, bg1t, hn0, rB_get hgg, bg2t]) <;> exact rfl
  · (simp only [go_sem, Try.ntmps63, bg0t, bg1t, hn0, rB_get hgg, bg2t]) <;> exact rfl
  · exact rfl
  · (simp only [go_sem, Try.ntmps63, bg0t, bg1t, hn0, rB_get hgg, bg2t]) <;> exact rfl
  · (simp only [go_sem, Try.ntmps63, bg0t, bg1t, hn0, rB_get hgg, bg2t]) <;> exact rfl
  · exact ⟨_, Try.func18, rfl, rfl⟩
  · (simp only [go_sem, Try.ntmps63, bg0t, bg1t, hn0, rB_get hgg, bg2t]) <;> exact rfl
  · (simp only [go_sem, Try.ntmps63, bg0t, bg1t, hn0, rB_get hgg, bg2t]) <;> exact rfl
  · exact ref_has _ _
  apply W_run
  · (simp only [go_sem, Try.ntmps63, bg0t, bg1t, hn0, rB_get hgg, bg2t]) <;> exact rfl
  apply W_nil
  apply K_seq
  apply T_ret
  apply fin_ret
  · (simp only [go_sem, Try.ntmps63, bg0t, bg1t, hn0, rB_get hgg, bg2t, Try.f63]) <;> exact rfl
  -- leaf 0 (ret)
  simp only [go_sem, Try.ntmps63, bg0t, bg1t, hn0, rB_get hgg, bg2t, V.bool.injEq, V.int.injEq, true_and]
  grind)
  · intro bg2f
    have g2f := bg2f
    try simp only [CS] at g2f
    try simp only [BS] at bg2f
    try exact absurd bg2f (by decide)
    all_goals (
  apply W_pre [20, 21, 22, 23] [24, 25, 26]
  · (simp only [go_sem, Try.ntmps63, bg0t, bg1t, hn0, rB_get hgg, bg2f]) <;> exact rfl
  apply W_run
  · (simp only [go_sem, Try.ntmps63, bg0t, bg1t, hn0, rB_get hgg, bg2f]) <;> exact rfl
  apply W_nil
  apply K_seq
  apply T_ret
  apply fin_ret
  · (simp only [go_sem, Try.ntmps63, bg0t, bg1t, hn0, rB_get hgg, bg2f, Try.f63]) <;> exact rfl
  -- leaf 1 (ret)
  simp only [go_sem, Try.ntmps63, bg0t, bg1t, hn0, rB_get hgg, bg2f, V.bool.injEq, V.int.injEq, true_and]
  grind))
  · intro bg1f
    have g1f := bg1f
    try simp only [CS] at g1f
    try simp only [BS] at bg1f
    try exact absurd bg1f (by decide)
    all_goals (
  apply W_pre [11, 12, 13, 14] [15, 16, 17, 18, 19, 20, 21, 22, 23, 24, 25, 26]
  · (simp only [go_sem, Try.ntmps63, bg0t, bg1f]) <;> exact rfl
  apply W_pre [15, 16, 17, 18] [19, 20, 21, 22, 23, 24, 25, 26]
  · (simp only [go_sem, Try.ntmps63, bg0t, bg1f]) <;> exact rfl
  apply W_pre [19, 20, 21, 22] [23, 24, 25, 26]
  · (simp only [go_sem, Try.ntmps63, bg0t, bg1f]) <;> exact rfl
  apply W_run
  · (simp only [go_sem, Try.ntmps63, bg0t, bg1f]) <;> exact rfl
  apply W_nil
  apply K_seq
  apply T_ret
  apply fin_ret
  · (simp only [go_sem, Try.ntmps63, bg0t, bg1f, Try.f63]) <;> exact rfl
  -- leaf 2 (ret)
  simp only [go_sem, Try.ntmps63, bg0t, bg1f, V.bool.injEq, V.int.injEq, true_and]
  grind))
  · intro bg0f
    have g0f := bg0f
    try simp only [CS] at g0f
    try simp only [BS] at bg0f
    try exact absurd bg0f (by decide)
    all_goals (
  apply W_pre [5, 6, 7, 8] [9, 10, 11, 12, 13, 14, 15, 16, 17, 18, 19, 20, 21, 22, 23, 24, 25, 26]
  · (simp only [go_sem, Try.ntmps63, bg0f]) <;> exact rfl
  apply W_pre [9, 10, 11, 12] [13, 14, 15, 16, 17, 18, 19, 20, 21, 22, 23, 24, 25, 26]
  · (simp only [go_sem, Try.ntmps63, bg0f]) <;> exact rfl
  apply W_pre [13, 14, 15, 16] [17, 18, 19, 20, 21, 22, 23, 24, 25, 26]
  · (simp only [go_sem, Try.ntmps63, bg0f]) <;> exact rfl
  apply W_pre [17, 18, 19, 20] [21, 22, 23, 24, 25, 26]
  · (simp only [go_sem, Try.ntmps63, bg0f]) <;> exact rfl
  apply W_run
  · (simp only [go_sem, Try.ntmps63, bg0f]) <;> exact rfl
  apply W_nil
  apply K_seq
  apply T_ret
  apply fin_ret
  · (simp only [go_sem, Try.ntmps63, bg0f, Try.f63]) <;> exact rfl
  -- leaf 3 (ret)
  simp only [go_sem, Try.ntmps63, bg0f, V.bool.injEq, V.int.injEq, true_and]
  grind)

theorem ref_pleases (t : Town) (p q : List Int) (hp : p.length = t.houses.length) (hq : q.length = t.houses.length) : Ret Try.prog 54 [.agg (cT t), .sl 1 (rI p), .sl 1 (rI q)] (.bool (M.pleases t p q)) := by
  refine Ret.of_fits fun hfits => ?_
  simp only [V.fits, V.fitsL, V.fitsR, cT_fits] at hfits
  simp only [V.fits, V.fitsL, rI_length] at hfits
  have hl := hfits.2.1.1
  apply Ret_fin (fn := Try.f54) Try.func54 rfl
  apply T_seq
  apply T_r F
  · (simp only [go_sem, Try.ntmps54]) <;> exact rfl
  apply K_seq
  apply T_seq
  apply T_r F
  · (simp only [go_sem, Try.ntmps54]) <;> exact rfl
  apply K_seq
  apply T_seq
  apply T_seq
  apply T_r F
  · (simp only [go_sem, Try.ntmps54]) <;> exact rfl
  apply K_seq
  apply T_block
  apply T_lp (α := Nat) [false, true, true, true, false, false, false, true, true, false, false, false, false, false, false, false, false, false, false, false, false, false, false, false, false, false, false, false, false, false, false, false, false, false, false, false, false, false, false, false] (fun k => (⟨[.undef, .sl 1 (rI p), .sl 1 (rI q), .ptr 0 0, .undef, .undef, .undef, .bool (M.differ (p.take k) (q.take k)), .int .i64 (k : Int), .undef, .undef, .undef, .undef, .undef, .undef, .undef, .undef, .undef, .undef, .undef, .undef, .undef, .undef, .undef, .undef, .undef, .undef, .undef, .undef, .undef, .undef, .undef, .undef, .undef, .undef, .undef, .undef, .undef, .undef, .undef], [.box 28 (cT t)]⟩ : St)) (fun k => k ≤ p.length ∧ ∀ j, j < k → M.pleaseAt t p q j = true) (fun k => p.length - k) (0)
  · (simp only [go_sem, Try.ntmps54]) <;> exact rfl
  · simp
  · rintro k ⟨hk, hj⟩
    apply T_seq
    apply T_seq
    apply T_r F
    · (simp only [go_sem, Try.ntmps54]) <;> exact rfl
    apply K_seq
    apply T_if
    · (simp only [go_sem, Try.ntmps54]) <;> exact rfl
    · intro bh0t
      have h0t := bh0t
      try simp only [CS] at h0t
      try simp only [BS] at bh0t
      try exact absurd bh0t (by decide)
      all_goals (
  have hb : k < 9223372036854775807 := by omega
  have hqk : k < q.length := by omega
  have hd := M.differ_step h0t hqk
  have hpa : M.pleaseAt t p q k = (p[k] == q[k] || decide (M.rank t k q[k] < M.rank t k p[k])) := by simp [M.pleaseAt, M.at_get h0t, M.at_get hqk]
  apply T_skip
  apply K_seq
  apply T_seq
  apply T_block
  apply T_seq
  apply T_seq
  apply T_qL F [0, 1, 2, 3, 4, 5, 6, 7, 8] rfl (by kernel_rfl)
  apply Q_pre [0, 1, 2, 3] [4, 5, 6, 7, 8]
  · (simp only [go_sem, Try.ntmps54, bh0t, h0t, hqk, rI_get h0t, rI_get hqk, hb, hd, Bool.or_true, Bool.or_false]) <;> exact rfl
  apply Q_run
  · (simp only [go_sem, Try.ntmps54, bh0t, h0t, hqk, rI_get h0t, rI_get hqk, hb, hd, Bool.or_true, Bool.or_false]) <;> exact rfl
  apply Q_nil
  apply K_seq
  apply T_if
  · (simp only [go_sem, Try.ntmps54, bh0t, h0t, hqk, rI_get h0t, rI_get hqk, hb, hd, Bool.or_true, Bool.or_false]) <;> exact rfl
  · intro bh1t
    have h1t := bh1t
    try simp only [CS] at h1t
    try simp only [BS] at bh1t
    try exact absurd bh1t (by decide)
    all_goals (
  apply T_exit
  apply K_seqE
  apply K_blkE
  apply K_seq
  apply T_r F
  · (simp only [go_sem, Try.ntmps54, bh0t, h0t, hqk, rI_get h0t, rI_get hqk, hb, hd, Bool.or_true, Bool.or_false, bh1t]) <;> exact rfl
  refine K_lp (k + 1) ?_ ?_
  · (simp only [go_sem, Try.ntmps54, bh0t, h0t, hqk, rI_get h0t, rI_get hqk, hb, hd, Bool.or_true, Bool.or_false, bh1t]) <;> exact rfl
  -- leaf 0 (loop0)
  grind [M.differ])
  · intro bh1f
    have h1f := bh1f
    try simp only [CS] at h1f
    try simp only [BS] at bh1f
    try exact absurd bh1f (by decide)
    all_goals (
  apply T_skip
  apply K_seq
  apply T_seq
  apply T_r F
  · (simp only [go_sem, Try.ntmps54, bh0t, h0t, hqk, rI_get h0t, rI_get hqk, hb, hd, Bool.or_true, Bool.or_false, bh1f]) <;> exact rfl
  apply K_seq
  apply T_seq
  apply T_qL F [0, 1, 2, 3, 4, 5, 6, 7, 8, 9, 10, 11, 12, 13, 14] rfl (by kernel_rfl)
  apply Q_pre [0, 1, 2, 3, 4, 5] [6, 7, 8, 9, 10, 11, 12, 13, 14]
  · (simp only [go_sem, Try.ntmps54, bh0t, h0t, hqk, rI_get h0t, rI_get hqk, hb, hd, Bool.or_true, Bool.or_false, bh1f]) <;> exact rfl
  apply Q_call -- call 0 of function 61
  · (simp only [go_sem, Try.ntmps54, bh0t, h0t, hqk, rI_get h0t, rI_get hqk, hb, hd, Bool.or_true, Bool.or_false, bh1f]) <;> exact rfl
  · (simp only [go_sem, Try.ntmps54, bh0t, h0t, hqk, rI_get h0t, rI_get hqk, hb, hd, Bool.or_true, Bool.or_false, bh1f]) <;> exact rfl
  · exact rfl
  · (simp only [go_sem, Try.ntmps54, bh0t, h0t, hqk, rI_get h0t, rI_get hqk, hb, hd, Bool.or_true, Bool.or_false, bh1f]) <;> exact rfl
  · (simp only [go_sem, Try.ntmps54, bh0t, h0t, hqk, rI_get h0t, rI_get hqk, hb, hd, Bool.or_true, Bool.or_false, bh1f]) <;> exact rfl
  · exact ⟨_, Try.func61, rfl, rfl⟩
  · (simp only [go_sem, Try.ntmps54, bh0t, h0t, hqk, rI_get h0t, rI_get hqk, hb, hd, Bool.or_true, Bool.or_false, bh1f]) <;> exact rfl
  · exact ref_rank _ _ _ (by omega)
  apply Q_pre [7, 8, 9, 10, 11, 12] [13, 14]
  · (simp only [go_sem, Try.ntmps54, bh0t, h0t, hqk, rI_get h0t, rI_get hqk, hb, hd, Bool.or_true, Bool.or_false, bh1f]) <;> exact rfl
  apply Q_call -- call 1 of function 61
  · (simp only [go_sem, Try.ntmps54, bh0t, h0t, hqk, rI_get h0t, rI_get hqk, hb, hd, Bool.or_true, Bool.or_false, bh1f]) <;> exact rfl
  · (simp only [go_sem, Try.ntmps54, bh0t, h0t, hqk, rI_get h0t, rI_get hqk, hb, hd, Bool.or_true, Bool.or_false, bh1f]) <;> exact rfl
  · exact rfl
  · (simp only [go_sem, Try.ntmps54, bh0t, h0t, hqk, rI_get h0t, rI_get hqk, hb, hd, Bool.or_true, Bool.or_false, bh1f]) <;> exact rfl
  · (simp only [go_sem, Try.ntmps54, bh0t, h0t, hqk, rI_get h0t, rI_get hqk, hb, hd, Bool.or_true, Bool.or_false, bh1f]) <;> exact rfl
  · exact ⟨_, Try.func61, rfl, rfl⟩
  · (simp only [go_sem, Try.ntmps54, bh0t, h0t, hqk, rI_get h0t, rI_get hqk, hb, hd, Bool.or_true, Bool.or_false, bh1f]) <;> exact rfl
  · exact ref_rank _ _ _ (by omega)
  apply Q_run
  · (simp only [go_sem, Try.ntmps54, bh0t, h0t, hqk, rI_get h0t, rI_get hqk, hb, hd, Bool.or_true, Bool.or_false, bh1f]) <;> exact rfl
  apply Q_nil
  apply K_seq
  apply T_if
  · (simp only [go_sem, Try.ntmps54, bh0t, h0t, hqk, rI_get h0t, rI_get hqk, hb, hd, Bool.or_true, Bool.or_false, bh1f]) <;> exact rfl
  · intro bh2t
    have h2t := bh2t
    try simp only [CS] at h2t
    try simp only [BS] at bh2t
    try exact absurd bh2t (by decide)
    all_goals (
  apply T_seq
  apply T_r F
  · (simp only [go_sem, Try.ntmps54, bh0t, h0t, hqk, rI_get h0t, rI_get hqk, hb, hd, Bool.or_true, Bool.or_false, bh1f, bh2t]) <;> exact rfl
  apply K_seq
  apply T_ret
  apply K_blkR
  apply K_seqR
  apply K_lpR
  apply K_blkR
  apply K_seqR
  apply fin_ret
  · (simp only [go_sem, Try.ntmps54, bh0t, h0t, hqk, rI_get h0t, rI_get hqk, hb, hd, Bool.or_true, Bool.or_false, bh1f, bh2t, Try.f54]) <;> exact rfl
  -- leaf 1 (ret)
  simp only [go_sem, Try.ntmps54, bh0t, h0t, hqk, rI_get h0t, rI_get hqk, hb, hd, Bool.or_true, Bool.or_false, bh1f, bh2t, V.bool.injEq, V.int.injEq, true_and]
  grind [M.pleases, M.differ])
  · intro bh2f
    have h2f := bh2f
    try simp only [CS] at h2f
    try simp only [BS] at bh2f
    try exact absurd bh2f (by decide)
    all_goals (
  apply T_skip
  apply K_blk
  apply K_seq
  apply T_r F
  · (simp only [go_sem, Try.ntmps54, bh0t, h0t, hqk, rI_get h0t, rI_get hqk, hb, hd, Bool.or_true, Bool.or_false, bh1f, bh2f]) <;> exact rfl
  refine K_lp (k + 1) ?_ ?_
  · (simp only [go_sem, Try.ntmps54, bh0t, h0t, hqk, rI_get h0t, rI_get hqk, hb, hd, Bool.or_true, Bool.or_false, bh1f, bh2f]) <;> exact rfl
  -- leaf 2 (loop0)
  grind [M.differ])))
    · intro bh0f
      have h0f := bh0f
      try simp only [CS] at h0f
      try simp only [BS] at bh0f
      try exact absurd bh0f (by decide)
      all_goals (
  apply T_exit
  apply K_seqE
  apply K_lpE
  apply K_blkE
  apply K_seq
  apply T_seq
  apply T_r F
  · (simp only [go_sem, Try.ntmps54, bh0f]) <;> exact rfl
  apply K_seq
  apply T_ret
  apply fin_ret
  · (simp only [go_sem, Try.ntmps54, bh0f, Try.f54]) <;> exact rfl
  -- leaf 3 (ret)
  simp only [go_sem, Try.ntmps54, bh0f, V.bool.injEq, V.int.injEq, true_and]
  grind [M.pleases, M.differ])

end Go.Ab
namespace Go.Ab
open Go Go.RowKit Go.Proofs Fac
set_option linter.unusedVariables false
set_option linter.unusedSimpArgs false
set_option maxRecDepth 4000
set_option maxHeartbeats 1000000

theorem law_short (t : Town) : Ret Try.prog 12 [.agg (cT t)] (.bool (decide (M.Short t))) := by
  refine Ret.of_fits fun hfits => ?_
  simp only [V.fits, V.fitsL, V.fitsR, cT_fits] at hfits
  have hl := hfits.1
  apply Ret_fin (fn := Try.f12) Try.func12 rfl
  apply T_seq
  apply T_r F
  · (simp only [go_sem, Try.ntmps12]) <;> exact rfl
  apply K_seq
  apply T_join (α := Unit) [false, true, false, false, false, false, false, false, false, false, false, false, false, false, false, false, false, false, false, false, false, false, false, false, false, false, false, false, false, false, false, false, false, false, false, false, false, false, false, false, false, false, false, false, false, false, false, false, false, false, false, false, false, false, false, false, false, false, false, false, false, false, false, false, false, false, false, false, false, false] (fun _ => (⟨[.undef, .ptr 0 0, .undef, .undef, .undef, .undef, .undef, .undef, .undef, .undef, .undef, .undef, .undef, .undef, .undef, .undef, .undef, .undef, .undef, .undef, .undef, .undef, .undef, .undef, .undef, .undef, .undef, .undef, .undef, .undef, .undef, .undef, .undef, .undef, .undef, .undef, .undef, .undef, .undef, .undef, .undef, .undef, .undef, .undef, .undef, .undef, .undef, .undef, .undef, .undef, .undef, .undef, .undef, .undef, .undef, .undef, .undef, .undef, .undef, .undef, .undef, .undef, .undef, .undef, .undef, .undef, .undef, .undef, .undef, .undef], [.box 28 (cT t)]⟩ : St)) (fun _ => ∀ i, i < t.walk.length → i < 12 → (M.row t i).length ≤ 10)
  · skip
    apply T_seq
    apply T_r F
    · (simp only [go_sem, Try.ntmps12]) <;> exact rfl
    apply K_seq
    apply T_block
    apply T_lp (α := Nat) [false, true, false, true, false, false, false, false, false, false, false, false, false, false, false, false, false, false, false, false, false, false, false, false, false, false, false, false, false, false, false, false, false, false, false, false, false, false, false, false, false, false, false, false, false, false, false, false, false, false, false, false, false, false, false, false, false, false, false, false, false, false, false, false, false, false, false, false, false, false] (fun k => (⟨[.undef, .ptr 0 0, .undef, .int .i64 (k : Int), .undef, .undef, .undef, .undef, .undef, .undef, .undef, .undef, .undef, .undef, .undef, .undef, .undef, .undef, .undef, .undef, .undef, .undef, .undef, .undef, .undef, .undef, .undef, .undef, .undef, .undef, .undef, .undef, .undef, .undef, .undef, .undef, .undef, .undef, .undef, .undef, .undef, .undef, .undef, .undef, .undef, .undef, .undef, .undef, .undef, .undef, .undef, .undef, .undef, .undef, .undef, .undef, .undef, .undef, .undef, .undef, .undef, .undef, .undef, .undef, .undef, .undef, .undef, .undef, .undef, .undef], [.box 28 (cT t)]⟩ : St)) (fun k => k ≤ t.walk.length ∧ k ≤ 12 ∧ ∀ j, j < k → (M.row t j).length ≤ 10) (fun k => 12 - k) (0)
    · (simp only [go_sem, Try.ntmps12]) <;> exact rfl
    · simp
    · rintro k ⟨hk, hk2, hj⟩
      apply T_seq
      apply T_seq
      apply T_wL F [0, 1, 2, 3, 4, 5, 6, 7, 8] rfl
      apply W_pre [0, 1, 2, 3, 4, 5] [6, 7, 8]
      · (simp only [go_sem, Try.ntmps12]) <;> exact rfl
      apply W_guard
      · (simp only [go_sem, Try.ntmps12]) <;> exact rfl
      · (simp only [go_sem, Try.ntmps12]) <;> exact rfl
      · intro bg0t
        have g0t := bg0t
        try simp only [CS] at g0t
        try simp only [BS] at bg0t
        try exact absurd bg0t (by decide)
        all_goals (
  have hb : k < 9223372036854775807 := by omega
  have hrw := M.row_get g0t
  apply W_run
  · (simp only [go_sem, Try.ntmps12, bg0t, g0t, rL_get g0t, hb]) <;> exact rfl
  apply W_nil
  apply K_seq
  apply T_if
  · (simp only [go_sem, Try.ntmps12, bg0t, g0t, rL_get g0t, hb]) <;> exact rfl
  · intro bh0t
    have h0t := bh0t
    try simp only [CS] at h0t
    try simp only [BS] at bh0t
    try exact absurd bh0t (by decide)
    all_goals (
  apply T_skip
  apply K_seq
  apply T_seq
  apply T_block
  apply T_seq
  apply T_r F
  · (simp only [go_sem, Try.ntmps12, bg0t, g0t, rL_get g0t, hb, bh0t]) <;> exact rfl
  apply K_seq
  apply T_if
  · (simp only [go_sem, Try.ntmps12, bg0t, g0t, rL_get g0t, hb, bh0t]) <;> exact rfl
  · intro bh1t
    have h1t := bh1t
    try simp only [CS] at h1t
    try simp only [BS] at bh1t
    try exact absurd bh1t (by decide)
    all_goals (
  apply T_seq
  apply T_r F
  · (simp only [go_sem, Try.ntmps12, bg0t, g0t, rL_get g0t, hb, bh0t, bh1t]) <;> exact rfl
  apply K_seq
  apply T_ret
  apply K_blkR
  apply K_seqR
  apply K_lpR
  apply K_blkR
  apply K_joinR
  apply fin_ret
  · (simp only [go_sem, Try.ntmps12, bg0t, g0t, rL_get g0t, hb, bh0t, bh1t, Try.f12]) <;> exact rfl
  -- leaf 0 (ret)
  simp only [go_sem, Try.ntmps12, bg0t, g0t, rL_get g0t, hb, bh0t, bh1t, V.bool.injEq, V.int.injEq, true_and]
  grind [M.Short])
  · intro bh1f
    have h1f := bh1f
    try simp only [CS] at h1f
    try simp only [BS] at bh1f
    try exact absurd bh1f (by decide)
    all_goals (
  apply T_skip
  apply K_blk
  apply K_seq
  apply T_r F
  · (simp only [go_sem, Try.ntmps12, bg0t, g0t, rL_get g0t, hb, bh0t, bh1f]) <;> exact rfl
  refine K_lp (k + 1) ?_ ?_
  · (simp only [go_sem, Try.ntmps12, bg0t, g0t, rL_get g0t, hb, bh0t, bh1f]) <;> exact rfl
  -- leaf 1 (loop0)
  grind))
  · intro bh0f
    have h0f := bh0f
    try simp only [CS] at h0f
    try simp only [BS] at bh0f
    try exact absurd bh0f (by decide)
    all_goals (
  apply T_exit
  apply K_seqE
  apply K_lpE
  apply K_blkE
  refine K_join (()) ?_ ?_
  · (simp only [go_sem, Try.ntmps12, bg0t, g0t, rL_get g0t, hb, bh0f]) <;> exact rfl
  -- leaf 2 (join0)
  grind))
      · intro bg0f
        have g0f := bg0f
        try simp only [CS] at g0f
        try simp only [BS] at bg0f
        try exact absurd bg0f (by decide)
        all_goals (
  apply W_run
  · (simp only [go_sem, Try.ntmps12, bg0f]) <;> exact rfl
  apply W_nil
  apply K_seq
  apply T_if
  · (simp only [go_sem, Try.ntmps12, bg0f]) <;> exact rfl
  · intro bh2t
    exact absurd bh2t (by simp)
  · intro bh2f
    have h2f := bh2f
    try simp only [CS] at h2f
    try simp only [BS] at bh2f
    try exact absurd bh2f (by decide)
    all_goals (
  apply T_exit
  apply K_seqE
  apply K_lpE
  apply K_blkE
  refine K_join (()) ?_ ?_
  · (simp only [go_sem, Try.ntmps12, bg0f, bh2f]) <;> exact rfl
  -- leaf 3 (join0)
  grind))
  · rintro _ hw
    apply T_join (α := Unit) [false, true, false, false, false, false, false, false, false, false, false, false, false, false, false, false, false, false, false, false, false, false, false, false, false, false, false, false, false, false, false, false, false, false, false, false, false, false, false, false, false, false, false, false, false, false, false, false, false, false, false, false, false, false, false, false, false, false, false, false, false, false, false, false, false, false, false, false, false, false] (fun _ => (⟨[.undef, .ptr 0 0, .undef, .undef, .undef, .undef, .undef, .undef, .undef, .undef, .undef, .undef, .undef, .undef, .undef, .undef, .undef, .undef, .undef, .undef, .undef, .undef, .undef, .undef, .undef, .undef, .undef, .undef, .undef, .undef, .undef, .undef, .undef, .undef, .undef, .undef, .undef, .undef, .undef, .undef, .undef, .undef, .undef, .undef, .undef, .undef, .undef, .undef, .undef, .undef, .undef, .undef, .undef, .undef, .undef, .undef, .undef, .undef, .undef, .undef, .undef, .undef, .undef, .undef, .undef, .undef, .undef, .undef, .undef, .undef], [.box 28 (cT t)]⟩ : St)) (fun _ => ∀ i, i < t.houses.length → i < 12 → (M.hs t i).wishes.length ≤ 10)
    · skip
      apply T_seq
      apply T_r F
      · (simp only [go_sem, Try.ntmps12]) <;> exact rfl
      apply K_seq
      apply T_block
      apply T_lp (α := Nat) [false, true, false, false, true, false, false, false, false, false, false, false, false, false, false, false, false, false, false, false, false, false, false, false, false, false, false, false, false, false, false, false, false, false, false, false, false, false, false, false, false, false, false, false, false, false, false, false, false, false, false, false, false, false, false, false, false, false, false, false, false, false, false, false, false, false, false, false, false, false] (fun i => (⟨[.undef, .ptr 0 0, .undef, .undef, .int .i64 (i : Int), .undef, .undef, .undef, .undef, .undef, .undef, .undef, .undef, .undef, .undef, .undef, .undef, .undef, .undef, .undef, .undef, .undef, .undef, .undef, .undef, .undef, .undef, .undef, .undef, .undef, .undef, .undef, .undef, .undef, .undef, .undef, .undef, .undef, .undef, .undef, .undef, .undef, .undef, .undef, .undef, .undef, .undef, .undef, .undef, .undef, .undef, .undef, .undef, .undef, .undef, .undef, .undef, .undef, .undef, .undef, .undef, .undef, .undef, .undef, .undef, .undef, .undef, .undef, .undef, .undef], [.box 28 (cT t)]⟩ : St)) (fun i => i ≤ t.houses.length ∧ i ≤ 12 ∧ ∀ j, j < i → (M.hs t j).wishes.length ≤ 10) (fun i => 12 - i) (0)
      · (simp only [go_sem, Try.ntmps12]) <;> exact rfl
      · simp
      · rintro i ⟨hi, hi2, hij⟩
        apply T_seq
        apply T_seq
        apply T_wL F [0, 1, 2, 3, 4, 5, 6, 7, 8] rfl
        apply W_pre [0, 1, 2, 3, 4, 5] [6, 7, 8]
        · (simp only [go_sem, Try.ntmps12]) <;> exact rfl
        apply W_guard
        · (simp only [go_sem, Try.ntmps12]) <;> exact rfl
        · (simp only [go_sem, Try.ntmps12]) <;> exact rfl
        · intro bg1t
          have g1t := bg1t
          try simp only [CS] at g1t
          try simp only [BS] at bg1t
          try exact absurd bg1t (by decide)
          all_goals (
  have hb : i < 9223372036854775807 := by omega
  have hsi := M.hs_get g1t
  apply W_run
  · (simp only [go_sem, Try.ntmps12, bg1t, g1t, rH_get g1t, hb]) <;> exact rfl
  apply W_nil
  apply K_seq
  apply T_if
  · (simp only [go_sem, Try.ntmps12, bg1t, g1t, rH_get g1t, hb]) <;> exact rfl
  · intro bh3t
    have h3t := bh3t
    try simp only [CS] at h3t
    try simp only [BS] at bh3t
    try exact absurd bh3t (by decide)
    all_goals (
  apply T_skip
  apply K_seq
  apply T_seq
  apply T_block
  apply T_seq
  apply T_wL F [0, 1, 2, 3, 4, 5, 6, 7] rfl
  apply W_pre [0, 1, 2, 3] [4, 5, 6, 7]
  · (simp only [go_sem, Try.ntmps12, bg1t, g1t, rH_get g1t, hb, bh3t]) <;> exact rfl
  apply W_run
  · (simp only [go_sem, Try.ntmps12, bg1t, g1t, rH_get g1t, hb, bh3t]) <;> exact rfl
  apply W_nil
  apply K_seq
  apply T_if
  · (simp only [go_sem, Try.ntmps12, bg1t, g1t, rH_get g1t, hb, bh3t]) <;> exact rfl
  · intro bh4t
    have h4t := bh4t
    try simp only [CS] at h4t
    try simp only [BS] at bh4t
    try exact absurd bh4t (by decide)
    all_goals (
  apply T_seq
  apply T_r F
  · (simp only [go_sem, Try.ntmps12, bg1t, g1t, rH_get g1t, hb, bh3t, bh4t]) <;> exact rfl
  apply K_seq
  apply T_ret
  apply K_blkR
  apply K_seqR
  apply K_lpR
  apply K_blkR
  apply K_joinR
  apply fin_ret
  · (simp only [go_sem, Try.ntmps12, bg1t, g1t, rH_get g1t, hb, bh3t, bh4t, Try.f12]) <;> exact rfl
  -- leaf 4 (ret)
  simp only [go_sem, Try.ntmps12, bg1t, g1t, rH_get g1t, hb, bh3t, bh4t, V.bool.injEq, V.int.injEq, true_and]
  grind [M.Short])
  · intro bh4f
    have h4f := bh4f
    try simp only [CS] at h4f
    try simp only [BS] at bh4f
    try exact absurd bh4f (by decide)
    all_goals (
  apply T_skip
  apply K_blk
  apply K_seq
  apply T_r F
  · (simp only [go_sem, Try.ntmps12, bg1t, g1t, rH_get g1t, hb, bh3t, bh4f]) <;> exact rfl
  refine K_lp (i + 1) ?_ ?_
  · (simp only [go_sem, Try.ntmps12, bg1t, g1t, rH_get g1t, hb, bh3t, bh4f]) <;> exact rfl
  -- leaf 5 (loop1)
  grind))
  · intro bh3f
    have h3f := bh3f
    try simp only [CS] at h3f
    try simp only [BS] at bh3f
    try exact absurd bh3f (by decide)
    all_goals (
  apply T_exit
  apply K_seqE
  apply K_lpE
  apply K_blkE
  refine K_join (()) ?_ ?_
  · (simp only [go_sem, Try.ntmps12, bg1t, g1t, rH_get g1t, hb, bh3f]) <;> exact rfl
  -- leaf 6 (join1)
  grind))
        · intro bg1f
          have g1f := bg1f
          try simp only [CS] at g1f
          try simp only [BS] at bg1f
          try exact absurd bg1f (by decide)
          all_goals (
  apply W_run
  · (simp only [go_sem, Try.ntmps12, bg1f]) <;> exact rfl
  apply W_nil
  apply K_seq
  apply T_if
  · (simp only [go_sem, Try.ntmps12, bg1f]) <;> exact rfl
  · intro bh5t
    exact absurd bh5t (by simp)
  · intro bh5f
    have h5f := bh5f
    try simp only [CS] at h5f
    try simp only [BS] at bh5f
    try exact absurd bh5f (by decide)
    all_goals (
  apply T_exit
  apply K_seqE
  apply K_lpE
  apply K_blkE
  refine K_join (()) ?_ ?_
  · (simp only [go_sem, Try.ntmps12, bg1f, bh5f]) <;> exact rfl
  -- leaf 7 (join1)
  grind))
    · rintro _ hh
      apply T_seq
      apply T_wL F [0, 1, 2, 3, 4, 5, 6, 7, 8, 9, 10, 11, 12, 13, 14, 15, 16, 17, 18, 19, 20, 21, 22, 23, 24, 25, 26, 27, 28] rfl
      apply W_pre [0, 1, 2, 3, 4] [5, 6, 7, 8, 9, 10, 11, 12, 13, 14, 15, 16, 17, 18, 19, 20, 21, 22, 23, 24, 25, 26, 27, 28]
      · (simp only [go_sem, Try.ntmps12]) <;> exact rfl
      apply W_guard
      · (simp only [go_sem, Try.ntmps12]) <;> exact rfl
      · (simp only [go_sem, Try.ntmps12]) <;> exact rfl
      · intro bg2t
        have g2t := bg2t
        try simp only [CS] at g2t
        try simp only [BS] at bg2t
        try exact absurd bg2t (by decide)
        all_goals (
  apply W_pre [5, 6, 7, 8, 9, 10] [11, 12, 13, 14, 15, 16, 17, 18, 19, 20, 21, 22, 23, 24, 25, 26, 27, 28]
  · (simp only [go_sem, Try.ntmps12, bg2t]) <;> exact rfl
  apply W_guard
  · (simp only [go_sem, Try.ntmps12, bg2t]) <;> exact rfl
  · (simp only [go_sem, Try.ntmps12, bg2t]) <;> exact rfl
  · intro bg3t
    have g3t := bg3t
    try simp only [CS] at g3t
    try simp only [BS] at bg3t
    try exact absurd bg3t (by decide)
    all_goals (
  apply W_pre [11, 12, 13, 14, 15, 16] [17, 18, 19, 20, 21, 22, 23, 24, 25, 26, 27, 28]
  · (simp only [go_sem, Try.ntmps12, bg2t, bg3t]) <;> exact rfl
  apply W_guard
  · (simp only [go_sem, Try.ntmps12, bg2t, bg3t]) <;> exact rfl
  · (simp only [go_sem, Try.ntmps12, bg2t, bg3t]) <;> exact rfl
  · intro bg4t
    have g4t := bg4t
    try simp only [CS] at g4t
    try simp only [BS] at bg4t
    try exact absurd bg4t (by decide)
    all_goals (
  apply W_pre [17, 18, 19, 20, 21, 22] [23, 24, 25, 26, 27, 28]
  · (simp only [go_sem, Try.ntmps12, bg2t, bg3t, bg4t]) <;> exact rfl
  apply W_guard
  · (simp only [go_sem, Try.ntmps12, bg2t, bg3t, bg4t]) <;> exact rfl
  · (simp only [go_sem, Try.ntmps12, bg2t, bg3t, bg4t]) <;> exact rfl
  · intro bg5t
    have g5t := bg5t
    try simp only [CS] at g5t
    try simp only [BS] at bg5t
    try exact absurd bg5t (by decide)
    all_goals (
  apply W_run
  · (simp only [go_sem, Try.ntmps12, bg2t, bg3t, bg4t, bg5t]) <;> exact rfl
  apply W_nil
  apply K_seq
  apply T_ret
  apply fin_ret
  · (simp only [go_sem, Try.ntmps12, bg2t, bg3t, bg4t, bg5t, Try.f12]) <;> exact rfl
  -- leaf 8 (ret)
  simp only [go_sem, Try.ntmps12, bg2t, bg3t, bg4t, bg5t, V.bool.injEq, V.int.injEq, true_and]
  grind [M.Short])
  · intro bg5f
    have g5f := bg5f
    try simp only [CS] at g5f
    try simp only [BS] at bg5f
    try exact absurd bg5f (by decide)
    all_goals (
  apply W_run
  · (simp only [go_sem, Try.ntmps12, bg2t, bg3t, bg4t, bg5f]) <;> exact rfl
  apply W_nil
  apply K_seq
  apply T_ret
  apply fin_ret
  · (simp only [go_sem, Try.ntmps12, bg2t, bg3t, bg4t, bg5f, Try.f12]) <;> exact rfl
  -- leaf 9 (ret)
  simp only [go_sem, Try.ntmps12, bg2t, bg3t, bg4t, bg5f, V.bool.injEq, V.int.injEq, true_and]
  grind [M.Short]))
  · intro bg4f
    have g4f := bg4f
    try simp only [CS] at g4f
    try simp only [BS] at bg4f
    try exact absurd bg4f (by decide)
    all_goals (
  apply W_pre [17, 18, 19, 20] [21, 22, 23, 24, 25, 26, 27, 28]
  · (simp only [go_sem, Try.ntmps12, bg2t, bg3t, bg4f]) <;> exact rfl
  apply W_pre [21, 22, 23, 24] [25, 26, 27, 28]
  · (simp only [go_sem, Try.ntmps12, bg2t, bg3t, bg4f]) <;> exact rfl
  apply W_run
  · (simp only [go_sem, Try.ntmps12, bg2t, bg3t, bg4f]) <;> exact rfl
  apply W_nil
  apply K_seq
  apply T_ret
  apply fin_ret
  · (simp only [go_sem, Try.ntmps12, bg2t, bg3t, bg4f, Try.f12]) <;> exact rfl
  -- leaf 10 (ret)
  simp only [go_sem, Try.ntmps12, bg2t, bg3t, bg4f, V.bool.injEq, V.int.injEq, true_and]
  grind [M.Short]))
  · intro bg3f
    have g3f := bg3f
    try simp only [CS] at g3f
    try simp only [BS] at bg3f
    try exact absurd bg3f (by decide)
    all_goals (
  apply W_pre [11, 12, 13, 14] [15, 16, 17, 18, 19, 20, 21, 22, 23, 24, 25, 26, 27, 28]
  · (simp only [go_sem, Try.ntmps12, bg2t, bg3f]) <;> exact rfl
  apply W_pre [15, 16, 17, 18] [19, 20, 21, 22, 23, 24, 25, 26, 27, 28]
  · (simp only [go_sem, Try.ntmps12, bg2t, bg3f]) <;> exact rfl
  apply W_pre [19, 20, 21, 22] [23, 24, 25, 26, 27, 28]
  · (simp only [go_sem, Try.ntmps12, bg2t, bg3f]) <;> exact rfl
  apply W_run
  · (simp only [go_sem, Try.ntmps12, bg2t, bg3f]) <;> exact rfl
  apply W_nil
  apply K_seq
  apply T_ret
  apply fin_ret
  · (simp only [go_sem, Try.ntmps12, bg2t, bg3f, Try.f12]) <;> exact rfl
  -- leaf 11 (ret)
  simp only [go_sem, Try.ntmps12, bg2t, bg3f, V.bool.injEq, V.int.injEq, true_and]
  grind [M.Short]))
      · intro bg2f
        have g2f := bg2f
        try simp only [CS] at g2f
        try simp only [BS] at bg2f
        try exact absurd bg2f (by decide)
        all_goals (
  apply W_pre [5, 6, 7, 8] [9, 10, 11, 12, 13, 14, 15, 16, 17, 18, 19, 20, 21, 22, 23, 24, 25, 26, 27, 28]
  · (simp only [go_sem, Try.ntmps12, bg2f]) <;> exact rfl
  apply W_pre [9, 10, 11, 12] [13, 14, 15, 16, 17, 18, 19, 20, 21, 22, 23, 24, 25, 26, 27, 28]
  · (simp only [go_sem, Try.ntmps12, bg2f]) <;> exact rfl
  apply W_pre [13, 14, 15, 16] [17, 18, 19, 20, 21, 22, 23, 24, 25, 26, 27, 28]
  · (simp only [go_sem, Try.ntmps12, bg2f]) <;> exact rfl
  apply W_pre [17, 18, 19, 20] [21, 22, 23, 24, 25, 26, 27, 28]
  · (simp only [go_sem, Try.ntmps12, bg2f]) <;> exact rfl
  apply W_pre [21, 22, 23, 24] [25, 26, 27, 28]
  · (simp only [go_sem, Try.ntmps12, bg2f]) <;> exact rfl
  apply W_run
  · (simp only [go_sem, Try.ntmps12, bg2f]) <;> exact rfl
  apply W_nil
  apply K_seq
  apply T_ret
  apply fin_ret
  · (simp only [go_sem, Try.ntmps12, bg2f, Try.f12]) <;> exact rfl
  -- leaf 12 (ret)
  simp only [go_sem, Try.ntmps12, bg2f, V.bool.injEq, V.int.injEq, true_and]
  grind [M.Short])

theorem law_small (t : Town) : Ret Try.prog 19 [.agg (cT t)] (.bool (decide (M.Small t))) := by
  refine Ret.of_fits fun hfits => ?_
  simp only [V.fits, V.fitsL, V.fitsR, cT_fits] at hfits
  apply Ret_fin (fn := Try.f19) Try.func19 rfl
  apply T_seq
  apply T_r F
  · (simp only [go_sem, Try.ntmps19]) <;> exact rfl
  apply K_seq
  apply T_seq
  apply T_wL F [0, 1, 2, 3, 4, 5, 6, 7, 8, 9, 10, 11, 12, 13, 14, 15, 16, 17, 18, 19] rfl
  apply W_pre [0] [1, 2, 3, 4, 5, 6, 7, 8, 9, 10, 11, 12, 13, 14, 15, 16, 17, 18, 19]
  · (simp only [go_sem, Try.ntmps19]) <;> exact rfl
  apply W_call -- call 0 of function 12
  · (simp only [go_sem, Try.ntmps19]) <;> exact rfl
  · (simp only [go_sem, Try.ntmps19]) <;> exact rfl
  · exact rfl
  · (simp only [go_sem, Try.ntmps19]) <;> exact rfl
  · (simp only [go_sem, Try.ntmps19]) <;> exact rfl
  · exact ⟨_, Try.func12, rfl, rfl⟩
  · (simp only [go_sem, Try.ntmps19]) <;> exact rfl
  · (simp only [go_sem, Try.ntmps19]) <;> exact rfl
  · exact law_short _
  apply W_pre [2] [3, 4, 5, 6, 7, 8, 9, 10, 11, 12, 13, 14, 15, 16, 17, 18, 19]
  · (simp only [go_sem, Try.ntmps19]) <;> exact rfl
  apply W_guard
  · (simp only [go_sem, Try.ntmps19]) <;> exact rfl
  · (simp only [go_sem, Try.ntmps19]) <;> exact rfl
  · intro bg0t
    have g0t := bg0t
    try simp only [CS] at g0t
    try simp only [BS] at bg0t
    try exact absurd bg0t (by decide)
    all_goals (
  apply W_pre [3] [4, 5, 6, 7, 8, 9, 10, 11, 12, 13, 14, 15, 16, 17, 18, 19]
  · (simp only [go_sem, Try.ntmps19, bg0t]) <;> exact rfl
  apply W_call -- call 1 of function 13
  · (simp only [go_sem, Try.ntmps19, bg0t]) <;> exact rfl
  · (simp only [go_sem, Try.ntmps19, bg0t]) <;> exact rfl
  · exact rfl
  · (simp only [go_sem, Try.ntmps19, bg0t]) <;> exact rfl
  · (simp only [go_sem, Try.ntmps19, bg0t]) <;> exact rfl
  · exact ⟨_, Try.func13, rfl, rfl⟩
  · (simp only [go_sem, Try.ntmps19, bg0t]) <;> exact rfl
  · (simp only [go_sem, Try.ntmps19, bg0t]) <;> exact rfl
  · exact ref_town _
  apply W_pre [5, 6] [7, 8, 9, 10, 11, 12, 13, 14, 15, 16, 17, 18, 19]
  · (simp only [go_sem, Try.ntmps19, bg0t]) <;> exact rfl
  apply W_guard
  · (simp only [go_sem, Try.ntmps19, bg0t]) <;> exact rfl
  · (simp only [go_sem, Try.ntmps19, bg0t]) <;> exact rfl
  · intro bg1t
    have g1t := bg1t
    try simp only [CS] at g1t
    try simp only [BS] at bg1t
    try exact absurd bg1t (by decide)
    all_goals (
  apply W_pre [7, 8, 9, 10, 11] [12, 13, 14, 15, 16, 17, 18, 19]
  · (simp only [go_sem, Try.ntmps19, bg0t, bg1t]) <;> exact rfl
  apply W_guard
  · (simp only [go_sem, Try.ntmps19, bg0t, bg1t]) <;> exact rfl
  · (simp only [go_sem, Try.ntmps19, bg0t, bg1t]) <;> exact rfl
  · intro bg2t
    have g2t := bg2t
    try simp only [CS] at g2t
    try simp only [BS] at bg2t
    try exact absurd bg2t (by decide)
    all_goals (
  apply W_pre [12, 13, 14, 15] [16, 17, 18, 19]
  · (simp only [go_sem, Try.ntmps19, bg0t, bg1t, bg2t]) <;> exact rfl
  apply W_run
  · (simp only [go_sem, Try.ntmps19, bg0t, bg1t, bg2t]) <;> exact rfl
  apply W_nil
  apply K_seq
  apply T_ret
  apply fin_ret
  · (simp only [go_sem, Try.ntmps19, bg0t, bg1t, bg2t, Try.f19]) <;> exact rfl
  -- leaf 0 (ret)
  simp only [go_sem, Try.ntmps19, bg0t, bg1t, bg2t, V.bool.injEq, V.int.injEq, true_and]
  grind [M.Small])
  · intro bg2f
    have g2f := bg2f
    try simp only [CS] at g2f
    try simp only [BS] at bg2f
    try exact absurd bg2f (by decide)
    all_goals (
  apply W_pre [12, 13, 14, 15] [16, 17, 18, 19]
  · (simp only [go_sem, Try.ntmps19, bg0t, bg1t, bg2f]) <;> exact rfl
  apply W_run
  · (simp only [go_sem, Try.ntmps19, bg0t, bg1t, bg2f]) <;> exact rfl
  apply W_nil
  apply K_seq
  apply T_ret
  apply fin_ret
  · (simp only [go_sem, Try.ntmps19, bg0t, bg1t, bg2f, Try.f19]) <;> exact rfl
  -- leaf 1 (ret)
  simp only [go_sem, Try.ntmps19, bg0t, bg1t, bg2f, V.bool.injEq, V.int.injEq, true_and]
  grind [M.Small]))
  · intro bg1f
    have g1f := bg1f
    try simp only [CS] at g1f
    try simp only [BS] at bg1f
    try exact absurd bg1f (by decide)
    all_goals (
  apply W_pre [7, 8, 9, 10] [11, 12, 13, 14, 15, 16, 17, 18, 19]
  · (simp only [go_sem, Try.ntmps19, bg0t, bg1f]) <;> exact rfl
  apply W_pre [11, 12, 13, 14] [15, 16, 17, 18, 19]
  · (simp only [go_sem, Try.ntmps19, bg0t, bg1f]) <;> exact rfl
  apply W_run
  · (simp only [go_sem, Try.ntmps19, bg0t, bg1f]) <;> exact rfl
  apply W_nil
  apply K_seq
  apply T_ret
  apply fin_ret
  · (simp only [go_sem, Try.ntmps19, bg0t, bg1f, Try.f19]) <;> exact rfl
  -- leaf 2 (ret)
  simp only [go_sem, Try.ntmps19, bg0t, bg1f, V.bool.injEq, V.int.injEq, true_and]
  grind [M.Small]))
  · intro bg0f
    have g0f := bg0f
    try simp only [CS] at g0f
    try simp only [BS] at bg0f
    try exact absurd bg0f (by decide)
    all_goals (
  apply W_pre [3, 4, 5, 6] [7, 8, 9, 10, 11, 12, 13, 14, 15, 16, 17, 18, 19]
  · (simp only [go_sem, Try.ntmps19, bg0f]) <;> exact rfl
  apply W_pre [7, 8, 9, 10] [11, 12, 13, 14, 15, 16, 17, 18, 19]
  · (simp only [go_sem, Try.ntmps19, bg0f]) <;> exact rfl
  apply W_pre [11, 12, 13, 14] [15, 16, 17, 18, 19]
  · (simp only [go_sem, Try.ntmps19, bg0f]) <;> exact rfl
  apply W_run
  · (simp only [go_sem, Try.ntmps19, bg0f]) <;> exact rfl
  apply W_nil
  apply K_seq
  apply T_ret
  apply fin_ret
  · (simp only [go_sem, Try.ntmps19, bg0f, Try.f19]) <;> exact rfl
  -- leaf 3 (ret)
  simp only [go_sem, Try.ntmps19, bg0f, V.bool.injEq, V.int.injEq, true_and]
  grind [M.Small])

theorem mv_in (x lo hi : Int) : Ret Try.prog 70 [.int .i64 x, .int .i64 lo, .int .i64 hi] (.bool (M.inr x lo hi)) := by
  apply Ret_fin (fn := Try.f70) Try.func70 rfl
  apply T_seq
  apply T_r F
  · (simp only [go_sem, Try.ntmps70]) <;> exact rfl
  apply K_seq
  apply T_seq
  apply T_wL F [0, 1, 2, 3, 4, 5, 6, 7, 8] rfl
  apply W_pre [0, 1, 2, 3] [4, 5, 6, 7, 8]
  · (simp only [go_sem, Try.ntmps70]) <;> exact rfl
  apply W_guard
  · (simp only [go_sem, Try.ntmps70]) <;> exact rfl
  · (simp only [go_sem, Try.ntmps70]) <;> exact rfl
  · intro bg0t
    have g0t := bg0t
    try simp only [CS] at g0t
    try simp only [BS] at bg0t
    try exact absurd bg0t (by decide)
    all_goals (
  apply W_run
  · (simp only [go_sem, Try.ntmps70, bg0t]) <;> exact rfl
  apply W_nil
  apply K_seq
  apply T_ret
  apply fin_ret
  · (simp only [go_sem, Try.ntmps70, bg0t, Try.f70]) <;> exact rfl
  -- leaf 0 (ret)
  simp only [go_sem, Try.ntmps70, bg0t, V.bool.injEq, V.int.injEq, true_and]
  grind [M.inr])
  · intro bg0f
    have g0f := bg0f
    try simp only [CS] at g0f
    try simp only [BS] at bg0f
    try exact absurd bg0f (by decide)
    all_goals (
  apply W_run
  · (simp only [go_sem, Try.ntmps70, bg0f]) <;> exact rfl
  apply W_nil
  apply K_seq
  apply T_ret
  apply fin_ret
  · (simp only [go_sem, Try.ntmps70, bg0f, Try.f70]) <;> exact rfl
  -- leaf 1 (ret)
  simp only [go_sem, Try.ntmps70, bg0f, V.bool.injEq, V.int.injEq, true_and]
  grind [M.inr])

end Go.Ab
namespace Go.Ab.M
open Go Go.RowKit
set_option linter.unusedVariables false
def idx (l : List Int) (n : Int) : Int := match pos l n with
  | some i => i
  | none => -1
theorem idx_at {l : List Int} {n : Int} {k : Nat} (h : k < l.length) (he : l[k] = n) (hb : ∀ j, j < k → l[j]? ≠ some n) : idx l n = k := by
  rw [idx, rank_go l n k h he hb]
theorem idx_no {l : List Int} {n : Int} (hb : ∀ j, j < l.length → l[j]? ≠ some n) : idx l n = -1 := by
  rw [idx, rank_no l n hb]
theorem idx_nonneg (l : List Int) (n : Int) : decide (0 ≤ idx l n) = l.contains n := by
  rw [Bool.eq_iff_iff]
  simp only [decide_eq_true_eq, List.contains_iff_mem]
  unfold idx pos
  cases h : l.findIdx? (· == n) with
  | none =>
    rw [List.findIdx?_eq_none_iff] at h
    simp only
    constructor
    · intro h'; omega
    · intro hm; have := h n hm; simp at this
  | some i =>
    rw [List.findIdx?_eq_some_iff_getElem] at h
    obtain ⟨h1, h2, _⟩ := h
    simp only [Int.natCast_nonneg, true_iff]
    have : l[i] = n := by simpa using h2
    rw [← this]; exact List.getElem_mem h1
end Go.Ab.M
namespace Go.Ab
open Go Go.RowKit
/-- A town that is looked at, with a plan. -/
def cW (t : Town) (p : List Int) : List V := [.sl 1 (rL t.walk), .int .i64 t.reach, .sl 1 (rI t.schools), .sl 1 (rB t.gone), .sl 3 (rH t.houses), .sl 2 (rP t.kin), .sl 1 (rI p)]
theorem cW_eq (t : Town) (p : List Int) : cW t p = [.sl 1 (rL t.walk), .int .i64 t.reach, .sl 1 (rI t.schools), .sl 1 (rB t.gone), .sl 3 (rH t.houses), .sl 2 (rP t.kin), .sl 1 (rI p)] := rfl
theorem cW_fits (t : Town) (p : List Int) : V.fitsL (cW t p) ↔ t.Fits ∧ p.length ≤ 9223372036854775807 := by
  have h := cT_fits t
  simp only [cT, V.fitsL, V.fits, and_true] at h
  simp only [cW, V.fitsL, V.fits, and_true, rI_fits, rI_length]
  rw [← h]
  simp only [rI_fits, rI_length, and_true, true_and, and_assoc]
end Go.Ab
namespace Go.Ab.M
def different (l : List Int) (n : Int) : Bool := (List.range l.length).all fun i => inr (at' l i) 0 (n - 1) && !shared l i
theorem different_false {l : List Int} {n : Int} {k : Nat} (h : k < l.length) (hf : inr (at' l k) 0 (n - 1) = false ∨ shared l k = true) : different l n = false := by
  unfold different
  rw [List.all_eq_false]
  exact ⟨k, List.mem_range.2 h, by rcases hf with h | h <;> simp [h]⟩
theorem different_true {l : List Int} {n : Int} (h : ∀ k, k < l.length → inr (at' l k) 0 (n - 1) = true ∧ shared l k = false) : different l n = true := by
  unfold different
  rw [List.all_eq_true]
  intro k hk
  have := h k (List.mem_range.1 hk)
  simp [this.1, this.2]
end Go.Ab.M
namespace Go.Ab
open Go Go.RowKit Go.Proofs Fac
set_option linter.unusedVariables false
set_option linter.unusedSimpArgs false
set_option maxRecDepth 4000
set_option maxHeartbeats 1000000

theorem sl_index (l : List Int) (n : Int) : Ret Try.prog 98 [.sl 1 (rI l), .int .i64 n] (.int .i64 (M.idx l n)) := by
  refine Ret.of_fits fun hfits => ?_
  simp only [V.fits, V.fitsL, V.fitsR, rI_length] at hfits
  have hl := hfits.1.1
  apply Ret_fin (fn := Try.f98) Try.func98 rfl
  apply T_seq
  apply T_r F
  · (simp only [go_sem, Try.ntmps98]) <;> exact rfl
  apply K_seq
  apply T_seq
  apply T_seq
  apply T_r F
  · (simp only [go_sem, Try.ntmps98]) <;> exact rfl
  apply K_seq
  apply T_block
  apply T_lp (α := Nat) [true, true, false, false, false, false, false, true, true, false, false, false, false, false, false, false, false, false, false] (fun k => (⟨[.sl 1 (rI l), .int .i64 n, .undef, .undef, .undef, .undef, .undef, .int .i64 (l.length : Int), .int .i64 (k : Int), .undef, .undef, .undef, .undef, .undef, .undef, .undef, .undef, .undef, .undef], []⟩ : St)) (fun k => k ≤ l.length ∧ ∀ j, j < k → l[j]? ≠ some n) (fun k => l.length - k) (0)
  · (simp only [go_sem, Try.ntmps98]) <;> exact rfl
  · simp
  · rintro k ⟨hk, hj⟩
    apply T_seq
    apply T_r F
    · (simp only [go_sem, Try.ntmps98]) <;> exact rfl
    apply K_seq
    apply T_seq
    apply T_if
    · (simp only [go_sem, Try.ntmps98]) <;> exact rfl
    · intro bh0t
      have h0t := bh0t
      try simp only [CS] at h0t
      try simp only [BS] at bh0t
      try exact absurd bh0t (by decide)
      all_goals (
  have hb : k < 9223372036854775807 := by omega
  apply T_skip
  apply K_seq
  apply T_seq
  apply T_block
  apply T_seq
  apply T_r F
  · (simp only [go_sem, Try.ntmps98, bh0t, h0t, rI_get h0t, hb]) <;> exact rfl
  apply K_seq
  apply T_seq
  apply T_r F
  · (simp only [go_sem, Try.ntmps98, bh0t, h0t, rI_get h0t, hb]) <;> exact rfl
  apply K_seq
  apply T_if
  · (simp only [go_sem, Try.ntmps98, bh0t, h0t, rI_get h0t, hb]) <;> exact rfl
  · intro bh1t
    have h1t := bh1t
    try simp only [CS] at h1t
    try simp only [BS] at bh1t
    try exact absurd bh1t (by decide)
    all_goals (
  apply T_seq
  apply T_r F
  · (simp only [go_sem, Try.ntmps98, bh0t, h0t, rI_get h0t, hb, bh1t]) <;> exact rfl
  apply K_seq
  apply T_ret
  apply K_blkR
  apply K_seqR
  apply K_lpR
  apply K_blkR
  apply K_seqR
  apply fin_ret
  · (simp only [go_sem, Try.ntmps98, bh0t, h0t, rI_get h0t, hb, bh1t, Try.f98]) <;> exact rfl
  -- leaf 0 (ret)
  simp only [go_sem, Try.ntmps98, bh0t, h0t, rI_get h0t, hb, bh1t, V.bool.injEq, V.int.injEq, true_and]
  first | rw [M.idx_at h0t h1t.symm hj] | rw [M.idx_no (fun j hj1 => hj j (by omega))])
  · intro bh1f
    have h1f := bh1f
    try simp only [CS] at h1f
    try simp only [BS] at bh1f
    try exact absurd bh1f (by decide)
    all_goals (
  apply T_skip
  apply K_blk
  apply K_seq
  apply T_r F
  · (simp only [go_sem, Try.ntmps98, bh0t, h0t, rI_get h0t, hb, bh1f]) <;> exact rfl
  refine K_lp (k + 1) ?_ ?_
  · (simp only [go_sem, Try.ntmps98, bh0t, h0t, rI_get h0t, hb, bh1f]) <;> exact rfl
  -- leaf 1 (loop0)
  grind))
    · intro bh0f
      have h0f := bh0f
      try simp only [CS] at h0f
      try simp only [BS] at bh0f
      try exact absurd bh0f (by decide)
      all_goals (
  apply T_exit
  apply K_seqE
  apply K_lpE
  apply K_blkE
  apply K_seq
  apply T_seq
  apply T_r F
  · (simp only [go_sem, Try.ntmps98, bh0f]) <;> exact rfl
  apply K_seq
  apply T_ret
  apply fin_ret
  · (simp only [go_sem, Try.ntmps98, bh0f, Try.f98]) <;> exact rfl
  -- leaf 2 (ret)
  simp only [go_sem, Try.ntmps98, bh0f, V.bool.injEq, V.int.injEq, true_and]
  first | rw [M.idx_at h0t h1t.symm hj] | rw [M.idx_no (fun j hj1 => hj j (by omega))])

theorem mv_sum (l : List Int) (hb0 : ∀ x ∈ l, -1000 ≤ x ∧ x ≤ 1000) (hb1 : l.length ≤ 1000) : Ret Try.prog 57 [.sl 1 (rI l)] (.int .i64 (M.sum l)) := by
  apply Ret_fin (fn := Try.f57) Try.func57 rfl
  apply T_seq
  apply T_r F
  · (simp only [go_sem, Try.ntmps57]) <;> exact rfl
  apply K_seq
  apply T_seq
  apply T_r F
  · (simp only [go_sem, Try.ntmps57]) <;> exact rfl
  apply K_seq
  apply T_seq
  apply T_seq
  apply T_r F
  · (simp only [go_sem, Try.ntmps57]) <;> exact rfl
  apply K_seq
  apply T_block
  apply T_lp (α := Nat) [false, false, false, true, false, false, true, true, true, false, false, false, false, false, false, false, false] (fun k => (⟨[.undef, .undef, .undef, .int .i64 (M.sum (l.take k)), .undef, .undef, .sl 1 (rI l), .int .i64 (l.length : Int), .int .i64 (k : Int), .undef, .undef, .undef, .undef, .undef, .undef, .undef, .undef], []⟩ : St)) (fun k => k ≤ l.length) (fun k => l.length - k) (0)
  · (simp only [go_sem, Try.ntmps57]) <;> exact rfl
  · omega
  · rintro k hk
    apply T_seq
    apply T_r F
    · (simp only [go_sem, Try.ntmps57]) <;> exact rfl
    apply K_seq
    apply T_seq
    apply T_if
    · (simp only [go_sem, Try.ntmps57]) <;> exact rfl
    · intro bh0t
      have h0t := bh0t
      try simp only [CS] at h0t
      try simp only [BS] at bh0t
      try exact absurd bh0t (by decide)
      all_goals (
  have hb : k < 9223372036854775807 := by omega
  have hs : IntKind.i64.wrap (M.sum (l.take k) + l[k]) = M.sum (l.take (k + 1)) := by
    rw [M.sum_take h0t]
    have h1 := M.sum_bound (l := l.take k) (fun x hx => hb0 x (List.mem_of_mem_take hx))
    have h2 := hb0 l[k] (List.getElem_mem h0t)
    have h3 : (l.take k).length ≤ 1000 := by simp; omega
    exact wrap_id (by omega) (by omega)
  apply T_skip
  apply K_seq
  apply T_seq
  apply T_block
  apply T_seq
  apply T_r F
  · (simp only [go_sem, Try.ntmps57, bh0t, h0t, rI_get h0t, hb, hs]) <;> exact rfl
  apply K_seq
  apply T_r F
  · (simp only [go_sem, Try.ntmps57, bh0t, h0t, rI_get h0t, hb, hs]) <;> exact rfl
  apply K_blk
  apply K_seq
  apply T_r F
  · (simp only [go_sem, Try.ntmps57, bh0t, h0t, rI_get h0t, hb, hs]) <;> exact rfl
  refine K_lp (k + 1) ?_ ?_
  · (simp only [go_sem, Try.ntmps57, bh0t, h0t, rI_get h0t, hb, hs]) <;> exact rfl
  -- leaf 0 (loop0)
  omega)
    · intro bh0f
      have h0f := bh0f
      try simp only [CS] at h0f
      try simp only [BS] at bh0f
      try exact absurd bh0f (by decide)
      all_goals (
  apply T_exit
  apply K_seqE
  apply K_lpE
  apply K_blkE
  apply K_seq
  apply T_seq
  apply T_r F
  · (simp only [go_sem, Try.ntmps57, bh0f]) <;> exact rfl
  apply K_seq
  apply T_ret
  apply fin_ret
  · (simp only [go_sem, Try.ntmps57, bh0f, Try.f57]) <;> exact rfl
  -- leaf 1 (ret)
  simp only [go_sem, Try.ntmps57, bh0f, V.bool.injEq, V.int.injEq, true_and]
  rw [List.take_of_length_le (by omega)])

theorem sl_contains (l : List Int) (n : Int) : Ret Try.prog 86 [.sl 1 (rI l), .int .i64 n] (.bool (l.contains n)) := by
  apply Ret_fin (fn := Try.f86) Try.func86 rfl
  apply T_seq
  apply T_r F
  · (simp only [go_sem, Try.ntmps86]) <;> exact rfl
  apply K_seq
  apply T_seq
  apply T_wL F [0, 1, 2, 3, 4] rfl
  apply W_pre [0, 1] [2, 3, 4]
  · (simp only [go_sem, Try.ntmps86]) <;> exact rfl
  apply W_call -- call 0 of function 98
  · (simp only [go_sem, Try.ntmps86]) <;> exact rfl
  · (simp only [go_sem, Try.ntmps86]) <;> exact rfl
  · exact rfl
  · (simp only [go_sem, Try.ntmps86]) <;> exact rfl
  · (simp only [go_sem, Try.ntmps86]) <;> exact rfl
  · exact ⟨_, Try.func98, rfl, rfl⟩
  · (simp only [go_sem, Try.ntmps86]) <;> exact rfl
  · (simp only [go_sem, Try.ntmps86]) <;> exact rfl
  · exact sl_index _ _
  apply W_run
  · (simp only [go_sem, Try.ntmps86]) <;> exact rfl
  apply W_nil
  apply K_seq
  apply T_ret
  apply fin_ret
  · (simp only [go_sem, Try.ntmps86, Try.f86]) <;> exact rfl
  -- leaf 0 (ret)
  simp only [go_sem, Try.ntmps86, V.bool.injEq, V.int.injEq, true_and]
  rw [← M.idx_nonneg]

theorem mv_near (t : Town) (p : List Int) (a b : Int) (h1 : 0 ≤ a) (h2 : a.toNat < t.walk.length) (h3 : 0 ≤ b) (h4 : b.toNat < (t.walk[a.toNat]).length) : Ret Try.prog 96 [.agg (cW t p), .int .i64 a, .int .i64 b] (.bool (M.near t a b)) := by
  apply Ret_fin (fn := Try.f96) Try.func96 rfl
  apply T_seq
  apply T_r F
  · (simp only [go_sem, Try.ntmps96, cW_eq, h1, h2, h3, h4, rL_get h2, rI_get h4]) <;> exact rfl
  apply K_seq
  apply T_seq
  apply T_qL F [0, 1, 2, 3, 4, 5, 6, 7, 8, 9, 10, 11, 12, 13] rfl (by kernel_rfl)
  apply Q_pre [0, 1, 2, 3] [4, 5, 6, 7, 8, 9, 10, 11, 12, 13]
  · (simp only [go_sem, Try.ntmps96, cW_eq, h1, h2, h3, h4, rL_get h2, rI_get h4]) <;> exact rfl
  apply Q_pre [4, 5, 6, 7] [8, 9, 10, 11, 12, 13]
  · (simp only [go_sem, Try.ntmps96, cW_eq, h1, h2, h3, h4, rL_get h2, rI_get h4]) <;> exact rfl
  apply Q_run
  · (simp only [go_sem, Try.ntmps96, cW_eq, h1, h2, h3, h4, rL_get h2, rI_get h4]) <;> exact rfl
  apply Q_nil
  apply K_seq
  apply T_ret
  apply fin_ret
  · (simp only [go_sem, Try.ntmps96, cW_eq, h1, h2, h3, h4, rL_get h2, rI_get h4, Try.f96]) <;> exact rfl
  -- leaf 0 (ret)
  simp only [go_sem, Try.ntmps96, cW_eq, h1, h2, h3, h4, rL_get h2, rI_get h4, V.bool.injEq, V.int.injEq, true_and]
  simp [M.near, M.dist_get h2 h4]

theorem mv_rank (t : Town) (p : List Int) (h : Nat) (n : Int) (hh : h < t.houses.length) : Ret Try.prog 82 [.agg (cW t p), .int .i64 (h : Int), .int .i64 n] (.int .i64 (M.rank t h n)) := by
  have hr : M.rank t h n = if 0 ≤ M.idx t.houses[h].wishes n then M.idx t.houses[h].wishes n else if t.houses[h].lot = n then (t.houses[h].wishes.length : Int) else -1 := by
    unfold M.rank M.idx
    rw [List.getElem?_eq_getElem hh]
    simp only
    cases M.pos t.houses[h].wishes n <;> simp
  apply Ret_fin (fn := Try.f82) Try.func82 rfl
  apply T_seq
  apply T_r F
  · (simp only [go_sem, Try.ntmps82, cW_eq, hh, rH_get hh]) <;> exact rfl
  apply K_seq
  apply T_seq
  apply T_wL F [0, 1, 2, 3, 4, 5, 6, 7] rfl
  apply W_pre [0, 1, 2, 3] [4, 5, 6, 7]
  · (simp only [go_sem, Try.ntmps82, cW_eq, hh, rH_get hh]) <;> exact rfl
  apply W_run
  · (simp only [go_sem, Try.ntmps82, cW_eq, hh, rH_get hh]) <;> exact rfl
  apply W_nil
  apply K_seq
  apply T_seq
  apply T_seq
  apply T_wL F [0, 1, 2, 3, 4] rfl
  apply W_pre [0, 1, 2] [3, 4]
  · (simp only [go_sem, Try.ntmps82, cW_eq, hh, rH_get hh]) <;> exact rfl
  apply W_call -- call 0 of function 98
  · (simp only [go_sem, Try.ntmps82, cW_eq, hh, rH_get hh]) <;> exact rfl
  · (simp only [go_sem, Try.ntmps82, cW_eq, hh, rH_get hh]) <;> exact rfl
  · exact rfl
  · (simp only [go_sem, Try.ntmps82, cW_eq, hh, rH_get hh]) <;> exact rfl
  · (simp only [go_sem, Try.ntmps82, cW_eq, hh, rH_get hh]) <;> exact rfl
  · exact ⟨_, Try.func98, rfl, rfl⟩
  · (simp only [go_sem, Try.ntmps82, cW_eq, hh, rH_get hh]) <;> exact rfl
  · (simp only [go_sem, Try.ntmps82, cW_eq, hh, rH_get hh]) <;> exact rfl
  · exact sl_index _ _
  apply W_run
  · (simp only [go_sem, Try.ntmps82, cW_eq, hh, rH_get hh]) <;> exact rfl
  apply W_nil
  apply K_seq
  apply T_seq
  apply T_r F
  · (simp only [go_sem, Try.ntmps82, cW_eq, hh, rH_get hh]) <;> exact rfl
  apply K_seq
  apply T_if
  · (simp only [go_sem, Try.ntmps82, cW_eq, hh, rH_get hh]) <;> exact rfl
  · intro bh0t
    have h0t := bh0t
    try simp only [CS] at h0t
    try simp only [BS] at bh0t
    try exact absurd bh0t (by decide)
    all_goals (
  apply T_seq
  apply T_r F
  · (simp only [go_sem, Try.ntmps82, cW_eq, hh, rH_get hh, bh0t]) <;> exact rfl
  apply K_seq
  apply T_ret
  apply K_seqR
  apply fin_ret
  · (simp only [go_sem, Try.ntmps82, cW_eq, hh, rH_get hh, bh0t, Try.f82]) <;> exact rfl
  -- leaf 0 (ret)
  simp only [go_sem, Try.ntmps82, cW_eq, hh, rH_get hh, bh0t, V.bool.injEq, V.int.injEq, true_and]
  grind)
  · intro bh0f
    have h0f := bh0f
    try simp only [CS] at h0f
    try simp only [BS] at bh0f
    try exact absurd bh0f (by decide)
    all_goals (
  apply T_skip
  apply K_seq
  apply T_seq
  apply T_seq
  apply T_r F
  · (simp only [go_sem, Try.ntmps82, cW_eq, hh, rH_get hh, bh0f]) <;> exact rfl
  apply K_seq
  apply T_if
  · (simp only [go_sem, Try.ntmps82, cW_eq, hh, rH_get hh, bh0f]) <;> exact rfl
  · intro bh1t
    have h1t := bh1t
    try simp only [CS] at h1t
    try simp only [BS] at bh1t
    try exact absurd bh1t (by decide)
    all_goals (
  apply T_seq
  apply T_r F
  · (simp only [go_sem, Try.ntmps82, cW_eq, hh, rH_get hh, bh0f, bh1t]) <;> exact rfl
  apply K_seq
  apply T_ret
  apply K_seqR
  apply fin_ret
  · (simp only [go_sem, Try.ntmps82, cW_eq, hh, rH_get hh, bh0f, bh1t, Try.f82]) <;> exact rfl
  -- leaf 1 (ret)
  simp only [go_sem, Try.ntmps82, cW_eq, hh, rH_get hh, bh0f, bh1t, V.bool.injEq, V.int.injEq, true_and]
  grind)
  · intro bh1f
    have h1f := bh1f
    try simp only [CS] at h1f
    try simp only [BS] at bh1f
    try exact absurd bh1f (by decide)
    all_goals (
  apply T_skip
  apply K_seq
  apply T_seq
  apply T_r F
  · (simp only [go_sem, Try.ntmps82, cW_eq, hh, rH_get hh, bh0f, bh1f]) <;> exact rfl
  apply K_seq
  apply T_ret
  apply fin_ret
  · (simp only [go_sem, Try.ntmps82, cW_eq, hh, rH_get hh, bh0f, bh1f, Try.f82]) <;> exact rfl
  -- leaf 2 (ret)
  simp only [go_sem, Try.ntmps82, cW_eq, hh, rH_get hh, bh0f, bh1f, V.bool.injEq, V.int.injEq, true_and]
  grind))

theorem mv_different (l : List Int) (n : Int) (hn : 0 ≤ n ∧ n ≤ 9223372036854775807) : Ret Try.prog 71 [.sl 1 (rI l), .int .i64 n] (.bool (M.different l n)) := by
  refine Ret.of_fits fun hfits => ?_
  simp only [V.fits, V.fitsL, V.fitsR, rI_length] at hfits
  have hl := hfits.1.1
  have hwn : IntKind.i64.wrap (n - 1) = n - 1 := wrap_id (by omega) (by omega)
  apply Ret_fin (fn := Try.f71) Try.func71 rfl
  apply T_seq
  apply T_r F
  · (simp only [go_sem, Try.ntmps71, hwn]) <;> exact rfl
  apply K_seq
  apply T_seq
  apply T_seq
  apply T_r F
  · (simp only [go_sem, Try.ntmps71, hwn]) <;> exact rfl
  apply K_seq
  apply T_block
  apply T_lp (α := Nat) [true, true, false, false, false, false, false, true, true, true, false, false, false, false, false, false, false, false, false, false, false, false, false, false, false, false, false] (fun k => (⟨[.sl 1 (rI l), .int .i64 n, .undef, .undef, .undef, .undef, .undef, .sl 1 (rI l), .int .i64 (l.length : Int), .int .i64 (k : Int), .undef, .undef, .undef, .undef, .undef, .undef, .undef, .undef, .undef, .undef, .undef, .undef, .undef, .undef, .undef, .undef, .undef], []⟩ : St)) (fun k => k ≤ l.length ∧ ∀ j, j < k → M.inr (M.at' l j) 0 (n - 1) = true ∧ M.shared l j = false) (fun k => l.length - k) (0)
  · (simp only [go_sem, Try.ntmps71, hwn]) <;> exact rfl
  · simp
  · rintro k ⟨hk, hj⟩
    apply T_seq
    apply T_r F
    · (simp only [go_sem, Try.ntmps71, hwn]) <;> exact rfl
    apply K_seq
    apply T_seq
    apply T_if
    · (simp only [go_sem, Try.ntmps71, hwn]) <;> exact rfl
    · intro bh0t
      have h0t := bh0t
      try simp only [CS] at h0t
      try simp only [BS] at bh0t
      try exact absurd bh0t (by decide)
      all_goals (
  have hb : k < 9223372036854775807 := by omega
  have hkl : k ≤ l.length := by omega
  have hat := M.at_get h0t
  have hsh : M.shared l k = (l.take k).contains l[k] := by rw [M.shared, hat]
  apply T_skip
  apply K_seq
  apply T_seq
  apply T_block
  apply T_seq
  apply T_r F
  · (simp only [go_sem, Try.ntmps71, hwn, bh0t, h0t, rI_get h0t, hb, hkl]) <;> exact rfl
  apply K_seq
  apply T_seq
  apply T_wL F [0, 1, 2, 3, 4, 5, 6, 7, 8, 9, 10, 11] rfl
  apply W_pre [0, 1, 2] [3, 4, 5, 6, 7, 8, 9, 10, 11]
  · (simp only [go_sem, Try.ntmps71, hwn, bh0t, h0t, rI_get h0t, hb, hkl]) <;> exact rfl
  apply W_call -- call 0 of function 70
  · (simp only [go_sem, Try.ntmps71, hwn, bh0t, h0t, rI_get h0t, hb, hkl]) <;> exact rfl
  · (simp only [go_sem, Try.ntmps71, hwn, bh0t, h0t, rI_get h0t, hb, hkl]) <;> exact rfl
  · exact rfl
  · (simp only [go_sem, Try.ntmps71, hwn, bh0t, h0t, rI_get h0t, hb, hkl]) <;> exact rfl
  · (simp only [go_sem, Try.ntmps71, hwn, bh0t, h0t, rI_get h0t, hb, hkl]) <;> exact rfl
  · exact ⟨_, Try.func70, rfl, rfl⟩
  · (simp only [go_sem, Try.ntmps71, hwn, bh0t, h0t, rI_get h0t, hb, hkl]) <;> exact rfl
  · (simp only [go_sem, Try.ntmps71, hwn, bh0t, h0t, rI_get h0t, hb, hkl]) <;> exact rfl
  · exact mv_in _ _ _
  apply W_pre [4, 5] [6, 7, 8, 9, 10, 11]
  · (simp only [go_sem, Try.ntmps71, hwn, bh0t, h0t, rI_get h0t, hb, hkl]) <;> exact rfl
  apply W_guard
  · (simp only [go_sem, Try.ntmps71, hwn, bh0t, h0t, rI_get h0t, hb, hkl]) <;> exact rfl
  · (simp only [go_sem, Try.ntmps71, hwn, bh0t, h0t, rI_get h0t, hb, hkl]) <;> exact rfl
  · intro bg0t
    have g0t := bg0t
    try simp only [CS] at g0t
    try simp only [BS] at bg0t
    try exact absurd bg0t (by decide)
    all_goals (
  apply W_pre [6, 7, 8, 9] [10, 11]
  · (simp only [go_sem, Try.ntmps71, hwn, bh0t, h0t, rI_get h0t, hb, hkl, bg0t]) <;> exact rfl
  apply W_call -- call 1 of function 86
  · (simp only [go_sem, Try.ntmps71, hwn, bh0t, h0t, rI_get h0t, hb, hkl, bg0t]) <;> exact rfl
  · (simp only [go_sem, Try.ntmps71, hwn, bh0t, h0t, rI_get h0t, hb, hkl, bg0t]) <;> exact rfl
  · exact rfl
  · (simp only [go_sem, Try.ntmps71, hwn, bh0t, h0t, rI_get h0t, hb, hkl, bg0t]) <;> exact rfl
  · (simp only [go_sem, Try.ntmps71, hwn, bh0t, h0t, rI_get h0t, hb, hkl, bg0t]) <;> exact rfl
  · exact ⟨_, Try.func86, rfl, rfl⟩
  · (simp only [go_sem, Try.ntmps71, hwn, bh0t, h0t, rI_get h0t, hb, hkl, bg0t]) <;> exact rfl
  · (simp only [go_sem, Try.ntmps71, hwn, bh0t, h0t, rI_get h0t, hb, hkl, bg0t]) <;> exact rfl
  · exact sl_contains _ _
  apply W_run
  · (simp only [go_sem, Try.ntmps71, hwn, bh0t, h0t, rI_get h0t, hb, hkl, bg0t]) <;> exact rfl
  apply W_nil
  apply K_seq
  apply T_if
  · (simp only [go_sem, Try.ntmps71, hwn, bh0t, h0t, rI_get h0t, hb, hkl, bg0t]) <;> exact rfl
  · intro bh1t
    have h1t := bh1t
    try simp only [CS] at h1t
    try simp only [BS] at bh1t
    try exact absurd bh1t (by decide)
    all_goals (
  apply T_seq
  apply T_r F
  · (simp only [go_sem, Try.ntmps71, hwn, bh0t, h0t, rI_get h0t, hb, hkl, bg0t, bh1t]) <;> exact rfl
  apply K_seq
  apply T_ret
  apply K_blkR
  apply K_seqR
  apply K_lpR
  apply K_blkR
  apply K_seqR
  apply fin_ret
  · (simp only [go_sem, Try.ntmps71, hwn, bh0t, h0t, rI_get h0t, hb, hkl, bg0t, bh1t, Try.f71]) <;> exact rfl
  -- leaf 0 (ret)
  simp only [go_sem, Try.ntmps71, hwn, bh0t, h0t, rI_get h0t, hb, hkl, bg0t, bh1t, V.bool.injEq, V.int.injEq, true_and]
  grind [M.different_false, M.different_true])
  · intro bh1f
    have h1f := bh1f
    try simp only [CS] at h1f
    try simp only [BS] at bh1f
    try exact absurd bh1f (by decide)
    all_goals (
  apply T_skip
  apply K_blk
  apply K_seq
  apply T_r F
  · (simp only [go_sem, Try.ntmps71, hwn, bh0t, h0t, rI_get h0t, hb, hkl, bg0t, bh1f]) <;> exact rfl
  refine K_lp (k + 1) ?_ ?_
  · (simp only [go_sem, Try.ntmps71, hwn, bh0t, h0t, rI_get h0t, hb, hkl, bg0t, bh1f]) <;> exact rfl
  -- leaf 1 (loop0)
  grind))
  · intro bg0f
    have g0f := bg0f
    try simp only [CS] at g0f
    try simp only [BS] at bg0f
    try exact absurd bg0f (by decide)
    all_goals (
  apply W_run
  · (simp only [go_sem, Try.ntmps71, hwn, bh0t, h0t, rI_get h0t, hb, hkl, bg0f]) <;> exact rfl
  apply W_nil
  apply K_seq
  apply T_if
  · (simp only [go_sem, Try.ntmps71, hwn, bh0t, h0t, rI_get h0t, hb, hkl, bg0f]) <;> exact rfl
  · intro bh2t
    have h2t := bh2t
    try simp only [CS] at h2t
    try simp only [BS] at bh2t
    try exact absurd bh2t (by decide)
    all_goals (
  apply T_seq
  apply T_r F
  · (simp only [go_sem, Try.ntmps71, hwn, bh0t, h0t, rI_get h0t, hb, hkl, bg0f, bh2t]) <;> exact rfl
  apply K_seq
  apply T_ret
  apply K_blkR
  apply K_seqR
  apply K_lpR
  apply K_blkR
  apply K_seqR
  apply fin_ret
  · (simp only [go_sem, Try.ntmps71, hwn, bh0t, h0t, rI_get h0t, hb, hkl, bg0f, bh2t, Try.f71]) <;> exact rfl
  -- leaf 2 (ret)
  simp only [go_sem, Try.ntmps71, hwn, bh0t, h0t, rI_get h0t, hb, hkl, bg0f, bh2t, V.bool.injEq, V.int.injEq, true_and]
  grind [M.different_false, M.different_true])
  · intro bh2f
    exact absurd bh2f (by simp)))
    · intro bh0f
      have h0f := bh0f
      try simp only [CS] at h0f
      try simp only [BS] at bh0f
      try exact absurd bh0f (by decide)
      all_goals (
  apply T_exit
  apply K_seqE
  apply K_lpE
  apply K_blkE
  apply K_seq
  apply T_seq
  apply T_r F
  · (simp only [go_sem, Try.ntmps71, hwn, bh0f]) <;> exact rfl
  apply K_seq
  apply T_ret
  apply fin_ret
  · (simp only [go_sem, Try.ntmps71, hwn, bh0f, Try.f71]) <;> exact rfl
  -- leaf 3 (ret)
  simp only [go_sem, Try.ntmps71, hwn, bh0f, V.bool.injEq, V.int.injEq, true_and]
  grind [M.different_false, M.different_true])

theorem mv_ranks (t : Town) (p : List Int) (hp : p.length ≤ t.houses.length) (hh : p.length ≤ 1000) : Ret Try.prog 50 [.agg (cW t p)] (.sl 1 (rI (M.ranks t p))) := by
  apply Ret_fin (fn := Try.f50) Try.func50 rfl
  apply T_seq
  apply T_r F
  · (simp only [go_sem, Try.ntmps50, cW_eq]) <;> exact rfl
  apply K_seq
  apply T_seq
  apply T_r F
  · (simp only [go_sem, Try.ntmps50, cW_eq]) <;> exact rfl
  apply K_seq
  apply T_seq
  apply T_seq
  apply T_r F
  · (simp only [go_sem, Try.ntmps50, cW_eq]) <;> exact rfl
  apply K_seq
  apply T_block
  apply T_ghost (d := 3) (T := 3) (sz := 1)
  · (simp only [go_sem, Try.ntmps50, cW_eq]) <;> exact rfl
  apply T_lp (α := Nat) [false, true, false, true, false, false, false, true, true, true, false, false, false, false, false, false, false, false, false, false, false, false, false] (fun k => (⟨[.undef, .ptr 0 0, .undef, .arr 1 k, .undef, .undef, .undef, .sl 1 (rI p), .int .i64 (p.length : Int), .int .i64 (k : Int), .undef, .undef, .undef, .undef, .undef, .undef, .undef, .undef, .undef, .undef, .undef, .undef, .undef], [.box 69 (cW t p), .arr 3 1 (rI ((M.ranks t p).take k)) false]⟩ : St)) (fun k => k ≤ p.length) (fun k => p.length - k) (0)
  · (simp only [go_sem, Try.ntmps50, cW_eq]) <;> exact rfl
  · omega
  · rintro k hk
    have hlen : ((M.ranks t p).take k).length = k := by simp [M.ranks_length]; omega
    apply T_seq
    apply T_r F
    · (simp only [go_sem, Try.ntmps50, cW_eq, hlen]) <;> exact rfl
    apply K_seq
    apply T_seq
    apply T_if
    · (simp only [go_sem, Try.ntmps50, cW_eq, hlen]) <;> exact rfl
    · intro bh0t
      have h0t := bh0t
      try simp only [CS] at h0t
      try simp only [BS] at bh0t
      try exact absurd bh0t (by decide)
      all_goals (
  have hb : k < 9223372036854775807 := by omega
  have hcap : (k + 1) * 8 ≤ 140737488355328 := by omega
  have hr := M.ranks_step t p h0t
  apply T_skip
  apply K_seq
  apply T_seq
  apply T_block
  apply T_seq
  apply T_r F
  · (simp only [go_sem, Try.ntmps50, cW_eq, hlen, bh0t, h0t, rI_get h0t, hb, hr, hcap]) <;> exact rfl
  apply K_seq
  apply T_wL F [0, 1, 2, 3, 4, 5, 6, 7] rfl
  apply W_pre [0, 1, 2, 3] [4, 5, 6, 7]
  · (simp only [go_sem, Try.ntmps50, cW_eq, hlen, bh0t, h0t, rI_get h0t, hb, hr, hcap]) <;> exact rfl
  apply W_call -- call 0 of function 82
  · (simp only [go_sem, Try.ntmps50, cW_eq, hlen, bh0t, h0t, rI_get h0t, hb, hr, hcap]) <;> exact rfl
  · (simp only [go_sem, Try.ntmps50, cW_eq, hlen, bh0t, h0t, rI_get h0t, hb, hr, hcap]) <;> exact rfl
  · exact rfl
  · (simp only [go_sem, Try.ntmps50, cW_eq, hlen, bh0t, h0t, rI_get h0t, hb, hr, hcap]) <;> exact rfl
  · (simp only [go_sem, Try.ntmps50, cW_eq, hlen, bh0t, h0t, rI_get h0t, hb, hr, hcap]) <;> exact rfl
  · exact ⟨_, Try.func82, rfl, rfl⟩
  · (simp only [go_sem, Try.ntmps50, cW_eq, hlen, bh0t, h0t, rI_get h0t, hb, hr, hcap]) <;> exact rfl
  · (simp only [go_sem, Try.ntmps50, cW_eq, hlen, bh0t, h0t, rI_get h0t, hb, hr, hcap]) <;> exact rfl
  · exact mv_rank _ _ _ _ (by omega)
  apply W_run
  · (simp only [go_sem, Try.ntmps50, cW_eq, hlen, bh0t, h0t, rI_get h0t, hb, hr, hcap]) <;> exact rfl
  apply W_nil
  apply K_blk
  apply K_seq
  apply T_r F
  · (simp only [go_sem, Try.ntmps50, cW_eq, hlen, bh0t, h0t, rI_get h0t, hb, hr, hcap]) <;> exact rfl
  refine K_lp (k + 1) ?_ ?_
  · (simp only [go_sem, Try.ntmps50, cW_eq, hlen, bh0t, h0t, rI_get h0t, hb, hr, hcap]) <;> exact rfl
  -- leaf 0 (loop0)
  grind)
    · intro bh0f
      have h0f := bh0f
      try simp only [CS] at h0f
      try simp only [BS] at bh0f
      try exact absurd bh0f (by decide)
      all_goals (
  apply T_exit
  apply K_seqE
  apply K_lpE
  apply K_blkE
  apply K_seq
  apply T_seq
  apply T_r F
  · (simp only [go_sem, Try.ntmps50, cW_eq, hlen, bh0f]) <;> exact rfl
  apply K_seq
  apply T_ret
  apply fin_ret
  · (simp only [go_sem, Try.ntmps50, cW_eq, hlen, bh0f, Try.f50]) <;> exact rfl
  -- leaf 1 (ret)
  simp only [go_sem, Try.ntmps50, cW_eq, hlen, bh0f, V.bool.injEq, V.int.injEq, true_and]
  rw [M.ranks_all t p (by omega)])

end Go.Ab
namespace Go.Ab
open Go Go.RowKit Go.Proofs Fac
set_option linter.unusedVariables false
set_option linter.unusedSimpArgs false
set_option maxRecDepth 4000
set_option maxHeartbeats 1000000

theorem mv_houses (t : Town) (p : List Int) (h : List AObj) (g : FuncId) (ca cb : List V) (bb : Nat → Bool) (hc : Closed h) (hl : p.length ≤ 9223372036854775807) (hg : ∃ fn, Try.prog.funcs[g]? = some fn ∧ fn.body.isSome = true ∧ (fn.name == "runtime.NumGoroutine") = false)
  (hcall : ∀ (k : Nat) (hk : k < p.length), RetS Try.prog g (ca ++ [.int .i64 (k : Int), .int .i64 p[k]] ++ cb) (h ++ [.box 69 (cW t p)]) (.bool (bb k)) (h ++ [.box 69 (cW t p)])) : RetS Try.prog 90 [.agg (cW t p), .fn g ca cb] h (.int .i64 (match M.first p.length bb with | some i => (i : Int) | none => -1)) h := by
  apply RetS_fin (fn := Try.f90) Try.func90 rfl (by cases M.first p.length bb <;> simp [V.all]) hc
  apply T_seq
  apply T_r F
  · (simp only [go_sem, Try.ntmps90, cW_eq, heap_new, heap_new1, heap_len1, heap_app, heap_take, List.singleton_append]) <;> exact rfl
  apply K_seq
  apply T_seq
  apply T_seq
  apply T_r F
  · (simp only [go_sem, Try.ntmps90, cW_eq, heap_new, heap_new1, heap_len1, heap_app, heap_take, List.singleton_append]) <;> exact rfl
  apply K_seq
  apply T_block
  apply T_lp (α := Nat) [false, true, false, false, false, false, false, false, true, true, true, false, false, false, false, false, false, false, false, false, false] (fun k => (⟨[.undef, .fn g ca cb, .undef, .undef, .undef, .undef, .undef, .undef, .sl 1 (rI p), .int .i64 (p.length : Int), .int .i64 (k : Int), .undef, .undef, .undef, .undef, .undef, .undef, .undef, .undef, .undef, .undef], h ++ [.box 69 (cW t p)]⟩ : St)) (fun k => k ≤ p.length ∧ ∀ j, j < k → bb j = false) (fun k => p.length - k) (0)
  · (simp only [go_sem, Try.ntmps90, cW_eq, heap_new, heap_new1, heap_len1, heap_app, heap_take, List.singleton_append]) <;> exact rfl
  · simp
  · rintro k ⟨hk, hj⟩
    apply T_seq
    apply T_r F
    · (simp only [go_sem, Try.ntmps90, cW_eq, heap_new, heap_new1, heap_len1, heap_app, heap_take, List.singleton_append]) <;> exact rfl
    apply K_seq
    apply T_seq
    apply T_if
    · (simp only [go_sem, Try.ntmps90, cW_eq, heap_new, heap_new1, heap_len1, heap_app, heap_take, List.singleton_append]) <;> exact rfl
    · intro bh0t
      have h0t := bh0t
      try simp only [CS] at h0t
      try simp only [BS] at bh0t
      try exact absurd bh0t (by decide)
      all_goals (
  have hb : k < 9223372036854775807 := by omega
  apply T_skip
  apply K_seq
  apply T_seq
  apply T_block
  apply T_seq
  apply T_r F
  · (simp only [go_sem, Try.ntmps90, cW_eq, heap_new, heap_new1, heap_len1, heap_app, heap_take, List.singleton_append, bh0t, h0t, rI_get h0t, hb]) <;> exact rfl
  apply K_seq
  apply T_seq
  apply T_wL F [0, 1, 2, 3] rfl
  apply W_pre [0, 1, 2] [3]
  · (simp only [go_sem, Try.ntmps90, cW_eq, heap_new, heap_new1, heap_len1, heap_app, heap_take, List.singleton_append, bh0t, h0t, rI_get h0t, hb]) <;> exact rfl
  apply W_callS -- call 0
  · (simp only [go_sem, Try.ntmps90, cW_eq, heap_new, heap_new1, heap_len1, heap_app, heap_take, List.singleton_append, bh0t, h0t, rI_get h0t, hb]) <;> exact rfl
  · (simp only [go_sem, Try.ntmps90, cW_eq, heap_new, heap_new1, heap_len1, heap_app, heap_take, List.singleton_append, bh0t, h0t, rI_get h0t, hb]) <;> exact rfl
  · exact rfl
  · (simp only [go_sem, Try.ntmps90, cW_eq, heap_new, heap_new1, heap_len1, heap_app, heap_take, List.singleton_append, bh0t, h0t, rI_get h0t, hb]) <;> exact rfl
  · (simp only [go_sem, Try.ntmps90, cW_eq, heap_new, heap_new1, heap_len1, heap_app, heap_take, List.singleton_append, bh0t, h0t, rI_get h0t, hb]) <;> exact rfl
  · exact hg
  · exact hcall k h0t
  apply W_run
  · (simp only [go_sem, Try.ntmps90, cW_eq, heap_new, heap_new1, heap_len1, heap_app, heap_take, List.singleton_append, bh0t, h0t, rI_get h0t, hb]) <;> exact rfl
  apply W_nil
  apply K_seq
  apply T_if
  · (simp only [go_sem, Try.ntmps90, cW_eq, heap_new, heap_new1, heap_len1, heap_app, heap_take, List.singleton_append, bh0t, h0t, rI_get h0t, hb]) <;> exact rfl
  · intro bh1t
    have h1t := bh1t
    try simp only [CS] at h1t
    try simp only [BS] at bh1t
    try exact absurd bh1t (by decide)
    all_goals (
  apply T_seq
  apply T_r F
  · (simp only [go_sem, Try.ntmps90, cW_eq, heap_new, heap_new1, heap_len1, heap_app, heap_take, List.singleton_append, bh0t, h0t, rI_get h0t, hb, bh1t]) <;> exact rfl
  apply K_seq
  apply T_ret
  apply K_blkR
  apply K_seqR
  apply K_lpR
  apply K_blkR
  apply K_seqR
  apply finS_ret
  · (simp only [go_sem, Try.ntmps90, cW_eq, heap_new, heap_new1, heap_len1, heap_app, heap_take, List.singleton_append, bh0t, h0t, rI_get h0t, hb, bh1t, Try.f90]) <;> exact rfl
  · simp
  · simp
  -- leaf 0 (ret)
  simp only [go_sem, Try.ntmps90, cW_eq, heap_new, heap_new1, heap_len1, heap_app, heap_take, List.singleton_append, bh0t, h0t, rI_get h0t, hb, bh1t, V.bool.injEq, V.int.injEq, true_and]
  first | rw [M.first_some h0t bh1t hj] | rw [M.first_none (fun j hj1 => hj j (by omega))])
  · intro bh1f
    have h1f := bh1f
    try simp only [CS] at h1f
    try simp only [BS] at bh1f
    try exact absurd bh1f (by decide)
    all_goals (
  apply T_skip
  apply K_blk
  apply K_seq
  apply T_r F
  · (simp only [go_sem, Try.ntmps90, cW_eq, heap_new, heap_new1, heap_len1, heap_app, heap_take, List.singleton_append, bh0t, h0t, rI_get h0t, hb, bh1f]) <;> exact rfl
  refine K_lp (k + 1) ?_ ?_
  · (simp only [go_sem, Try.ntmps90, cW_eq, heap_new, heap_new1, heap_len1, heap_app, heap_take, List.singleton_append, bh0t, h0t, rI_get h0t, hb, bh1f]) <;> exact rfl
  -- leaf 1 (loop0)
  grind))
    · intro bh0f
      have h0f := bh0f
      try simp only [CS] at h0f
      try simp only [BS] at bh0f
      try exact absurd bh0f (by decide)
      all_goals (
  apply T_exit
  apply K_seqE
  apply K_lpE
  apply K_blkE
  apply K_seq
  apply T_seq
  apply T_r F
  · (simp only [go_sem, Try.ntmps90, cW_eq, heap_new, heap_new1, heap_len1, heap_app, heap_take, List.singleton_append, bh0f]) <;> exact rfl
  apply K_seq
  apply T_ret
  apply finS_ret
  · (simp only [go_sem, Try.ntmps90, cW_eq, heap_new, heap_new1, heap_len1, heap_app, heap_take, List.singleton_append, bh0f, Try.f90]) <;> exact rfl
  · simp
  · simp
  -- leaf 2 (ret)
  simp only [go_sem, Try.ntmps90, cW_eq, heap_new, heap_new1, heap_len1, heap_app, heap_take, List.singleton_append, bh0f, V.bool.injEq, V.int.injEq, true_and]
  first | rw [M.first_some h0t bh1t hj] | rw [M.first_none (fun j hj1 => hj j (by omega))])

end Go.Ab
namespace Go.Ab
open Go Go.RowKit Go.Proofs Fac
set_option linter.unusedVariables false
set_option linter.unusedSimpArgs false
set_option maxRecDepth 4000
set_option maxHeartbeats 1000000

theorem mv_shared1 (t : Town) (p : List Int) (h : List AObj) (i : Nat) (hc : Closed h) (hi : h[i]? = some (.box 69 (cW t p))) (k : Nat) (hk : k < p.length) : RetS Try.prog 91 [.int .i64 (k : Int), .int .i64 p[k], .ptr i 0] h (.bool (M.shared p k)) h := by
  have hkl : k ≤ p.length := by omega
  apply RetS_fin (fn := Try.f91) Try.func91 rfl (by simp [V.all]) hc
  apply T_seq
  apply T_r F
  · (simp only [go_sem, Try.ntmps91, cW_eq, hi, hkl]) <;> exact rfl
  apply K_seq
  apply T_seq
  apply T_wL F [0, 1, 2, 3, 4, 5, 6] rfl
  apply W_pre [0, 1, 2, 3, 4] [5, 6]
  · (simp only [go_sem, Try.ntmps91, cW_eq, hi, hkl]) <;> exact rfl
  apply W_call -- call 0 of function 86
  · (simp only [go_sem, Try.ntmps91, cW_eq, hi, hkl]) <;> exact rfl
  · (simp only [go_sem, Try.ntmps91, cW_eq, hi, hkl]) <;> exact rfl
  · exact rfl
  · (simp only [go_sem, Try.ntmps91, cW_eq, hi, hkl]) <;> exact rfl
  · (simp only [go_sem, Try.ntmps91, cW_eq, hi, hkl]) <;> exact rfl
  · exact ⟨_, Try.func86, rfl, rfl⟩
  · (simp only [go_sem, Try.ntmps91, cW_eq, hi, hkl]) <;> exact rfl
  · (simp only [go_sem, Try.ntmps91, cW_eq, hi, hkl]) <;> exact rfl
  · exact sl_contains _ _
  apply W_run
  · (simp only [go_sem, Try.ntmps91, cW_eq, hi, hkl]) <;> exact rfl
  apply W_nil
  apply K_seq
  apply T_ret
  apply finS_ret
  · (simp only [go_sem, Try.ntmps91, cW_eq, hi, hkl, Try.f91]) <;> exact rfl
  · simp
  · simp
  -- leaf 0 (ret)
  simp only [go_sem, Try.ntmps91, cW_eq, hi, hkl, V.bool.injEq, V.int.injEq, true_and]
  rw [M.shared, M.at_get hk]

theorem mv_gone1 (t : Town) (p : List Int) (h : List AObj) (i : Nat) (hc : Closed h) (hi : h[i]? = some (.box 69 (cW t p))) (n : Int) (k : Int) (hn : 0 ≤ n) (hg : n.toNat < t.gone.length) : RetS Try.prog 92 [.int .i64 k, .int .i64 n, .ptr i 0] h (.bool (M.gone t n)) h := by
  apply RetS_fin (fn := Try.f92) Try.func92 rfl (by simp [V.all]) hc
  apply T_seq
  apply T_r F
  · (simp only [go_sem, Try.ntmps92, cW_eq, hi, hn, hg, rB_get hg]) <;> exact rfl
  apply K_seq
  apply T_seq
  apply T_r F
  · (simp only [go_sem, Try.ntmps92, cW_eq, hi, hn, hg, rB_get hg]) <;> exact rfl
  apply K_seq
  apply T_ret
  apply finS_ret
  · (simp only [go_sem, Try.ntmps92, cW_eq, hi, hn, hg, rB_get hg, Try.f92]) <;> exact rfl
  · simp
  · simp
  -- leaf 0 (ret)
  simp only [go_sem, Try.ntmps92, cW_eq, hi, hn, hg, rB_get hg, V.bool.injEq, V.int.injEq, true_and]
  rw [M.gone_get hg]

theorem mv_unwished1 (t : Town) (p : List Int) (h : List AObj) (i : Nat) (hc : Closed h) (hi : h[i]? = some (.box 69 (cW t p))) (k : Nat) (n : Int) (hk : k < t.houses.length) : RetS Try.prog 93 [.int .i64 (k : Int), .int .i64 n, .ptr i 0] h (.bool (decide (M.rank t k n < 0))) h := by
  apply RetS_fin (fn := Try.f93) Try.func93 rfl (by simp [V.all]) hc
  apply T_seq
  apply T_r F
  · (simp only [go_sem, Try.ntmps93, cW_eq, hi]) <;> exact rfl
  apply K_seq
  apply T_seq
  apply T_wL F [0, 1, 2, 3, 4, 5] rfl
  apply W_pre [0, 1, 2] [3, 4, 5]
  · (simp only [go_sem, Try.ntmps93, cW_eq, hi]) <;> exact rfl
  apply W_call -- call 0 of function 82
  · (simp only [go_sem, Try.ntmps93, cW_eq, hi]) <;> exact rfl
  · (simp only [go_sem, Try.ntmps93, cW_eq, hi]) <;> exact rfl
  · exact rfl
  · (simp only [go_sem, Try.ntmps93, cW_eq, hi]) <;> exact rfl
  · (simp only [go_sem, Try.ntmps93, cW_eq, hi]) <;> exact rfl
  · exact ⟨_, Try.func82, rfl, rfl⟩
  · (simp only [go_sem, Try.ntmps93, cW_eq, hi]) <;> exact rfl
  · (simp only [go_sem, Try.ntmps93, cW_eq, hi]) <;> exact rfl
  · exact mv_rank _ _ _ _ (by omega)
  apply W_run
  · (simp only [go_sem, Try.ntmps93, cW_eq, hi]) <;> exact rfl
  apply W_nil
  apply K_seq
  apply T_ret
  apply finS_ret
  · (simp only [go_sem, Try.ntmps93, cW_eq, hi, Try.f93]) <;> exact rfl
  · simp
  · simp
  -- leaf 0 (ret)
  simp only [go_sem, Try.ntmps93, cW_eq, hi, V.bool.injEq, V.int.injEq, true_and]
  all_goals rfl

end Go.Ab
namespace Go.Ab
open Go Go.RowKit Go.Proofs Fac
set_option linter.unusedVariables false
set_option linter.unusedSimpArgs false
set_option maxRecDepth 4000
set_option maxHeartbeats 1000000

theorem closed_W (t : Town) (p : List Int) : Closed [.box 69 (cW t p)] := by
  intro o ho
  simp only [List.mem_singleton] at ho; subst ho
  simp only [AObj.all, cW, V.allL, V.all, rI_all, rB_all, rL_all, rH_all, rP_all, Bool.and_self]
theorem closed_WW (t : Town) (p : List Int) : Closed [.box 69 (cW t p), .box 69 (cW t p)] := by
  intro o ho
  simp only [List.mem_cons, List.not_mem_nil, or_false, or_self] at ho; subst ho
  simp only [AObj.all, cW, V.allL, V.all, rI_all, rB_all, rL_all, rH_all, rP_all, Bool.and_self]

theorem mv_shared (t : Town) (p : List Int) : Ret Try.prog 77 [.agg (cW t p)] (.int .i64 (match M.first p.length (M.shared p) with | some i => (i : Int) | none => -1)) := by
  refine Ret.of_fits fun hfits => ?_
  simp only [V.fits, V.fitsL, V.fitsR, cW_fits] at hfits
  apply Ret_fin (fn := Try.f77) Try.func77 rfl
  apply T_seq
  apply T_r F
  · (simp only [go_sem, Try.ntmps77, cW_eq]) <;> exact rfl
  apply K_seq
  apply T_seq
  apply T_wL F [0, 1, 2, 3] rfl
  apply W_pre [0, 1] [2, 3]
  · (simp only [go_sem, Try.ntmps77, cW_eq]) <;> exact rfl
  apply W_callS -- call 0
  · (simp only [go_sem, Try.ntmps77, cW_eq]) <;> exact rfl
  · (simp only [go_sem, Try.ntmps77, cW_eq]) <;> exact rfl
  · exact rfl
  · (simp only [go_sem, Try.ntmps77, cW_eq]) <;> exact rfl
  · (simp only [go_sem, Try.ntmps77, cW_eq]) <;> exact rfl
  · exact ⟨_, Try.func90, rfl, rfl⟩
  · exact mv_houses t p [.box 69 (cW t p)] 91 [] [.ptr 0 0] (M.shared p) (closed_W t p) hfits.1.2 ⟨_, Try.func91, rfl, rfl⟩ (fun k hk => mv_shared1 t p _ 0 (closed_WW t p) rfl k hk)
  apply W_run
  · (simp only [go_sem, Try.ntmps77, cW_eq]) <;> exact rfl
  apply W_nil
  apply K_seq
  apply T_ret
  apply fin_ret
  · (simp only [go_sem, Try.ntmps77, cW_eq, Try.f77]) <;> exact rfl
  -- leaf 0 (ret)
  simp only [go_sem, Try.ntmps77, cW_eq, V.bool.injEq, V.int.injEq, true_and]
  all_goals rfl

theorem mv_gone (t : Town) (p : List Int) (ok : M.Ok t) (hp : M.plan t p = true) : Ret Try.prog 78 [.agg (cW t p)] (.int .i64 (match M.first p.length (fun i => M.gone t (M.at' p i)) with | some i => (i : Int) | none => -1)) := by
  refine Ret.of_fits fun hfits => ?_
  simp only [V.fits, V.fitsL, V.fitsR, cW_fits] at hfits
  apply Ret_fin (fn := Try.f78) Try.func78 rfl
  apply T_seq
  apply T_r F
  · (simp only [go_sem, Try.ntmps78, cW_eq]) <;> exact rfl
  apply K_seq
  apply T_seq
  apply T_wL F [0, 1, 2, 3] rfl
  apply W_pre [0, 1] [2, 3]
  · (simp only [go_sem, Try.ntmps78, cW_eq]) <;> exact rfl
  apply W_callS -- call 0
  · (simp only [go_sem, Try.ntmps78, cW_eq]) <;> exact rfl
  · (simp only [go_sem, Try.ntmps78, cW_eq]) <;> exact rfl
  · exact rfl
  · (simp only [go_sem, Try.ntmps78, cW_eq]) <;> exact rfl
  · (simp only [go_sem, Try.ntmps78, cW_eq]) <;> exact rfl
  · exact ⟨_, Try.func90, rfl, rfl⟩
  · exact mv_houses t p [.box 69 (cW t p)] 92 [] [.ptr 0 0] (fun i => M.gone t (M.at' p i)) (closed_W t p) hfits.1.2 ⟨_, Try.func92, rfl, rfl⟩ (fun k hk => by
    have h1 := M.lot_iff.1 (((M.plan_iff.1 hp).2) k hk)
    have h2 := ok.gone
    have := mv_gone1 t p [.box 69 (cW t p), .box 69 (cW t p)] 0 (closed_WW t p) rfl (M.at' p k) k h1.1 (by omega)
    rw [M.at_get hk] at this ⊢
    exact this)
  apply W_run
  · (simp only [go_sem, Try.ntmps78, cW_eq]) <;> exact rfl
  apply W_nil
  apply K_seq
  apply T_ret
  apply fin_ret
  · (simp only [go_sem, Try.ntmps78, cW_eq, Try.f78]) <;> exact rfl
  -- leaf 0 (ret)
  simp only [go_sem, Try.ntmps78, cW_eq, V.bool.injEq, V.int.injEq, true_and]
  all_goals rfl

theorem mv_unwished (t : Town) (p : List Int) (ok : M.Ok t) (hp : M.plan t p = true) : Ret Try.prog 79 [.agg (cW t p)] (.int .i64 (match M.first p.length (M.unwished t p) with | some i => (i : Int) | none => -1)) := by
  refine Ret.of_fits fun hfits => ?_
  simp only [V.fits, V.fitsL, V.fitsR, cW_fits] at hfits
  apply Ret_fin (fn := Try.f79) Try.func79 rfl
  apply T_seq
  apply T_r F
  · (simp only [go_sem, Try.ntmps79, cW_eq]) <;> exact rfl
  apply K_seq
  apply T_seq
  apply T_wL F [0, 1, 2, 3] rfl
  apply W_pre [0, 1] [2, 3]
  · (simp only [go_sem, Try.ntmps79, cW_eq]) <;> exact rfl
  apply W_callS -- call 0
  · (simp only [go_sem, Try.ntmps79, cW_eq]) <;> exact rfl
  · (simp only [go_sem, Try.ntmps79, cW_eq]) <;> exact rfl
  · exact rfl
  · (simp only [go_sem, Try.ntmps79, cW_eq]) <;> exact rfl
  · (simp only [go_sem, Try.ntmps79, cW_eq]) <;> exact rfl
  · exact ⟨_, Try.func90, rfl, rfl⟩
  · exact mv_houses t p [.box 69 (cW t p)] 93 [] [.ptr 0 0] (M.unwished t p) (closed_W t p) hfits.1.2 ⟨_, Try.func93, rfl, rfl⟩ (fun k hk => by
    have := mv_unwished1 t p [.box 69 (cW t p), .box 69 (cW t p)] 0 (closed_WW t p) rfl k (M.at' p k) (by have := (M.plan_iff.1 hp).1; omega)
    rw [M.at_get hk] at this
    rw [M.unwished, M.at_get hk]
    exact this)
  apply W_run
  · (simp only [go_sem, Try.ntmps79, cW_eq]) <;> exact rfl
  apply W_nil
  apply K_seq
  apply T_ret
  apply fin_ret
  · (simp only [go_sem, Try.ntmps79, cW_eq, Try.f79]) <;> exact rfl
  -- leaf 0 (ret)
  simp only [go_sem, Try.ntmps79, cW_eq, V.bool.injEq, V.int.injEq, true_and]
  all_goals rfl

end Go.Ab
namespace Go.Ab
open Go Go.RowKit Go.Proofs Fac
set_option linter.unusedVariables false
set_option linter.unusedSimpArgs false
set_option maxRecDepth 4000
set_option maxHeartbeats 1000000

theorem sl_indexFunc (l : List Int) (h : List AObj) (g : FuncId) (ca cb : List V) (bb : Nat → Bool) (hc : Closed h) (hg : ∃ fn, Try.prog.funcs[g]? = some fn ∧ fn.body.isSome = true ∧ (fn.name == "runtime.NumGoroutine") = false) (hl : l.length ≤ 9223372036854775807)
  (hcall : ∀ (k : Nat) (hk : k < l.length), RetS Try.prog g (ca ++ [.int .i64 l[k]] ++ cb) h (.bool (bb k)) h) : RetS Try.prog 89 [.sl 1 (rI l), .fn g ca cb] h (.int .i64 (match M.first l.length bb with | some i => (i : Int) | none => -1)) h := by
  apply RetS_fin (fn := Try.f89) Try.func89 rfl (by cases M.first l.length bb <;> simp [V.all]) hc
  apply T_seq
  apply T_r F
  · (simp only [go_sem, Try.ntmps89]) <;> exact rfl
  apply K_seq
  apply T_seq
  apply T_seq
  apply T_r F
  · (simp only [go_sem, Try.ntmps89]) <;> exact rfl
  apply K_seq
  apply T_block
  apply T_lp (α := Nat) [true, true, false, false, false, false, false, true, true, false, false, false, false, false, false, false, false, false, false] (fun k => (⟨[.sl 1 (rI l), .fn g ca cb, .undef, .undef, .undef, .undef, .undef, .int .i64 (l.length : Int), .int .i64 (k : Int), .undef, .undef, .undef, .undef, .undef, .undef, .undef, .undef, .undef, .undef], h⟩ : St)) (fun k => k ≤ l.length ∧ ∀ j, j < k → bb j = false) (fun k => l.length - k) (0)
  · (simp only [go_sem, Try.ntmps89]) <;> exact rfl
  · simp
  · rintro k ⟨hk, hj⟩
    apply T_seq
    apply T_r F
    · (simp only [go_sem, Try.ntmps89]) <;> exact rfl
    apply K_seq
    apply T_seq
    apply T_if
    · (simp only [go_sem, Try.ntmps89]) <;> exact rfl
    · intro bh0t
      have h0t := bh0t
      try simp only [CS] at h0t
      try simp only [BS] at bh0t
      try exact absurd bh0t (by decide)
      all_goals (
  have hb : k < 9223372036854775807 := by omega
  apply T_skip
  apply K_seq
  apply T_seq
  apply T_block
  apply T_seq
  apply T_r F
  · (simp only [go_sem, Try.ntmps89, bh0t, h0t, rI_get h0t, hb]) <;> exact rfl
  apply K_seq
  apply T_seq
  apply T_wL F [0, 1, 2, 3, 4, 5] rfl
  apply W_pre [0, 1, 2, 3, 4] [5]
  · (simp only [go_sem, Try.ntmps89, bh0t, h0t, rI_get h0t, hb]) <;> exact rfl
  apply W_callS -- call 0
  · (simp only [go_sem, Try.ntmps89, bh0t, h0t, rI_get h0t, hb]) <;> exact rfl
  · (simp only [go_sem, Try.ntmps89, bh0t, h0t, rI_get h0t, hb]) <;> exact rfl
  · exact rfl
  · (simp only [go_sem, Try.ntmps89, bh0t, h0t, rI_get h0t, hb]) <;> exact rfl
  · (simp only [go_sem, Try.ntmps89, bh0t, h0t, rI_get h0t, hb]) <;> exact rfl
  · exact hg
  · exact hcall k h0t
  apply W_run
  · (simp only [go_sem, Try.ntmps89, bh0t, h0t, rI_get h0t, hb]) <;> exact rfl
  apply W_nil
  apply K_seq
  apply T_if
  · (simp only [go_sem, Try.ntmps89, bh0t, h0t, rI_get h0t, hb]) <;> exact rfl
  · intro bh1t
    have h1t := bh1t
    try simp only [CS] at h1t
    try simp only [BS] at bh1t
    try exact absurd bh1t (by decide)
    all_goals (
  apply T_seq
  apply T_r F
  · (simp only [go_sem, Try.ntmps89, bh0t, h0t, rI_get h0t, hb, bh1t]) <;> exact rfl
  apply K_seq
  apply T_ret
  apply K_blkR
  apply K_seqR
  apply K_lpR
  apply K_blkR
  apply K_seqR
  apply finS_ret
  · (simp only [go_sem, Try.ntmps89, bh0t, h0t, rI_get h0t, hb, bh1t, Try.f89]) <;> exact rfl
  · simp
  · simp
  -- leaf 0 (ret)
  simp only [go_sem, Try.ntmps89, bh0t, h0t, rI_get h0t, hb, bh1t, V.bool.injEq, V.int.injEq, true_and]
  first | rw [M.first_some h0t bh1t hj] | rw [M.first_none (fun j hj1 => hj j (by omega))])
  · intro bh1f
    have h1f := bh1f
    try simp only [CS] at h1f
    try simp only [BS] at bh1f
    try exact absurd bh1f (by decide)
    all_goals (
  apply T_skip
  apply K_blk
  apply K_seq
  apply T_r F
  · (simp only [go_sem, Try.ntmps89, bh0t, h0t, rI_get h0t, hb, bh1f]) <;> exact rfl
  refine K_lp (k + 1) ?_ ?_
  · (simp only [go_sem, Try.ntmps89, bh0t, h0t, rI_get h0t, hb, bh1f]) <;> exact rfl
  -- leaf 1 (loop0)
  grind))
    · intro bh0f
      have h0f := bh0f
      try simp only [CS] at h0f
      try simp only [BS] at bh0f
      try exact absurd bh0f (by decide)
      all_goals (
  apply T_exit
  apply K_seqE
  apply K_lpE
  apply K_blkE
  apply K_seq
  apply T_seq
  apply T_r F
  · (simp only [go_sem, Try.ntmps89, bh0f]) <;> exact rfl
  apply K_seq
  apply T_ret
  apply finS_ret
  · (simp only [go_sem, Try.ntmps89, bh0f, Try.f89]) <;> exact rfl
  · simp
  · simp
  -- leaf 2 (ret)
  simp only [go_sem, Try.ntmps89, bh0f, V.bool.injEq, V.int.injEq, true_and]
  first | rw [M.first_some h0t bh1t hj] | rw [M.first_none (fun j hj1 => hj j (by omega))])

theorem sl_containsFunc (l : List Int) (h : List AObj) (g : FuncId) (ca cb : List V) (bb : Nat → Bool) (hc : Closed h) (hg : ∃ fn, Try.prog.funcs[g]? = some fn ∧ fn.body.isSome = true ∧ (fn.name == "runtime.NumGoroutine") = false) (hl : l.length ≤ 9223372036854775807)
  (hcall : ∀ (k : Nat) (hk : k < l.length), RetS Try.prog g (ca ++ [.int .i64 l[k]] ++ cb) h (.bool (bb k)) h) : RetS Try.prog 75 [.sl 1 (rI l), .fn g ca cb] h (.bool (M.first l.length bb).isSome) h := by
  apply RetS_fin (fn := Try.f75) Try.func75 rfl (by simp [V.all]) hc
  apply T_seq
  apply T_r F
  · (simp only [go_sem, Try.ntmps75]) <;> exact rfl
  apply K_seq
  apply T_seq
  apply T_wL F [0, 1, 2, 3, 4] rfl
  apply W_pre [0, 1] [2, 3, 4]
  · (simp only [go_sem, Try.ntmps75]) <;> exact rfl
  apply W_callS -- call 0
  · (simp only [go_sem, Try.ntmps75]) <;> exact rfl
  · (simp only [go_sem, Try.ntmps75]) <;> exact rfl
  · exact rfl
  · (simp only [go_sem, Try.ntmps75]) <;> exact rfl
  · (simp only [go_sem, Try.ntmps75]) <;> exact rfl
  · exact ⟨_, Try.func89, rfl, rfl⟩
  · exact sl_indexFunc l h g ca cb bb hc hg hl hcall
  apply W_run
  · (simp only [go_sem, Try.ntmps75]) <;> exact rfl
  apply W_nil
  apply K_seq
  apply T_ret
  apply finS_ret
  · (simp only [go_sem, Try.ntmps75, Try.f75]) <;> exact rfl
  · simp
  · simp
  -- leaf 0 (ret)
  simp only [go_sem, Try.ntmps75, V.bool.injEq, V.int.injEq, true_and]
  cases M.first l.length bb <;> simp

end Go.Ab
namespace Go.Ab
open Go Go.RowKit
set_option linter.unusedVariables false
/-! ### the machine, run -/
structure Sx where
  t : Tr
  h : List AObj
structure Interp where
  code : Bool → Nat → Nat → Code → Sx → Option (Exit × Sx)
  data : FuncId → List V → Option V
  call : FuncId → List V → List AObj → Option (V × List AObj)
  yld : Nat → List V → List AObj → Option (V × List AObj)
def Interp.bot : Interp := ⟨fun _ _ _ _ _ => none, fun _ _ => none, fun _ _ _ => none, fun _ _ _ => none⟩
noncomputable def evT (t : Tr) : Operand → Option V
  | .tmp i => t.get i
  | .const v => ofValue v
  | .func f => some (.fn f [] [])
  | .global _ => none
noncomputable def fPut {β : Type} (t : Tr) (d : Option Tmp) (v : V) (k : Tr → β) : β :=
  match d with
  | some d => t.set d v k
  | none => k t
def callOp : Op → Option (Operand × Array Operand)
  | .call ⟨.value x, args, _⟩ => some (x, args)
  | _ => none
theorem callOp_spec {op : Op} {x : Operand} {args : Array Operand} (h : callOp op = some (x, args)) : ∃ ts, op = .call ⟨.value x, args, ts⟩ := by
  unfold callOp at h
  split at h
  · rename_i x' args' ts
    simp only [Option.some.injEq, Prod.mk.injEq] at h
    obtain ⟨rfl, rfl⟩ := h
    exact ⟨ts, rfl⟩
  · cases h
noncomputable def want2 (ops : Array Oper) (t : Tr) (j : Nat) (want : Bool) : Option Bool :=
  match (ops[j]?).bind (·.dst) with
  | some d => (match t.get d with
    | some (.bool b) => some (b == want)
    | some (.tup _) => some false
    | _ => none)
  | none => none
noncomputable def wantK (ops : Array Oper) (t : Tr) (o : Oper) : Option Bool :=
  match o.guard with
  | none => some true
  | some (j, want) => want2 ops t j want
section
variable {P : Program} (F : Facts P) {β : Type}
noncomputable def putK (r : Option V) (oh : Option (List AObj)) (dst : Option Tmp) (t : Tr) (h : List AObj) (k : Tr → List AObj → Option β) : Option β :=
  match r, oh with
  | some v, none => fPut t dst v fun t => k t h
  | some v, some h => fPut t dst v fun t => k t h
  | none, none => fPut t dst (.tup []) fun t => k t h
  | none, some h => fPut t dst (.tup []) fun t => k t h
noncomputable def callK (I : Interp) (f : Option V) (args : Option (List V)) (dst : Option Tmp) (t : Tr) (h : List AObj) (k : Tr → List AObj → Option β) : Option β :=
  match f, args with
  | some (.fn g first caps), some vs => (match I.call g (first ++ vs ++ caps) h with
    | some (r, h') => fPut t dst r fun t => k t h'
    | none => none)
  | some (.yield j), some vs => (match I.yld j vs h with
    | some (r, h') => fPut t dst r fun t => k t h'
    | none => none)
  | _, _ => none
noncomputable def call0 (I : Interp) (o : Oper) (t : Tr) (h : List AObj) (k : Tr → List AObj → Option β) : Option β :=
  match callOp o.op with
  | some (x, args) => callK I (evT t x) (evsG (evT t) args.toList) o.dst t h k
  | none => none
noncomputable def doK (I : Interp) (o : Oper) (t : Tr) (h : List AObj) (k : Tr → List AObj → Option β) : Option β :=
  match opG F (evT t) h o.op with
  | some (r, oh) => putK r oh o.dst t h k
  | none => call0 I o t h k
noncomputable def stepK (I : Interp) (ops : Array Oper) (o : Oper) (t : Tr) (h : List AObj) (k : Tr → List AObj → Option β) : Option β :=
  match wantK ops t o with
  | none => none
  | some false => fPut t o.dst (.tup []) fun t => k t h
  | some true => doK F I o t h k
/-- The operations, in this order. -/
noncomputable def opsK (I : Interp) (ops : Array Oper) (l : List Oper) : Tr → List AObj → Option Sx :=
  List.rec (fun t h => some ⟨t, h⟩) (fun o _ ih t h => stepK F I ops o t h ih) l
noncomputable def dataK (I : Interp) (f : Option V) (args : Option (List V)) (h : List AObj) (k : List V → V → Option β) : Option β :=
  match f, args with
  | some (.fn g first caps), some vs => (match convDL (fun b => b) h (first ++ vs ++ caps) with
    | some dargs => (match I.data g dargs with
      | some r => k (first ++ vs ++ caps) r
      | none => none)
    | none => none)
  | _, _ => none
/-- What the operations write, or make. -/
noncomputable def tabStep (I : Interp) (ops : Array Oper) (o : Oper) (t : Tr) (h : List AObj) (k : Option (Nat × Bool) → Tr → List AObj → Option (List (Option (Nat × Bool)))) : Option (List (Option (Nat × Bool))) :=
  match wantK ops t o with
  | none => none
  | some false => fPut t o.dst (.tup []) fun t => k none t h
  | some true => (match opG F (evT t) h o.op with
    | some (r, oh) => putK r oh o.dst t h (k (cidE (evT t) h.length o.op))
    | none => (match callOp o.op with
      | some (x, args) => dataK I (evT t x) (evsG (evT t) args.toList) h fun _ r => fPut t o.dst r fun t => k none t h
      | none => none))
noncomputable def tabS (I : Interp) (ops : Array Oper) (l : List Oper) : Tr → List AObj → Option (List (Option (Nat × Bool))) :=
  List.rec (fun _ _ => some []) (fun o _ ih t h => tabStep F I ops o t h fun c t h => match ih t h with
    | some tb => some (c :: tb)
    | none => none) l
noncomputable def stepD (I : Interp) (ops : Array Oper) (tab : Nat → Option (Nat × Bool)) (p : Nat → Nat → Bool) (i : Nat) (o : Oper) (t : Tr) (h : List AObj) (k : Tr → List AObj → Option β) : Option β :=
  match wantK ops t o with
  | none => none
  | some false => fPut t o.dst (.tup []) fun t => k t h
  | some true => (match opG F (evT t) h o.op with
    | some (r, oh) => if (seenE (p i) (evT t) o.op && tameE (evT t) o.op && okC (cidE (evT t) h.length o.op) (tab i)) = true then putK r oh o.dst t h k else none
    | none => (match callOp o.op with
      | some (x, args) => dataK I (evT t x) (evsG (evT t) args.toList) h fun asg r => if V.allL (p i) asg = true then fPut t o.dst r fun t => k t h else none
      | none => none))
/-- The operations of a region that draws its order. -/
noncomputable def opsD (I : Interp) (ops : Array Oper) (tab : Nat → Option (Nat × Bool)) (p : Nat → Nat → Bool) (l : List Oper) : Nat → Tr → List AObj → Option Sx :=
  List.rec (fun _ t h => some ⟨t, h⟩) (fun o _ ih i t h => stepD F I ops tab p i o t h (ih (i + 1))) l
/-- Does one operation wait for the other at any rate? -/
def waits (ops : Array Oper) (i j : Nat) : Bool :=
  match ops[j]? with
  | some o => o.after.any fun e => e.on == i && (match e.ground with | .gcOnly _ | .textOnly _ => false | _ => true)
  | none => false
def forS (ops : Array Oper) (tb : List (Option (Nat × Bool))) (i : Nat) : List Nat :=
  (List.range ops.size).filterMap fun j => if j = i then none else match tabL tb j with
    | some (a, _) => if bkD .any ops i j || bkD .any ops j i then none else some a
    | none => none
noncomputable def drawS (I : Interp) (ops : Array Oper) (t : Tr) (h : List AObj) : Option (List (Option (Nat × Bool))) → Option Sx
  | some tb => if lexD .any ops (tabL tb) (forL ((List.range ops.size).map (forS ops tb))) ops.size 0 (Array.replicate ops.size false) = true then
        opsD F I ops (tabL tb) (forL ((List.range ops.size).map (forS ops tb))) ops.toList 0 t h else none
  | none => none
noncomputable def regS (I : Interp) (ops : Array Oper) (draw : Bool) (t : Tr) (h : List AObj) : Option Sx :=
  match draw with
  | false => opsK F I ops ops.toList t h
  | true => match quietB ops with
    | true => opsD F I ops (fun _ => none) (fun _ _ => true) ops.toList 0 t h
    | false => drawS F I ops t h (tabS F I ops ops.toList t h)
/-- Slots that lead to what is to be dropped are forgotten; then it is dropped, if nothing else leads to it. -/
def forget1 (n : Nat) (v : V) : V :=
  match v with
  | .ptr i o => if i < n then .ptr i o else .undef
  | v => v
noncomputable def forgetT {γ : Type} (Kp : Nat → Bool) (n : Nat) (t : Tr) : Nat → Nat → (Tr → γ) → γ :=
  Tr.rec (fun _ _ k => k .e) (fun v _ b k => match Kp b with
    | true => k (.lf v)
    | false => fV0 (forget1 n v) fun v => k (.lf v)) (fun _ _ fl fr s b k => fl (2 * s) b fun l => fr (2 * s) (b + s) fun r => k (.nd l r)) t
noncomputable def allT (n : Nat) (t : Tr) : Bool := Tr.rec true (fun v => v.all fun i => decide (i < n)) (fun _ _ a b => a && b) t
def lowH (n : Nat) (h : List AObj) : Bool := h.all fun o => o.all fun i => decide (i < n)
noncomputable def gcK {γ : Type} (Kp : Nat → Bool) (n : Nat) (s : Sx) (k : Sx → γ) : γ :=
  match s with
  | ⟨t, h⟩ => if h.length ≤ n then k ⟨t, h⟩ else forgetT Kp n t 1 0 fun t' => if (allT n t' && lowH n (h.take n)) = true then fH (h.take n) fun h => k ⟨t', h⟩ else k ⟨t, h⟩
/-- What is left of the heap when a call has ended. -/
noncomputable def leave (n : Nat) (r : V) (h : List AObj) : Option (V × List AObj) :=
  if n ≤ h.length then
    if (r.all (fun i => decide (i < n)) && lowH n (h.take n)) = true then fV r fun r => fH (h.take n) fun h => some (r, h)
    else if (r.all (fun i => decide (i < h.length)) && lowH h.length h) = true then fV r fun r => some (r, h) else none
  else none
def seqS (r : Option (Exit × Sx)) (k : Sx → Option (Exit × Sx)) : Option (Exit × Sx) :=
  match r with
  | some (.normal, s) => k s
  | r => r
def condS (c : Option V) (x y : Option (Exit × Sx)) : Option (Exit × Sx) :=
  match c with
  | some (.bool true) => x
  | some (.bool false) => y
  | _ => none
def blockS (id : Nat) (r : Option (Exit × Sx)) : Option (Exit × Sx) :=
  match r with
  | some (.exit j, s) => if j = id then some (.normal, s) else some (.exit j, s)
  | r => r
def scopeS (r : Option (Exit × Sx)) : Option (Exit × Sx) :=
  match r with
  | some (.goto _, _) => none
  | r => r
def regC (r : Option Sx) : Option (Exit × Sx) :=
  match r with
  | some ⟨t, h⟩ => some (.normal, ⟨t, h⟩)
  | none => none
def contS (I : Interp) (top : Bool) (b n : Nat) (t : Tr) (h : List AObj) : Option Code → Option (Exit × Sx)
  | none => some (.normal, ⟨t, h⟩)
  | some c => I.code top b n c ⟨t, h⟩
noncomputable def rangeS (I : Interp) (top : Bool) (b n : Nat) (g : Operand) (ps : Array Tmp) (asg bd : Code) (t : Tr) (h : List AObj) : Option (Exit × Sx) :=
  match top with
  | false => none
  | true => match evT t g with
    | some (.fn gf first caps) => fL1 (toL t n) fun tl => match I.call gf (first ++ [.yield h.length] ++ caps) (h ++ [.loop .ready none tl ps asg bd]) with
      | some (_, h1) => match h1[h.length]? with
        | some (.loop st pe tm ps' as' bd') => (match st with
          | .busy => none
          | _ => fH (h1.set h.length (.loop .exhausted pe tm ps' as' bd')) fun h => contS I top b n t h pe)
        | _ => none
      | none => none
    | _ => none
noncomputable def loopS (Kp : Nat → Bool) (I : Interp) (top : Bool) (b n : Nat) (c : Code) (ih : Sx → Option (Exit × Sx)) : Sx → Option (Exit × Sx)
  | ⟨t, h⟩ => seqS (ih ⟨t, h⟩) fun s1 => gcK Kp h.length s1 (I.code top b n (.loop c))
noncomputable def regionS (I : Interp) (ops : Array Oper) (draw : Bool) : Sx → Option (Exit × Sx)
  | ⟨t, h⟩ => regC (regS F I ops draw t h)
noncomputable def rangeK (I : Interp) (top : Bool) (b n : Nat) (g : Operand) (ps : Array Tmp) (asg bd : Code) : Sx → Option (Exit × Sx)
  | ⟨t, h⟩ => rangeS I top b n g ps asg bd t h
noncomputable def condK (c : Operand) (x y : Sx → Option (Exit × Sx)) (s : Sx) : Option (Exit × Sx) := condS (evT s.t c) (x s) (y s)
noncomputable def codeS (Kp : Nat → Bool) (I : Interp) (top : Bool) (b n : Nat) (c : Code) : Sx → Option (Exit × Sx) :=
  Code.rec (motive := fun _ => Sx → Option (Exit × Sx)) (fun s => some (.normal, s)) (fun _ ops draw => regionS F I ops draw) (fun _ _ x y s => seqS (x s) y) (fun c _ _ x y => condK c x y) (fun id _ x s => blockS id (x s))
    (fun c x => loopS Kp I top b n c x) (fun g ps asg bd _ _ => rangeK I top b n g ps asg bd) (fun id s => some (.exit id, s)) (fun _ x s => scopeS (x s)) (fun _ s => some (.normal, s)) (fun _ _ => none) (fun s => some (.ret, s)) (fun _ _ => none) c
/-- Queues that functions draw from: what they hold is read as a row that is drawn from its head. -/
noncomputable def toQ (h : List AObj) (args : List V) : List AObj :=
  match args with
  | .ptr i 0 :: _ => match h[i]? with
    | some (.box T (.arr j n :: cs)) => match h[j]? with
      | some (.arr T' sz rows false) => (h.set j (.que T' sz rows)).set i (.box T (.arrd j n 0 :: cs))
      | _ => h
    | _ => h
  | _ => h
/-- The results of a call that has ended. -/
noncomputable def resG (P : Program) (fn : Func) (t : Tr) (h : List AObj) : Option V :=
  match resL P ⟨toL t fn.ntmps, h⟩ fn.results.toList with
  | some [x] => some x
  | some xs => some (.tup xs)
  | none => none
noncomputable def bodyS (I : Interp) (fn : Func) (args : List V) (b : Nat) (h : List AObj) (k : Sx → Option β) : Option β :=
  if (decide (args.length ≤ fn.ntmps) && decide (fn.ntmps ≤ 256)) = true then
    (match fn.body with
    | some c => (match setL args 0 (mkTr fn.ntmps 8 1 0) fun t => I.code true b fn.ntmps c ⟨t, h⟩ with
      | some (.normal, s) => k s
      | some (.ret, s) => k s
      | _ => none)
    | none => none) else none
noncomputable def dataS (X : FuncId → List V → Option V) (I : Interp) (g : FuncId) (args : List V) : Option V :=
  match X g args with
  | some r => some r
  | none => match P.funcs[g]? with
    | some fn => bodyS I fn args 0 [] fun s => match resG P fn s.t s.h with
      | some r0 => (match convF s.h 4 r0 with
        | some r => fV r some
        | none => none)
      | none => none
    | none => none
noncomputable def dataC (I : Interp) (g : FuncId) : Option (List V) → Option V
  | some dargs => I.data g dargs
  | none => none
noncomputable def callS (Q : FuncId → Bool) (I : Interp) (g : FuncId) (args : List V) (h : List AObj) : Option (V × List AObj) :=
  match dataC I g (convDL (fun b => b) (frzD h args) args) with
  | some r => fH (frzD h args) fun h => some (r, h)
  | none => match P.funcs[g]? with
    | some fn => fH (if Q g = true then toQ h args else h) fun h1 => bodyS I fn args h.length h1 fun s => match resG P fn s.t s.h with
      | some r => leave h.length r s.h
      | none => none
    | none => none
noncomputable def yldS (I : Interp) (j : Nat) (vs : List V) (h : List AObj) : Option (V × List AObj) :=
  match h[j]? with
  | some (.loop .ready _ tm ps asg bd) => if (vs.length == ps.size && decide (tm.length ≤ 256)) = true then (match setL (zipSet tm ps.toList vs) 0 (mkTr tm.length 8 1 0) fun t => I.code false h.length tm.length asg ⟨t, h⟩ with
      | some (.normal, s1) => (match s1.h[j]? with
        | some (.loop .ready pe1 tm1 ps1 as1 bd1) => (match fH (s1.h.set j (.loop .busy pe1 tm1 ps1 as1 bd1)) fun h1 => I.code false h.length tm.length bd ⟨s1.t, h1⟩ with
          | some (x, s2) => (match roundExit x with
            | some jump => (match s2.h[j]? with
              | some (.loop .busy pe2 tm2 ps2 as2 bd2) => leave h.length (.bool jump.isNone) (s2.h.set j (.loop (if jump.isNone then .ready else .done) jump tm2 ps2 as2 bd2))
              | _ => none)
            | none => none)
          | none => none)
        | _ => none)
      | _ => none) else none
  | _ => none
noncomputable def Interp.step (Kp : Nat → Bool) (X : FuncId → List V → Option V) (Q : FuncId → Bool) (I : Interp) : Interp :=
  ⟨codeS F Kp I, dataS (P := P) X I, callS (P := P) Q I, yldS I⟩
noncomputable def Interp.run (Kp : Nat → Bool) (X : FuncId → List V → Option V) (Q : FuncId → Bool) (n : Nat) : Interp := Nat.rec Interp.bot (fun _ I => Interp.step F Kp X Q I) n
end
end Go.Ab
namespace Go.Ab
open Go Go.RowKit
set_option linter.unusedVariables false
set_option linter.unusedSimpArgs false
/-! ### what is run is so -/
def RepS (n : Nat) (sx : Sx) (s : St) : Prop := Rep sx.t s.t ∧ s.h = sx.h ∧ s.t.length = n
/-- The loop, taken up again behind a round. -/
def TL (P : Program) (b : Nat) (ro : Option Nat) (c : Code) (s : St) (K : Exit → St → Prop) : Prop :=
  ∀ (C : Ctx) (E0 : Env) (m : List Value) (a : Act) (w : World), E0.h.length = b → LeN E0 (env C s.h m w) → Sim C s m a w → ∀ (fr : Frame) (k : List Item) (cs : List Frame), fr.roundOf = (FW ro).round → (FW ro).fn fr.fn → (FW ro).room (cs.length + 1 + 0) →
    ∃ e a' w', Post C E0 K e a' w' ∧ ArrivesIn (Machine.fenced P (FW ro)) P (lone (fr.atR a (.inLoop c :: k)) cs w) fr k cs e a' w'
def againK (P : Program) (b : Nat) (ro : Option Nat) (c : Code) (K : Exit → St → Prop) : Exit → St → Prop
  | .normal, s => TL P b ro c s K
  | x, s => K x s
section
variable {P : Program} {b : Nat} {ro : Option Nat} {s : St} {K : Exit → St → Prop}
theorem TL_of {c : Code} (h : b ≤ s.h.length → T P b ro c s (againK P b ro c K)) : TL P b ro c s K := by
  intro C E0 m a w hb L S fr k cs hro hfn hroom
  have hle : b ≤ s.h.length := by have := L.len; simp only [env] at this; omega
  obtain ⟨e, a1, w1, ⟨s1, m1, hk, S1, L1⟩, harr⟩ := h hle C E0 m a w hb L S fr (.inLoop c :: k) cs hro hfn hroom
  have h0 : StepsIn (Machine.fenced P (FW ro)) P (lone (fr.atR a (.inLoop c :: k)) cs w) (lone (fr.atR a (.code c :: .inLoop c :: k)) cs w) := .one (fenced_calm hfn hroom rfl) stepR_inLoop
  cases e with
  | normal =>
    obtain ⟨e2, a2, w2, hq2, harr2⟩ := hk C E0 m1 a1 w1 hb L1 S1 fr k cs hro hfn hroom
    exact ⟨e2, a2, w2, hq2, .of_steps (StepsIn.trans h0 harr) harr2⟩
  | exit id => exact ⟨_, a1, w1, ⟨s1, m1, hk, S1, L1⟩, .of_steps h0 (.pass (x := .inLoop c) rfl (fun _ _ => .inl (by simp)) harr)⟩
  | goto l => exact ⟨_, a1, w1, ⟨s1, m1, hk, S1, L1⟩, .of_steps h0 (.pass (x := .inLoop c) rfl (fun _ _ => .inl (by simp)) harr)⟩
  | ret => exact ⟨_, a1, w1, ⟨s1, m1, hk, S1, L1⟩, .of_steps h0 (.pass (x := .inLoop c) rfl (fun _ _ => .inl (by simp)) harr)⟩
  | panic ch => exact ⟨_, a1, w1, ⟨s1, m1, hk, S1, L1⟩, .of_steps h0 (.pass (x := .inLoop c) rfl (fun _ _ => .inl (by simp)) harr)⟩
  | outgrown => exact ⟨_, a1, w1, ⟨s1, m1, hk, S1, L1⟩, .of_steps h0 (.pass (x := .inLoop c) rfl (fun _ _ => .inl (by simp)) harr)⟩
theorem T_of_again {c : Code} (h : b ≤ s.h.length → T P b ro c s (againK P b ro c K)) : T P b ro (.loop c) s K := by
  intro C E0 m a w hb L S fr k cs hro hfn hroom
  have hle : b ≤ s.h.length := by have := L.len; simp only [env] at this; omega
  obtain ⟨e, a1, w1, ⟨s1, m1, hk, S1, L1⟩, harr⟩ := h hle C E0 m a w hb L S fr (.inLoop c :: k) cs hro hfn hroom
  have h0 : StepsIn (Machine.fenced P (FW ro)) P (lone (fr.atR a (.code (.loop c) :: k)) cs w) (lone (fr.atR a (.code c :: .inLoop c :: k)) cs w) := .one (fenced_calm hfn hroom rfl) stepR_loop
  cases e with
  | normal =>
    obtain ⟨e2, a2, w2, hq2, harr2⟩ := hk C E0 m1 a1 w1 hb L1 S1 fr k cs hro hfn hroom
    exact ⟨e2, a2, w2, hq2, .of_steps (StepsIn.trans h0 harr) harr2⟩
  | exit id => exact ⟨_, a1, w1, ⟨s1, m1, hk, S1, L1⟩, .of_steps h0 (.pass (x := .inLoop c) rfl (fun _ _ => .inl (by simp)) harr)⟩
  | goto l => exact ⟨_, a1, w1, ⟨s1, m1, hk, S1, L1⟩, .of_steps h0 (.pass (x := .inLoop c) rfl (fun _ _ => .inl (by simp)) harr)⟩
  | ret => exact ⟨_, a1, w1, ⟨s1, m1, hk, S1, L1⟩, .of_steps h0 (.pass (x := .inLoop c) rfl (fun _ _ => .inl (by simp)) harr)⟩
  | panic ch => exact ⟨_, a1, w1, ⟨s1, m1, hk, S1, L1⟩, .of_steps h0 (.pass (x := .inLoop c) rfl (fun _ _ => .inl (by simp)) harr)⟩
  | outgrown => exact ⟨_, a1, w1, ⟨s1, m1, hk, S1, L1⟩, .of_steps h0 (.pass (x := .inLoop c) rfl (fun _ _ => .inl (by simp)) harr)⟩
/-! ### what is dropped -/
def Fg (t t2 : List V) : Prop := t2.length = t.length ∧ ∀ i : Nat, t2[i]? = t[i]? ∨ t2[i]? = some V.undef
theorem Fg.rel {E : Env} : ∀ {t t2 : List V} {us : List Value}, Fg t t2 → RelL E t us → RelL E t2 us
  | [], [], us, _, h => h
  | [], _ :: _, us, hf, h => by have := hf.1; simp at this
  | _ :: _, [], us, hf, h => by have := hf.1; simp at this
  | x :: t, y :: t2, us, hf, h => by
    simp only [RelL] at *
    obtain ⟨u, us', rfl, h1, h2⟩ := h
    refine ⟨u, us', rfl, ?_, Fg.rel (t := t) ⟨by have := hf.1; simpa using this, fun i => by have := hf.2 (i + 1); simpa using this⟩ h2⟩
    rcases hf.2 0 with h0 | h0
    · simp at h0; subst h0; exact h1
    · simp at h0; subst h0; simp only [Rel]
structure GcOk (n : Nat) (s1 s2 : St) : Prop where
  ok : s2 = s1 ∨ (n ≤ s1.h.length ∧ s2.h = s1.h.take n ∧ Fg s1.t s2.t ∧ V.allL (fun i => decide (i < n)) s2.t = true ∧ ∀ o ∈ s1.h.take n, o.all (fun i => decide (i < n)) = true)
theorem TL_gc {c : Code} {s1 s2 : St} {n : Nat} (hg : GcOk n s1 s2) (hb : b ≤ n) (h : TL P b ro c s2 K) : TL P b ro c s1 K := by
  rcases hg.ok with rfl | ⟨h1, h2, h3, h4, h5⟩
  · exact h
  · intro C E0 m a w hb0 L S
    have S1 : Sim C ⟨s2.t, s1.h⟩ m a w := ⟨S.below, S.out, S.len, h3.rel S.slots, S.defers, S.objs, S.apart, S.low⟩
    obtain ⟨S2, hL, _⟩ := S1.cut n h1 h4 h5
    have e : (⟨s2.t, s1.h.take n⟩ : St) = s2 := by rw [← h2]
    simp only at S2
    rw [e] at S2
    have L2 := hL E0 (by omega) L
    simp only at L2
    rw [← h2] at L2
    exact h C E0 (m.take n) a w hb0 L2 S2
end
/-! ### the tree and the list -/
theorem evT_eq {t : Tr} {s : St} (h : Rep t s.t) (x : Operand) : evT t x = ev s x := by
  cases x with
  | tmp i => exact h i
  | _ => rfl
theorem wantK_eq {ops : Array Oper} {t : Tr} {s : St} (h : Rep t s.t) (o : Oper) : wantK ops t o = wantedV ops s o := by
  unfold wantK wantedV
  cases hg : o.guard with
  | none => rfl
  | some g =>
    obtain ⟨j, want⟩ := g
    simp only [want2]
    cases hd : (ops[j]?).bind (·.dst) with
    | none => rfl
    | some d =>
      simp only
      rw [h d]
      cases s.t[d]? with
      | none => rfl
      | some v => cases v <;> rfl
theorem fPut_some {β : Type} {t : Tr} {tl : List V} (h : Rep t tl) {d : Option Tmp} {v : V} {k : Tr → Option β} {out : β} (hk : fPut t d v k = some out) : ∃ t', Rep t' (puts tl d v) ∧ k t' = some out := by
  cases d with
  | none => exact ⟨t, h, hk⟩
  | some d =>
    simp only [fPut] at hk
    obtain ⟨t', h1, h2⟩ := Rep.set (α := Option β) h d v
    rw [h1] at hk
    exact ⟨t', h2, hk⟩
theorem puts_length (t : List V) (d : Option Tmp) (v : V) : (puts t d v).length = t.length := by cases d <;> simp [puts]
/-- The function is one of the program's, and may be called. -/
def Callee (P : Program) (g : FuncId) : Prop := ∃ fn, P.funcs[g]? = some fn ∧ fn.body.isSome = true ∧ (fn.name == "runtime.NumGoroutine") = false
structure SoundI (P : Program) (I : Interp) : Prop where
  code : ∀ top b n c sx x sx', I.code top b n c sx = some (x, sx') → ∀ s, RepS n sx s → ∃ s', RepS n sx' s' ∧ ∀ ro K, (top = true → ro = none) → K x s' → T P b ro c s K
  loop : ∀ top b n c sx x sx', I.code top b n (.loop c) sx = some (x, sx') → ∀ s, RepS n sx s → ∃ s', RepS n sx' s' ∧ ∀ ro K, (top = true → ro = none) → K x s' → TL P b ro c s K
  data : ∀ g args r, I.data g args = some r → Ret P g args r ∧ Callee P g
  call : ∀ g args h r h', I.call g args h = some (r, h') → RetS P g args h r h' ∧ Callee P g
  yld : ∀ j vs h r h', I.yld j vs h = some (r, h') → RetY P j vs h r h'
theorem SoundI.bot (P : Program) : SoundI P Interp.bot := ⟨fun _ _ _ _ _ _ _ h => (by cases h), fun _ _ _ _ _ _ _ h => (by cases h), fun _ _ _ h => (by cases h), fun _ _ _ _ _ h => (by cases h), fun _ _ _ _ _ h => (by cases h)⟩
section
variable {P : Program} (F : Facts P) {I : Interp} (HI : SoundI P I)
include HI
theorem doK_some {β : Type} {ops : Array Oper} {i : Nat} {o : Oper} (ho : ops[i]? = some o) {t : Tr} {s : St} (h : Rep t s.t) {k : Tr → List AObj → Option β} {out : β} (hw : wantedV ops s o = some true) (hk : doK F I o t s.h k = some out) :
    ∃ t' s', StepR F ops i s s' ∧ Rep t' s'.t ∧ s'.t.length = s.t.length ∧ k t' s'.h = some out := by
  have hE := evT_eq h
  unfold doK at hk
  split at hk
  · rename_i r oh hop
    have hv := opG_sound F hE hop
    unfold putK at hk
    split at hk
    · obtain ⟨t', h1, h2⟩ := fPut_some h hk
      exact ⟨t', ⟨_, _⟩, .val ho hw hv, h1, puts_length _ _ _, h2⟩
    · obtain ⟨t', h1, h2⟩ := fPut_some h hk
      exact ⟨t', ⟨_, _⟩, .val ho hw hv, h1, puts_length _ _ _, h2⟩
    · obtain ⟨t', h1, h2⟩ := fPut_some h hk
      exact ⟨t', ⟨_, _⟩, .eff ho hw hv, h1, puts_length _ _ _, h2⟩
    · obtain ⟨t', h1, h2⟩ := fPut_some h hk
      exact ⟨t', ⟨_, _⟩, .eff ho hw hv, h1, puts_length _ _ _, h2⟩
  · unfold call0 at hk
    split at hk
    · rename_i x args hc
      obtain ⟨ts, hop⟩ := callOp_spec hc
      rw [evsG_eq hE, hE] at hk
      unfold callK at hk
      split at hk
      · rename_i g first caps vs hx ha
        split at hk
        · rename_i r h' hcall
          obtain ⟨hr, hb⟩ := HI.call _ _ _ _ _ hcall
          obtain ⟨t', h1, h2⟩ := fPut_some h hk
          exact ⟨t', ⟨_, _⟩, .call ho hw hop hx ha hb hr, h1, puts_length _ _ _, h2⟩
        · cases hk
      · rename_i j vs hx ha
        split at hk
        · rename_i r h' hcall
          have hr := HI.yld _ _ _ _ _ hcall
          obtain ⟨t', h1, h2⟩ := fPut_some h hk
          exact ⟨t', ⟨_, _⟩, .yld ho hw hop hx ha hr, h1, puts_length _ _ _, h2⟩
        · cases hk
      · cases hk
    · cases hk
theorem stepK_some {β : Type} {ops : Array Oper} {i : Nat} {o : Oper} (ho : ops[i]? = some o) {t : Tr} {s : St} (h : Rep t s.t) {k : Tr → List AObj → Option β} {out : β} (hk : stepK F I ops o t s.h k = some out) :
    ∃ t' s', StepR F ops i s s' ∧ Rep t' s'.t ∧ s'.t.length = s.t.length ∧ k t' s'.h = some out := by
  unfold stepK at hk
  rw [wantK_eq h] at hk
  split at hk
  · cases hk
  · rename_i hw
    obtain ⟨t', h1, h2⟩ := fPut_some h hk
    exact ⟨t', ⟨_, _⟩, .skip ho hw, h1, puts_length _ _ _, h2⟩
  · rename_i hw
    exact doK_some F HI ho h hw hk
omit HI in
theorem drop_head {ops : Array Oper} {k : Nat} {o : Oper} {l : List Oper} (h : ops.toList.drop k = o :: l) : ops[k]? = some o ∧ ops.toList.drop (k + 1) = l := by
  have h1 := congrArg (fun l => l[0]?) h
  have h2 := congrArg (List.drop 1) h
  simp only [List.getElem?_drop, Nat.add_zero, List.getElem?_cons_zero, Array.getElem?_toList] at h1
  exact ⟨h1, by simpa [List.drop_drop] using h2⟩
theorem opsK_some {ops : Array Oper} : ∀ (l : List Oper) (i : Nat) {t : Tr} {s : St} {sx : Sx}, ops.toList.drop i = l → Rep t s.t → opsK F I ops l t s.h = some sx → ∃ s', RunR F ops (List.range' i l.length) s s' ∧ RepS s.t.length sx s'
  | [], i, t, s, sx, hl, h, hk => by
    have : (some (⟨t, s.h⟩ : Sx)) = some sx := hk
    simp only [Option.some.injEq] at this; subst this
    exact ⟨s, .nil, h, rfl, rfl⟩
  | o :: l, i, t, s, sx, hl, h, hk => by
    have hk' : stepK F I ops o t s.h (opsK F I ops l) = some sx := hk
    obtain ⟨ho, hl'⟩ := drop_head hl
    obtain ⟨t1, s1, hs, h1, hlen, hk1⟩ := stepK_some F HI ho h hk'
    obtain ⟨s2, hr, h2⟩ := opsK_some l (i + 1) hl' h1 hk1
    rw [hlen] at h2
    refine ⟨s2, ?_, h2⟩
    rw [List.length_cons, List.range'_succ]
    exact .cons hs hr
end
end Go.Ab
namespace Go.Ab
open Go Go.RowKit
set_option linter.unusedVariables false
set_option linter.unusedSimpArgs false
section
variable {P : Program} (F : Facts P) {I : Interp} (HI : SoundI P I)
include HI
theorem dataK_some {β : Type} {f : Option V} {args : Option (List V)} {h : List AObj} {k : List V → V → Option β} {out : β} (hk : dataK I f args h k = some out) :
    ∃ g first caps vs dargs r, f = some (.fn g first caps) ∧ args = some vs ∧ convDL (fun b => b) h (first ++ vs ++ caps) = some dargs ∧ Ret P g dargs r ∧ Callee P g ∧ k (first ++ vs ++ caps) r = some out := by
  unfold dataK at hk
  split at hk
  · rename_i g first caps vs
    split at hk
    · rename_i dargs hc
      split at hk
      · rename_i r hr
        obtain ⟨h1, h2⟩ := HI.data _ _ _ hr
        exact ⟨g, first, caps, vs, dargs, r, rfl, rfl, hc, h1, h2, hk⟩
      · cases hk
    · cases hk
  · cases hk
theorem opsD_some {ops : Array Oper} {tab : Nat → Option (Nat × Bool)} {p : Nat → Nat → Bool} : ∀ (l : List Oper) (i : Nat) {t : Tr} {s : St} {sx : Sx}, ops.toList.drop i = l → Rep t s.t → opsD F I ops tab p l i t s.h = some sx →
    ∃ s', RepS s.t.length sx s' ∧ ∀ K : St → Prop, K s' → RegDL F ops tab p K (List.range' i l.length) s
  | [], i, t, s, sx, hl, h, hk => by
    have : (some (⟨t, s.h⟩ : Sx)) = some sx := hk
    simp only [Option.some.injEq] at this; subst this
    exact ⟨s, ⟨h, rfl, rfl⟩, fun K hK => hK⟩
  | o :: l, i, t, s, sx, hl, h, hk => by
    have hk' : stepD F I ops tab p i o t s.h (opsD F I ops tab p l (i + 1)) = some sx := hk
    obtain ⟨ho, hl'⟩ := drop_head hl
    have hE := evT_eq h
    rw [List.length_cons, List.range'_succ]
    have rest : ∀ (v : V) (h' : List AObj) {t1 : Tr}, Rep t1 (puts s.t o.dst v) → opsD F I ops tab p l (i + 1) t1 h' = some sx → ∃ s', RepS s.t.length sx s' ∧ ∀ K : St → Prop, K s' → RegDL F ops tab p K (List.range' (i + 1) l.length) ⟨puts s.t o.dst v, h'⟩ := fun v h' t1 h1 h2 => by
      obtain ⟨s', h3, h4⟩ := opsD_some l (i + 1) (s := ⟨puts s.t o.dst v, h'⟩) hl' h1 h2
      simp only [puts_length] at h3
      exact ⟨s', h3, h4⟩
    unfold stepD at hk'
    rw [wantK_eq h] at hk'
    split at hk'
    · cases hk'
    · rename_i hw
      obtain ⟨t1, h1, h2⟩ := fPut_some h hk'
      obtain ⟨s', h3, h4⟩ := rest _ _ h1 h2
      exact ⟨s', h3, fun K hK => ⟨o, .tup [], .none, ho, ⟨fun s2 _ h2 _ _ => .skip ho (h2.trans hw), fun _ _ he => by cases he⟩, trivial, h4 K hK⟩⟩
    · rename_i hw
      split at hk'
      · rename_i r oh hop
        have hv := opG_sound F hE hop
        split at hk'
        · rename_i hb
          have hEe : evT t = ev s := funext hE
          rw [hEe] at hb
          simp only [Bool.and_eq_true] at hb
          obtain ⟨eff, he, hL, hc⟩ := Local.of_op (tab := tab) (p := p) ho hw hv hb.1.1 hb.1.2 hb.2
          have fin : ∀ {t1 : Tr}, Rep t1 (puts s.t o.dst (r.getD (.tup []))) → opsD F I ops tab p l (i + 1) t1 (oh.getD s.h) = some sx → ∃ s', RepS s.t.length sx s' ∧ ∀ K : St → Prop, K s' → RegDL F ops tab p K (i :: List.range' (i + 1) l.length) s := fun h1 h2 => by
            obtain ⟨s', h3, h4⟩ := rest _ _ h1 h2
            refine ⟨s', h3, fun K hK => ⟨o, _, eff, ho, hL, hc, ?_⟩⟩
            rw [← he]; exact h4 K hK
          unfold putK at hk'
          split at hk'
          · obtain ⟨t1, h1, h2⟩ := fPut_some h hk'
            exact fin h1 h2
          · obtain ⟨t1, h1, h2⟩ := fPut_some h hk'
            exact fin h1 h2
          · obtain ⟨t1, h1, h2⟩ := fPut_some h hk'
            exact fin h1 h2
          · obtain ⟨t1, h1, h2⟩ := fPut_some h hk'
            exact fin h1 h2
        · cases hk'
      · split at hk'
        · rename_i x args hc
          obtain ⟨ts, hop⟩ := callOp_spec hc
          rw [evsG_eq hE, hE] at hk'
          obtain ⟨g, first, caps, vs, dargs, r, hx, ha, hcv, hr, hcal, hk2⟩ := dataK_some HI hk'
          split at hk2
          · rename_i hs
            obtain ⟨t1, h1, h2⟩ := fPut_some h hk2
            obtain ⟨s', h3, h4⟩ := rest _ _ h1 h2
            exact ⟨s', h3, fun K hK => D_call ho hw hop hx ha hcal hs hcv hr (h4 K hK)⟩
          · cases hk2
        · cases hk'
theorem regS_some {id : Nat} {ops : Array Oper} {draw : Bool} {t : Tr} {s : St} {sx : Sx} (h : Rep t s.t) (hk : regS F I ops draw t s.h = some sx) : ∃ s', RepS s.t.length sx s' ∧ ∀ b ro K, K .normal s' → T P b ro (.region id ops draw) s K := by
  unfold regS at hk
  have hdraw : ∀ {tab : Nat → Option (Nat × Bool)} {p : Nat → Nat → Bool}, lexD .any ops tab p ops.size 0 (Array.replicate ops.size false) = true → opsD F I ops tab p ops.toList 0 t s.h = some sx → ∃ s', RepS s.t.length sx s' ∧ ∀ b ro K, K .normal s' → T P b ro (.region id ops true) s K := fun hB hd => by
    obtain ⟨s', h1, h2⟩ := opsD_some F HI ops.toList 0 rfl h hd
    refine ⟨s', h1, fun b ro K hK => T_regionD (F := F) hB (RegDL.regD _ 0 ?_)⟩
    have := h2 (K .normal) hK
    simpa using this
  split at hk
  · obtain ⟨s', h1, h2⟩ := opsK_some F HI ops.toList 0 rfl h hk
    refine ⟨s', h2, fun b ro K hK => T_region (F := F) (s' := s') ?_ hK⟩
    rw [List.range_eq_range']
    simpa using h1
  · split at hk
    · rename_i hq
      simp only [quietB, Bool.and_eq_true] at hq
      exact hdraw hq.2 hk
    · unfold drawS at hk
      split at hk
      · split at hk
        · rename_i hB
          exact hdraw hB hk
        · cases hk
      · cases hk
end
/-! ### dropping -/
theorem forgetT_spec {γ : Type} (Kp : Nat → Bool) (n : Nat) : ∀ (t : Tr) (s b : Nat), ∃ t', (∀ k : Tr → γ, forgetT Kp n t s b k = k t') ∧ ∀ i, t'.get i = t.get i ∨ ((t.get i).isSome = true ∧ t'.get i = some .undef)
  | .e, s, b => ⟨.e, fun k => rfl, fun i => .inl rfl⟩
  | .lf v, s, b => by
    have hk : ∀ k : Tr → γ, forgetT Kp n (.lf v) s b k = (match Kp b with
      | true => k (.lf v)
      | false => fV0 (forget1 n v) fun v => k (.lf v)) := fun k => rfl
    cases hb : Kp b with
    | true => exact ⟨.lf v, fun k => by rw [hk, hb], fun i => .inl rfl⟩
    | false =>
      refine ⟨.lf (forget1 n v), fun k => by rw [hk, hb]; simp only [fV0_eq], fun i => ?_⟩
      simp only [get_lf]
      by_cases hi : i = 0
      · subst hi
        simp only [if_true]
        unfold forget1
        split
        · split
          · exact .inl rfl
          · exact .inr ⟨rfl, rfl⟩
        · exact .inl rfl
      · simp [hi]
  | .nd l r, s, b => by
    obtain ⟨l', h1, g1⟩ := forgetT_spec (γ := γ) Kp n l (2 * s) b
    obtain ⟨r', h2, g2⟩ := forgetT_spec (γ := γ) Kp n r (2 * s) (b + s)
    refine ⟨.nd l' r', fun k => ?_, fun i => ?_⟩
    · show (forgetT Kp n l (2 * s) b fun l => forgetT Kp n r (2 * s) (b + s) fun r => k (.nd l r)) = _
      rw [h1, h2]
    · simp only [get_nd]
      split
      · exact g1 _
      · exact g2 _
theorem allT_get (n : Nat) : ∀ (t : Tr), allT n t = true → ∀ i v, t.get i = some v → v.all (fun i => decide (i < n)) = true
  | .e, _, i, v, h => by simp [get_e] at h
  | .lf w, ha, i, v, h => by
    simp only [get_lf] at h
    split at h
    · simp only [Option.some.injEq] at h; subst h; exact ha
    · cases h
  | .nd l r, ha, i, v, h => by
    have ha' : (allT n l && allT n r) = true := ha
    simp only [Bool.and_eq_true] at ha'
    simp only [get_nd] at h
    split at h
    · exact allT_get n l ha'.1 _ v h
    · exact allT_get n r ha'.2 _ v h
theorem allL_of : ∀ (t : List V) {p : Nat → Bool}, (∀ v ∈ t, v.all p = true) → V.allL p t = true
  | [], p, h => by simp only [V.allL]
  | x :: t, p, h => by simp only [V.allL, h x (by simp), allL_of t (fun v hv => h v (by simp [hv])), Bool.and_self]
theorem gcK_some {Kp : Nat → Bool} {n m : Nat} {sx : Sx} {s : St} {β : Type} {k : Sx → Option β} {out : β} (h : RepS m sx s) (hk : gcK Kp n sx k = some out) : ∃ sx' s', RepS m sx' s' ∧ GcOk n s s' ∧ k sx' = some out := by
  obtain ⟨t, hh⟩ := sx
  obtain ⟨h1, h2, h3⟩ := h
  simp only at h1 h2
  simp only [gcK] at hk
  split at hk
  · exact ⟨⟨t, hh⟩, s, ⟨h1, h2, h3⟩, ⟨.inl rfl⟩, hk⟩
  · rename_i hlen
    obtain ⟨t', hf, hg⟩ := forgetT_spec (γ := Option β) Kp n t 1 0
    rw [hf] at hk
    split at hk
    · rename_i hc
      simp only [Bool.and_eq_true] at hc
      simp only [fH_eq] at hk
      have hget : ∀ i, t'.get i = (toL t' m)[i]? := fun i => by
        simp only [toL, List.getElem?_map]
        by_cases hi : i < m
        · rw [List.getElem?_range hi]
          simp only [Option.map_some]
          rcases hg i with h0 | ⟨h0, h00⟩
          · rw [h0, h1 i, List.getElem?_eq_getElem (by omega)]; rfl
          · rw [h00]; rfl
        · rw [List.getElem?_eq_none (by simp; omega)]
          simp only [Option.map_none]
          rcases hg i with h0 | ⟨h0, h00⟩
          · rw [h0, h1 i, List.getElem?_eq_none (by omega)]
          · rw [h1 i, List.getElem?_eq_none (by omega)] at h0; cases h0
      have hlen2 : (toL t' m).length = m := by simp [toL]
      refine ⟨⟨t', hh.take n⟩, ⟨toL t' m, s.h.take n⟩, ⟨hget, by rw [h2], hlen2⟩, ⟨.inr ⟨by rw [h2]; omega, rfl, ⟨by rw [hlen2, h3], fun i => ?_⟩, ?_, ?_⟩⟩, hk⟩
      · simp only
        rw [← hget i]
        rcases hg i with h0 | ⟨h0, h00⟩
        · exact .inl (h0.trans (h1 i))
        · exact .inr h00
      · refine allL_of _ fun v hv => ?_
        obtain ⟨i, hi⟩ := List.getElem?_of_mem hv
        rw [← hget i] at hi
        exact allT_get n t' hc.1 i v hi
      · rw [h2]
        intro o ho
        have := List.all_eq_true.1 hc.2 o ho
        exact this
    · exact ⟨⟨t, hh⟩, s, ⟨h1, h2, h3⟩, ⟨.inl rfl⟩, hk⟩
theorem leave_some {n : Nat} {r r' : V} {h h' : List AObj} (hk : leave n r h = some (r', h')) : r' = r ∧ ∃ n', n ≤ n' ∧ n' ≤ h.length ∧ h.take n' = h' ∧ r.all (fun i => decide (i < n')) = true ∧ ∀ o ∈ h', o.all (fun i => decide (i < n')) = true := by
  unfold leave at hk
  split at hk
  · rename_i hle
    split at hk
    · rename_i hc
      simp only [fV_eq, fH_eq, Option.some.injEq, Prod.mk.injEq] at hk
      simp only [Bool.and_eq_true] at hc
      obtain ⟨rfl, rfl⟩ := hk
      exact ⟨rfl, n, Nat.le_refl _, hle, rfl, hc.1, fun o ho => List.all_eq_true.1 hc.2 o ho⟩
    · split at hk
      · rename_i hc
        simp only [fV_eq, Option.some.injEq, Prod.mk.injEq] at hk
        simp only [Bool.and_eq_true] at hc
        obtain ⟨rfl, rfl⟩ := hk
        exact ⟨rfl, h.length, hle, Nat.le_refl _, List.take_length, hc.1, fun o ho => List.all_eq_true.1 hc.2 o ho⟩
      · cases hk
  · cases hk
end Go.Ab
namespace Go.Ab
open Go Go.RowKit
set_option linter.unusedVariables false
set_option linter.unusedSimpArgs false
theorem RepS.eq {n : Nat} {sx : Sx} {s : St} (h : RepS n sx s) : s = ⟨toL sx.t n, sx.h⟩ := by
  obtain ⟨h1, h2, h3⟩ := h
  obtain ⟨t, hh⟩ := s
  simp only at h1 h2 h3
  subst h2; subst h3
  rw [toL_rep h1]
section
variable {P : Program} (F : Facts P) {I : Interp} (HI : SoundI P I) (Kp : Nat → Bool)
include HI
/-- What running a piece of code tells. -/
def CodeOk (P : Program) (top : Bool) (b n : Nat) (c : Code) (f : Sx → Option (Exit × Sx)) : Prop :=
  ∀ sx x sx', f sx = some (x, sx') → ∀ s, RepS n sx s → ∃ s', RepS n sx' s' ∧ ∀ ro K, (top = true → ro = none) → K x s' → T P b ro c s K
theorem rangeS_ok (top : Bool) (b n : Nat) (g : Operand) (ps : Array Tmp) (asg bd : Code) : CodeOk P top b n (.rangeFunc g ps asg bd) (rangeK I top b n g ps asg bd) := by
  rintro ⟨t, h⟩ x sx' hk s hs
  have hse := hs.eq
  obtain ⟨h1, h2, h3⟩ := hs
  simp only at h1 h2
  simp only [rangeK, rangeS] at hk
  split at hk
  · cases hk
  · split at hk
    · rename_i gf first caps hg
      rw [evT_eq h1] at hg
      rw [fL1_eq] at hk
      split at hk
      · rename_i r h' hcall
        obtain ⟨hr, hcal⟩ := HI.call _ _ _ _ _ hcall
        have htl : toL t n = s.t := by rw [← h3]; exact toL_rep h1
        rw [htl, ← h2] at hr
        rw [← h2] at hk
        split at hk
        · rename_i st pe tm ps' as' bd' ho
          have hst : ∀ {hk' : st ≠ .busy}, fH (h'.set s.h.length (.loop .exhausted pe tm ps' as' bd')) (fun h => contS I true b n t h pe) = some (x, sx') → ∃ s', RepS n sx' s' ∧ ∀ ro K, (true = true → ro = none) → K x s' → T P b ro (.rangeFunc g ps asg bd) s K := by
            intro hne hk
            rw [fH_eq] at hk
            cases pe with
            | none =>
              simp only [contS, Option.some.injEq, Prod.mk.injEq] at hk
              obtain ⟨rfl, rfl⟩ := hk
              refine ⟨⟨s.t, h'.set s.h.length (.loop .exhausted none tm ps' as' bd')⟩, ⟨h1, rfl, h3⟩, fun ro K hro hK => ?_⟩
              rw [hro rfl]
              exact T_rangeFunc hg hcal hr ho hne hK
            | some c =>
              simp only [contS] at hk
              obtain ⟨s', h4, h5⟩ := HI.code _ _ _ _ _ _ _ hk ⟨s.t, h'.set s.h.length (.loop .exhausted (some c) tm ps' as' bd')⟩ ⟨h1, rfl, h3⟩
              refine ⟨s', h4, fun ro K hro hK => ?_⟩
              rw [hro rfl]
              exact T_rangeFunc hg hcal hr ho hne (h5 none K (fun _ => rfl) hK)
          split at hk
          · cases hk
          · rename_i hne
            exact hst (hk' := hne) hk
        · cases hk
      · cases hk
    · cases hk
theorem loopBody_ok (top : Bool) (b n : Nat) (c : Code) {f : Sx → Option (Exit × Sx)} (ih : CodeOk P top b n c f) : ∀ sx x sx', loopS Kp I top b n c f sx = some (x, sx') → ∀ s, RepS n sx s → ∃ s', RepS n sx' s' ∧ ∀ ro K, (top = true → ro = none) → K x s' → b ≤ s.h.length → T P b ro c s (againK P b ro c K) := by
  rintro ⟨t, h⟩ x sx' hk s hs
  have h2 := hs.2.1
  simp only at h2
  simp only [loopS, seqS] at hk
  split at hk
  · rename_i s1 hb
    obtain ⟨s1', h3, h4⟩ := ih _ _ _ hb s hs
    obtain ⟨sx2, s2, h5, h6, h7⟩ := gcK_some h3 hk
    obtain ⟨s', h8, h9⟩ := HI.loop _ _ _ _ _ _ _ h7 s2 h5
    refine ⟨s', h8, fun ro K hro hK hle => h4 ro _ hro ?_⟩
    show TL P b ro c s1' K
    exact TL_gc h6 (by rw [← h2]; exact hle) (h9 ro K hro hK)
  · rename_i hne
    obtain ⟨s', h3, h4⟩ := ih _ _ _ hk s hs
    refine ⟨s', h3, fun ro K hro hK hle => h4 ro _ hro ?_⟩
    cases x with
    | normal => exact absurd hk (hne _)
    | _ => exact hK
theorem codeS_ok (top : Bool) (b n : Nat) : ∀ c, CodeOk P top b n c (codeS F Kp I top b n c)
  | .skip => by
    intro sx x sx' hk s hs
    have : some (Exit.normal, sx) = some (x, sx') := hk
    simp only [Option.some.injEq, Prod.mk.injEq] at this
    obtain ⟨rfl, rfl⟩ := this
    exact ⟨s, hs, fun ro K _ hK => T_skip hK⟩
  | .exit id => by
    intro sx x sx' hk s hs
    have : some (Exit.exit id, sx) = some (x, sx') := hk
    simp only [Option.some.injEq, Prod.mk.injEq] at this
    obtain ⟨rfl, rfl⟩ := this
    exact ⟨s, hs, fun ro K _ hK => T_exit hK⟩
  | .ret => by
    intro sx x sx' hk s hs
    have : some (Exit.ret, sx) = some (x, sx') := hk
    simp only [Option.some.injEq, Prod.mk.injEq] at this
    obtain ⟨rfl, rfl⟩ := this
    exact ⟨s, hs, fun ro K _ hK => T_ret hK⟩
  | .label l => by
    intro sx x sx' hk s hs
    have : some (Exit.normal, sx) = some (x, sx') := hk
    simp only [Option.some.injEq, Prod.mk.injEq] at this
    obtain ⟨rfl, rfl⟩ := this
    exact ⟨s, hs, fun ro K _ hK => T_label hK⟩
  | .goto l => fun sx x sx' hk => by cases hk
  | .refuse w => fun sx x sx' hk => by cases hk
  | .region id ops draw => by
    rintro ⟨t, h⟩ x sx' hk s hs
    have hk' : regC (regS F I ops draw t h) = some (x, sx') := hk
    obtain ⟨h1, h2, h3⟩ := hs
    simp only at h1 h2
    rw [← h2] at hk'
    cases hr : regS F I ops draw t s.h with
    | none => rw [hr] at hk'; cases hk'
    | some sx1 =>
      rw [hr] at hk'
      obtain ⟨t1, hh1⟩ := sx1
      simp only [regC, Option.some.injEq, Prod.mk.injEq] at hk'
      obtain ⟨rfl, rfl⟩ := hk'
      obtain ⟨s', h4, h5⟩ := regS_some F HI (id := id) h1 hr
      rw [h3] at h4
      exact ⟨s', h4, fun ro K _ hK => h5 b ro K hK⟩
  | .seq x y => by
    intro sx e sx' hk s hs
    have hk' : seqS (codeS F Kp I top b n x sx) (codeS F Kp I top b n y) = some (e, sx') := hk
    unfold seqS at hk'
    split at hk'
    · rename_i s1 hx
      obtain ⟨s1', h1, h2⟩ := codeS_ok top b n x _ _ _ hx s hs
      obtain ⟨s', h3, h4⟩ := codeS_ok top b n y _ _ _ hk' s1' h1
      exact ⟨s', h3, fun ro K hro hK => T_seq (h2 ro _ hro (h4 ro K hro hK))⟩
    · rename_i hne
      obtain ⟨s', h1, h2⟩ := codeS_ok top b n x _ _ _ hk' s hs
      refine ⟨s', h1, fun ro K hro hK => T_seq (h2 ro _ hro ?_)⟩
      cases e with
      | normal => exact absurd hk' (hne _)
      | _ => exact hK
  | .cond c x y => by
    intro sx e sx' hk s hs
    have hk' : condS (evT sx.t c) (codeS F Kp I top b n x sx) (codeS F Kp I top b n y sx) = some (e, sx') := hk
    rw [evT_eq hs.1] at hk'
    unfold condS at hk'
    split at hk'
    · rename_i hc
      obtain ⟨s', h1, h2⟩ := codeS_ok top b n x _ _ _ hk' s hs
      exact ⟨s', h1, fun ro K hro hK => T_cond hc (by simpa using h2 ro K hro hK)⟩
    · rename_i hc
      obtain ⟨s', h1, h2⟩ := codeS_ok top b n y _ _ _ hk' s hs
      exact ⟨s', h1, fun ro K hro hK => T_cond hc (by simpa using h2 ro K hro hK)⟩
    · cases hk'
  | .block id c => by
    intro sx e sx' hk s hs
    have hk' : blockS id (codeS F Kp I top b n c sx) = some (e, sx') := hk
    unfold blockS at hk'
    split at hk'
    · rename_i j s1 hc
      obtain ⟨s', h1, h2⟩ := codeS_ok top b n c _ _ _ hc s hs
      split at hk'
      · rename_i hj
        simp only [Option.some.injEq, Prod.mk.injEq] at hk'
        obtain ⟨rfl, rfl⟩ := hk'
        exact ⟨s', h1, fun ro K hro hK => T_block (h2 ro _ hro (by simp only [blockK, hj, if_true]; exact hK))⟩
      · rename_i hj
        simp only [Option.some.injEq, Prod.mk.injEq] at hk'
        obtain ⟨rfl, rfl⟩ := hk'
        exact ⟨s', h1, fun ro K hro hK => T_block (h2 ro _ hro (by simp only [blockK, hj, if_false]; exact hK))⟩
    · rename_i hne
      obtain ⟨s', h1, h2⟩ := codeS_ok top b n c _ _ _ hk' s hs
      refine ⟨s', h1, fun ro K hro hK => T_block (h2 ro _ hro ?_)⟩
      cases e with
      | exit j => exact absurd hk' (hne _ _)
      | _ => exact hK
  | .scope c => by
    intro sx e sx' hk s hs
    have hk' : scopeS (codeS F Kp I top b n c sx) = some (e, sx') := hk
    unfold scopeS at hk'
    split at hk'
    · cases hk'
    · rename_i hne
      obtain ⟨s', h1, h2⟩ := codeS_ok top b n c _ _ _ hk' s hs
      refine ⟨s', h1, fun ro K hro hK => T_scope (h2 ro _ hro ?_)⟩
      cases e with
      | goto l => exact absurd hk' (hne _ _)
      | _ => exact hK
  | .loop c => by
    intro sx e sx' hk s hs
    have hk' : loopS Kp I top b n c (codeS F Kp I top b n c) sx = some (e, sx') := hk
    obtain ⟨s', h1, h2⟩ := loopBody_ok HI Kp top b n c (codeS_ok top b n c) _ _ _ hk' s hs
    exact ⟨s', h1, fun ro K hro hK => T_of_again (fun hle => h2 ro K hro hK hle)⟩
  | .rangeFunc g ps asg bd => rangeS_ok HI top b n g ps asg bd
theorem loopS_ok (top : Bool) (b n : Nat) (c : Code) : ∀ sx x sx', codeS F Kp I top b n (.loop c) sx = some (x, sx') → ∀ s, RepS n sx s → ∃ s', RepS n sx' s' ∧ ∀ ro K, (top = true → ro = none) → K x s' → TL P b ro c s K := by
  intro sx e sx' hk s hs
  have hk' : loopS Kp I top b n c (codeS F Kp I top b n c) sx = some (e, sx') := hk
  obtain ⟨s', h1, h2⟩ := loopBody_ok HI Kp top b n c (codeS_ok F HI Kp top b n c) _ _ _ hk' s hs
  exact ⟨s', h1, fun ro K hro hK => TL_of (fun hle => h2 ro K hro hK hle)⟩
/-- A body that was run. -/
theorem bodyS_some {β : Type} {fn : Func} {args : List V} {b : Nat} {h : List AObj} {k : Sx → Option β} {out : β} (hk : bodyS I fn args b h k = some out) :
    ∃ c x sx s', fn.body = some c ∧ (x = .normal ∨ x = .ret) ∧ RepS fn.ntmps sx s' ∧ k sx = some out ∧ ∀ K : Exit → St → Prop, K x s' → T P b none c ⟨enter fn args, h⟩ K := by
  unfold bodyS at hk
  split at hk
  · rename_i hn
    simp only [Bool.and_eq_true, decide_eq_true_eq] at hn
    split at hk
    · rename_i c hb
      obtain ⟨tr, h1, h2⟩ := enter_rep (α := Option (Exit × Sx)) fn args hn.1 hn.2
      rw [h1] at hk
      have hlen : (enter fn args).length = fn.ntmps := by simp [enter]; omega
      have main : ∀ x sx, (x = .normal ∨ x = .ret) → I.code true b fn.ntmps c ⟨tr, h⟩ = some (x, sx) → k sx = some out → ∃ c x sx s', fn.body = some c ∧ (x = .normal ∨ x = .ret) ∧ RepS fn.ntmps sx s' ∧ k sx = some out ∧ ∀ K : Exit → St → Prop, K x s' → T P b none c ⟨enter fn args, h⟩ K := fun x sx hx hc hk => by
        obtain ⟨s', h3, h4⟩ := HI.code _ _ _ _ _ _ _ hc ⟨enter fn args, h⟩ ⟨h2, rfl, hlen⟩
        exact ⟨c, x, sx, s', hb, hx, h3, hk, fun K hK => h4 none K (fun _ => rfl) hK⟩
      split at hk
      · rename_i s hc; exact main _ _ (.inl rfl) hc hk
      · rename_i s hc; exact main _ _ (.inr rfl) hc hk
      · cases hk
    · cases hk
  · cases hk
omit HI in
theorem resG_eq {fn : Func} {sx : Sx} {s : St} (h : RepS fn.ntmps sx s) : resG P fn sx.t sx.h = resV P fn s := by
  rw [h.eq]; rfl
theorem dataS_ok {X : FuncId → List V → Option V} (hX : ∀ g args r, X g args = some r → Ret P g args r ∧ Callee P g) (hN : ∀ (g : Nat) fn, P.funcs[g]? = some fn → (fn.name == "runtime.NumGoroutine") = false) (g : FuncId) (args : List V) (r : V) (hk : dataS (P := P) X I g args = some r) : Ret P g args r ∧ Callee P g := by
  unfold dataS at hk
  split at hk
  · rename_i r' hx
    simp only [Option.some.injEq] at hk; subst hk
    exact hX _ _ _ hx
  · split at hk
    · rename_i fn hf
      obtain ⟨c, x, sx, s', hb, hx, hs, hk2, hT⟩ := bodyS_some HI hk
      refine ⟨?_, fn, hf, by rw [hb]; rfl, hN _ _ hf⟩
      rw [resG_eq hs] at hk2
      split at hk2
      · rename_i r0 hr0
        split at hk2
        · rename_i r1 hr1
          simp only [fV_eq, Option.some.injEq] at hk2
          subst hk2
          refine Ret_introU hf hb (hT _ ⟨?_, r0, hr0, 4, ?_⟩)
          · rcases hx with rfl | rfl <;> trivial
          · rw [hs.2.1]; exact hr1
        · cases hk2
      · cases hk2
    · cases hk
end
end Go.Ab
namespace Go.Ab
open Go Go.RowKit
set_option linter.unusedVariables false
set_option linter.unusedSimpArgs false
theorem T_toQ {P : Program} {b : Nat} {ro : Option Nat} {c : Code} {s : St} {K : Exit → St → Prop} {i j n T T' sz : Nat} {cs : List V} {rows : List (List V)} (hi : s.h[i]? = some (.box T (.arr j n :: cs))) (hj : s.h[j]? = some (.arr T' sz rows false))
    (h : Ab.T P b ro c ⟨s.t, (s.h.set j (.que T' sz rows)).set i (.box T (.arrd j n 0 :: cs))⟩ K) : Ab.T P b ro c s K := by
  intro C E0 m a w hb L S
  have hne : i ≠ j := fun e => by subst e; rw [hi] at hj; cases hj
  have hil := (List.getElem?_eq_some_iff.1 hi).1
  have hjl := (List.getElem?_eq_some_iff.1 hj).1
  have gi : ((s.h.set j (.que T' sz rows)).set i (.box T (.arrd j n 0 :: cs)))[i]? = some (.box T (.arrd j n 0 :: cs)) := by
    rw [List.getElem?_set_self (by simpa using hil)]
  have gj : ((s.h.set j (.que T' sz rows)).set i (.box T (.arrd j n 0 :: cs)))[j]? = some (.que T' sz rows) := by
    rw [List.getElem?_set_ne hne, List.getElem?_set_self hjl]
  have gk : ∀ k, k ≠ i → k ≠ j → ((s.h.set j (.que T' sz rows)).set i (.box T (.arrd j n 0 :: cs)))[k]? = s.h[k]? := fun k h1 h2 => by
    rw [List.getElem?_set_ne (Ne.symm h1), List.getElem?_set_ne (Ne.symm h2)]
  generalize hh : (s.h.set j (.que T' sz rows)).set i (.box T (.arrd j n 0 :: cs)) = h' at *
  have hlen : h'.length = s.h.length := by rw [← hh]; simp
  have Le : Env.Le (fun _ => true) (env C s.h m w) (env C h' m w) := by
    refine ⟨fun b0 _ hbd => ?_, fun _ _ _ => rfl, Nat.le_refl _, fun _ _ _ h _ => h, fun k _ hk => ⟨by simp only [env] at *; omega, fun T1 sz1 rows1 fr1 ho => ?_⟩, fun k _ T1 sz1 rows1 ho => ?_⟩
    · rcases hbd with hbd | ⟨k, o, v, h1, h2, h3, h4⟩
      · exact .inl hbd
      · by_cases hki : k = i
        · subst hki; exact .inr ⟨k, _, v, hi, rfl, h3, h4⟩
        · by_cases hkj : k = j
          · subst hkj; exact .inr ⟨k, _, v, hj, rfl, h3, h4⟩
          · rw [gk k hki hkj] at h1; exact .inr ⟨k, o, v, h1, h2, h3, h4⟩
    · simp only [env] at ho hk ⊢
      by_cases hki : k = i
      · subst hki; rw [gi] at ho; cases ho
      · by_cases hkj : k = j
        · subst hkj; rw [gj] at ho; cases ho
        · rw [gk k hki hkj] at ho; exact ⟨_, _, _, ho, Nat.le_refl _, fun _ => trivial⟩
    · simp only [env] at ho ⊢
      have hki : k ≠ i := fun e => by subst e; rw [hi] at ho; cases ho
      have hkj : k ≠ j := fun e => by subst e; rw [hj] at ho; cases ho
      exact ⟨rows1, by rw [gk k hki hkj]; exact ho, Nat.le_refl _, fun _ => trivial⟩
  refine h C E0 m a w hb (L.trans (LeN.of (by simp [env, hlen]) Le)) ⟨S.below, S.out, by simpa [hlen] using S.len, S.slots.le Le, S.defers.le Le, fun k o v ho hv => ?_, S.apart, S.low⟩
  simp only at ho
  by_cases hki : k = i
  · subst hki
    rw [gi] at ho; cases ho
    obtain ⟨b0, vs, rfl, h1, h2, h3⟩ := S.objs k _ _ hi hv
    refine ⟨b0, vs, rfl, h1, h2, ?_⟩
    simp only [RelL] at h3 ⊢
    obtain ⟨u, us, he, hu, hus⟩ := h3
    refine ⟨u, us, he, ?_, hus.le Le⟩
    simp only [Rel, env] at hu ⊢
    obtain ⟨hle, hm⟩ := hu.2 _ _ _ _ hj
    refine ⟨T', sz, rows, gj, hle, fun hn => ?_⟩
    have hmj := hm hn
    obtain ⟨us', hown, _, _⟩ := S.objs j _ _ hj hmj
    obtain ⟨A, c0, rfl, hnc, _, hA, _⟩ := owns_shape hown
    refine ⟨A, c0, 0, by rw [hmj, hn]; simp, Nat.le_refl _, Nat.zero_le _, by omega, A, by rw [hn]; simp, ?_⟩
    cases A with
    | none =>
      rcases hown.2 with ⟨he, _⟩ | ⟨g, cap, cur, he, _⟩
      · simp only [Value.slice.injEq] at he; exact .inl (by omega)
      · simp at he
    | some ad =>
      obtain ⟨g, rfl⟩ := hA _ rfl
      exact .inr ⟨g, rfl, by simp⟩
  · by_cases hkj : k = j
    · subst hkj
      rw [gj] at ho; cases ho
      obtain ⟨us, h1, h2, h3⟩ := S.objs k _ _ hj hv
      exact ⟨us, 0, Nat.zero_le _, by simpa [env] using h1, by simpa using h2.le Le, h3⟩
    · rw [gk k hki hkj] at ho
      exact RelObj.keep Le (fun _ _ => rfl) (S.objs k o v ho hv)
section
variable {P : Program} (F : Facts P) {I : Interp} (HI : SoundI P I) (Kp : Nat → Bool)
include HI
omit HI in
theorem T_toQ' {b : Nat} {ro : Option Nat} {c : Code} {t : List V} {h : List AObj} {args : List V} {K : Exit → St → Prop} (hT : T P b ro c ⟨t, toQ h args⟩ K) : T P b ro c ⟨t, h⟩ K := by
  unfold toQ at hT
  split at hT
  · split at hT
    · rename_i hi
      split at hT
      · rename_i hj
        exact T_toQ (s := ⟨t, h⟩) hi hj hT
      · exact hT
    · exact hT
  · exact hT
theorem callS_ok {Q : FuncId → Bool} (hN : ∀ (g : Nat) fn, P.funcs[g]? = some fn → (fn.name == "runtime.NumGoroutine") = false) (g : FuncId) (args : List V) (h : List AObj) (r : V) (h' : List AObj) (hk : callS (P := P) Q I g args h = some (r, h')) : RetS P g args h r h' ∧ Callee P g := by
  unfold callS at hk
  split at hk
  · rename_i r1 hd
    simp only [fH_eq, Option.some.injEq, Prod.mk.injEq] at hk
    obtain ⟨rfl, rfl⟩ := hk
    cases hc : convDL (fun b => b) (frzD h args) args with
    | none => rw [hc] at hd; cases hd
    | some dargs =>
      rw [hc] at hd
      obtain ⟨h1, h2⟩ := HI.data _ _ _ hd
      exact ⟨Ret.shared h1 rfl hc, h2⟩
  · split at hk
    · rename_i fn hf
      rw [fH_eq] at hk
      obtain ⟨c, x, sx, s', hb, hx, hs, hk2, hT⟩ := bodyS_some HI hk
      refine ⟨?_, fn, hf, by rw [hb]; rfl, hN _ _ hf⟩
      rw [resG_eq hs] at hk2
      split at hk2
      · rename_i r0 hr0
        obtain ⟨rfl, n', h1, h2, h3, h4, h5⟩ := leave_some hk2
        have hTT : T P h.length none c ⟨enter fn args, h⟩ (fun x s => (match x with | .normal | .ret => True | _ => False) ∧ resV P fn s = some r ∧ ∃ n, h.length ≤ n ∧ n ≤ s.h.length ∧ s.h.take n = h' ∧ r.all (fun i => decide (i < n)) = true ∧ ∀ o ∈ h', o.all (fun i => decide (i < n)) = true) := by
          have hbody := hT (fun x s => (match x with | .normal | .ret => True | _ => False) ∧ resV P fn s = some r ∧ ∃ n, h.length ≤ n ∧ n ≤ s.h.length ∧ s.h.take n = h' ∧ r.all (fun i => decide (i < n)) = true ∧ ∀ o ∈ h', o.all (fun i => decide (i < n)) = true)
            ⟨by rcases hx with rfl | rfl <;> trivial, hr0, n', h1, by rw [hs.2.1]; exact h2, by rw [hs.2.1]; exact h3, h4, h5⟩
          split at hbody
          · exact T_toQ' hbody
          · exact hbody
        exact RetS_intro hf hb hTT
      · cases hk2
    · cases hk
omit HI in
theorem zipSet_length : ∀ (ps : List Tmp) (t asg : List V), (zipSet t ps asg).length = t.length
  | [], t, asg => by simp [zipSet]
  | p :: ps, t, [] => by simp [zipSet]
  | p :: ps, t, a :: asg => by simp [zipSet, zipSet_length ps]
theorem yldS_ok (j : Nat) (vs : List V) (h : List AObj) (r : V) (h' : List AObj) (hk : yldS I j vs h = some (r, h')) : RetY P j vs h r h' := by
  unfold yldS at hk
  split at hk
  · rename_i pe tm ps asg bd ho
    split at hk
    · rename_i hc
      simp only [Bool.and_eq_true, beq_iff_eq, decide_eq_true_eq] at hc
      obtain ⟨tr, h1, h2⟩ := setL_rep (α := Option (Exit × Sx)) (zipSet tm ps.toList vs) 0 _ _ (mkTr_rep tm.length hc.2)
      rw [h1] at hk
      have hz := zipSet_length ps.toList tm vs
      have hrep : Rep tr (zipSet tm ps.toList vs) := by
        have e : (List.replicate tm.length V.undef).take 0 ++ (zipSet tm ps.toList vs ++ (List.replicate tm.length V.undef).drop (0 + (zipSet tm ps.toList vs).length)).take ((List.replicate tm.length V.undef).length - 0) = zipSet tm ps.toList vs := by
          simp only [List.take_zero, List.nil_append, Nat.zero_add, List.length_replicate, Nat.sub_zero, hz]
          rw [List.drop_eq_nil_of_le (by simp), List.append_nil, List.take_of_length_le (by omega)]
        rw [e] at h2; exact h2
      split at hk
      · rename_i s1 has
        obtain ⟨s1', h3, h4⟩ := HI.code _ _ _ _ _ _ _ has ⟨zipSet tm ps.toList vs, h⟩ ⟨hrep, rfl, hz⟩
        split at hk
        · rename_i pe1 tm1 ps1 as1 bd1 ho1
          rw [fH_eq] at hk
          split at hk
          · rename_i x s2 hbd
            obtain ⟨s2', h5, h6⟩ := HI.code _ _ _ _ _ _ _ hbd ⟨s1'.t, s1.h.set j (.loop .busy pe1 tm1 ps1 as1 bd1)⟩ ⟨h3.1, rfl, h3.2.2⟩
            split at hk
            · rename_i jump hx
              split at hk
              · rename_i pe2 tm2 ps2 as2 bd2 ho2
                obtain ⟨rfl, n', k1, k2, k3, k4, k5⟩ := leave_some hk
                refine RetY_intro ho (by simpa using hc.1) (fun ro => h4 ro _ (fun hh => by cases hh) ⟨rfl, pe1, tm1, ps1, as1, bd1, by rw [h3.2.1]; exact ho1, ?_⟩)
                rw [h3.2.1]
                refine h6 ro _ (fun hh => by cases hh) ⟨jump, pe2, tm2, ps2, as2, bd2, n', hx, by rw [h5.2.1]; exact ho2, rfl, k1, by rw [h5.2.1]; simpa using k2, by rw [h5.2.1]; exact k3, k5⟩
              · cases hk
            · cases hk
          · cases hk
        · cases hk
      · cases hk
    · cases hk
  · cases hk
theorem SoundI.step {X : FuncId → List V → Option V} {Q : FuncId → Bool} (hX : ∀ g args r, X g args = some r → Ret P g args r ∧ Callee P g) (hN : ∀ (g : Nat) fn, P.funcs[g]? = some fn → (fn.name == "runtime.NumGoroutine") = false) : SoundI P (Interp.step F Kp X Q I) where
  code top b n c := codeS_ok F HI Kp top b n c
  loop top b n c := loopS_ok F HI Kp top b n c
  data := dataS_ok HI hX hN
  call := callS_ok HI hN
  yld := yldS_ok HI
end
theorem Interp.sound {P : Program} (F : Facts P) (Kp : Nat → Bool) {X : FuncId → List V → Option V} {Q : FuncId → Bool} (hX : ∀ g args r, X g args = some r → Ret P g args r ∧ Callee P g) (hN : ∀ (g : Nat) fn, P.funcs[g]? = some fn → (fn.name == "runtime.NumGoroutine") = false) : ∀ n, SoundI P (Interp.run F Kp X Q n)
  | 0 => SoundI.bot P
  | n + 1 => SoundI.step F (Interp.sound F Kp hX hN n) Kp hX hN
/-- What is run on data is so. -/
theorem Ret.of_run {P : Program} (F : Facts P) (Kp : Nat → Bool) {X : FuncId → List V → Option V} (Q : FuncId → Bool) (n : Nat) (hX : ∀ g args r, X g args = some r → Ret P g args r ∧ Callee P g) (hN : ∀ (g : Nat) fn, P.funcs[g]? = some fn → (fn.name == "runtime.NumGoroutine") = false) {g : FuncId} {args : List V} {r : V}
    (h : (Interp.run F Kp X Q n).data g args = some r) : Ret P g args r := ((Interp.sound F Kp hX hN n).data g args r h).1
end Go.Ab
namespace Go.Ab
open Go Go.RowKit
set_option linter.unusedVariables false
set_option linter.unusedSimpArgs false
/-! ### calls that give up, and calls that are put off -/
/-- What a value is, where no address is needed to tell it. -/
def toCell : V → Option Value
  | .bool b => some (.bool b)
  | .int k n => some (.int k n)
  | _ => none
def toCells : List V → Option (List Value)
  | [] => some []
  | c :: cs => match toCell c, toCells cs with
    | some u, some us => some (u :: us)
    | _, _ => none
def toVal : V → Option Value
  | .iface t (.agg cs) => match toCells cs with
    | some us => some (.iface t (.agg us.toArray))
    | none => none
  | _ => none
theorem toCell_rel {E : Env} {x : V} {u v : Value} (h : toCell x = some u) (hr : Rel E x v) : v = u := by
  cases x <;> simp only [toCell, Option.some.injEq, reduceCtorEq] at h <;> subst h <;> simpa only [Rel] using hr
theorem toCells_rel {E : Env} : ∀ {xs : List V} {us vs : List Value}, toCells xs = some us → RelL E xs vs → vs = us
  | [], us, vs, h, hr => by
    simp only [toCells, Option.some.injEq] at h; subst h
    simpa only [RelL] using hr
  | c :: cs, us, vs, h, hr => by
    simp only [toCells] at h
    split at h
    · rename_i u us' h1 h2
      simp only [Option.some.injEq] at h; subst h
      simp only [RelL] at hr
      obtain ⟨v, vs', rfl, h3, h4⟩ := hr
      rw [toCell_rel h1 h3, toCells_rel h2 h4]
    · cases h
theorem toVal_rel {E : Env} {x : V} {u v : Value} (h : toVal x = some u) (hr : Rel E x v) : v = u := by
  unfold toVal at h
  split at h
  · rename_i t cs
    split at h
    · rename_i us hc
      simp only [Option.some.injEq] at h; subst h
      simp only [Rel] at hr
      obtain ⟨y, rfl, vs, rfl, hR⟩ := hr
      have := toCells_rel hc hR
      have e : vs = us.toArray := by rw [← this]
      rw [e]
    · cases h
  · cases h
theorem toCell_of {E : Env} {x : V} {u : Value} (h : toCell x = some u) : Rel E x u := by
  cases x <;> simp only [toCell, Option.some.injEq, reduceCtorEq] at h <;> subst h <;> simp only [Rel]
theorem toCells_of {E : Env} : ∀ {xs : List V} {us : List Value}, toCells xs = some us → RelL E xs us
  | [], us, h => by simp only [toCells, Option.some.injEq] at h; subst h; simp only [RelL]
  | c :: cs, us, h => by
    simp only [toCells] at h
    split at h
    · rename_i u us' h1 h2
      simp only [Option.some.injEq] at h; subst h
      simp only [RelL]
      exact ⟨u, us', rfl, toCell_of h1, toCells_of h2⟩
    · cases h
theorem toVal_of {E : Env} {x : V} {u : Value} (h : toVal x = some u) : Rel E x u := by
  unfold toVal at h
  split at h
  · rename_i t cs
    split at h
    · rename_i us hc
      simp only [Option.some.injEq] at h; subst h
      simp only [Rel]
      exact ⟨_, rfl, _, rfl, toCells_of hc⟩
    · cases h
  · cases h
def chainOf (u : Value) : List PanicEntry := [{ v := u, recovered := false }]
/-- Calling f with data gives up with u; all that was there stays as it was. -/
def Pan (P : Program) (f : FuncId) (args : List V) (u : Value) : Prop :=
  ∀ (bad : Nat → Prop) (w : World) (cargs : Array Value), (∀ b, bad b → b < w.heap.size) → RelL ⟨bad, [], [], w⟩ args cargs.toList →
    Calls P f cargs w fun e w' => e = .panicked (chainOf u) ∧ Below w.heap.size w w'
theorem Pan_intro {P : Program} {f : FuncId} {fn : Func} {c : Code} {args : List V} {u : Value} (hf : P.funcs[f]? = some fn) (hb : fn.body = some c)
    (hT : T P 0 none c ⟨enter fn args, []⟩ (fun x s => x = .panic (chainOf u))) : Pan P f args u := by
  intro bad w cargs hbad hR
  refine (callsIn_wide (n := 0)).1 ?_
  refine callsIn_of_wp_marks hf hb trivial ?_
  have hlen := hR.length
  have hle : Env.Le (fun _ => true) ⟨bad, [], [], w⟩ (env ⟨bad, w, w.heap.size, []⟩ [] [] w) :=
    ⟨fun b _ h => by rcases h with h | ⟨i, o, v, h1, _⟩; exact h; simp at h1, fun _ _ _ => rfl, Nat.le_refl _, fun i _ v h => by simp at h, fun i _ h => by simp at h, fun i _ T sz rows h => by simp at h⟩
  have S0 : Sim ⟨bad, w, w.heap.size, []⟩ ⟨enter fn args, []⟩ [] { tmps := cargs ++ Array.replicate (fn.ntmps - cargs.size) undef, defers := [] } w := by
    refine ⟨Below.refl _ _, hbad, rfl, ?_, Marks.nil (Nat.le_refl _) (Nat.le_refl _), fun i o v h => by simp at h, fun i j v u b _ h => by simp at h, fun i v b h => by simp at h⟩
    simp only [enter, Array.toList_append, Array.toList_replicate]
    have : args.length = cargs.size := by simpa using hlen
    rw [this]
    exact (hR.le hle).append (RelL.undefs _)
  have hw := hT ⟨bad, w, w.heap.size, []⟩ (env ⟨bad, w, w.heap.size, []⟩ [] [] w) [] _ w rfl (LeN.refl _) S0
  refine wpIn_mono hw ?_
  rintro e a' w' ⟨s', m', rfl, S', L'⟩
  show LeavesInM Fence.wide 0 P fn a'.tmps _ a'.defers (.panicking (chainOf u)) w'
  refine leaves_mk (C := ⟨bad, w, w.heap.size, []⟩) (E0 := env ⟨bad, w, w.heap.size, []⟩ [] [] w) (s := s') (m := m') (Nat.le_refl _) (by simp) (fun w' S' L' => ?_) S' L'
  show LeavesInM Fence.wide 0 P fn a'.tmps _ [] (.panicking (chainOf u)) w'
  unfold LeavesInM
  exact ⟨rfl, S'.below⟩
section
variable {P : Program} {b : Nat} {ro : Option Nat} {s s1 : St} {K : Exit → St → Prop} {id : Nat} {ops : Array Oper}
theorem RunR.then {F : Facts P} {l l2 : List Nat} {s s' : St} (h : RunR F ops l s s') (ro : Option Nat) : ∀ {C : Ctx} {m : List Value} {a : Act} {w : World} (S : Sim C s m a w) {Q : Exit → Act → World → Prop}
    (k : ∀ m' a' w', Sim C s' m' a' w' → LeN (env C s.h m w) (env C s'.h m' w') → wpOpsIn (FW ro) 0 P ops Q l2 a' w'), wpOpsIn (FW ro) 0 P ops Q (l ++ l2) a w := by
  induction h with
  | nil =>
    intro C m a w S Q k
    exact k m a w S (LeN.refl _)
  | cons h1 h2 ih =>
    intro C m a w S Q k
    exact h1.sound ro S (fun m1 a1 w1 S1 L1 => ih S1 (fun m2 a2 w2 S2 L2 => k m2 a2 w2 S2 (L1.trans L2)))
/-- A region in which a call gives up. -/
theorem T_regPan {F : Facts P} {l1 l2 : List Nat} {i : Nat} {o : Oper} {x : Operand} {args : Array Operand} {ts : Array TypeId} {g : FuncId} {first caps vs dargs : List V} {u : Value} (hl : List.range ops.size = l1 ++ i :: l2) (h1 : RunR F ops l1 s s1) (ho : ops[i]? = some o) (hw : wantedV ops s1 o = some true)
    (hop : o.op = .call ⟨.value x, args, ts⟩) (hx : ev s1 x = some (.fn g first caps)) (ha : evs s1 args.toList = some vs) (hb : ∃ fn, P.funcs[g]? = some fn ∧ fn.body.isSome = true ∧ (fn.name == "runtime.NumGoroutine") = false)
    (hc : convDL (fun b => b) s1.h (first ++ vs ++ caps) = some dargs) (hr : Pan P g dargs u) (k : K (.panic (chainOf u)) s1) : T P b ro (.region id ops false) s K := fun C E0 m a w hb0 L S => by
  refine wpIn_region ?_
  rw [hl]
  refine h1.then ro S (fun m1 a1 w1 S1 L1 => ?_)
  unfold wpOpsIn
  simp only [ho, wantedV_sound S1 hw, if_true]
  refine ⟨fun _ _ => trivial, ?_⟩
  rw [Oper.semAt_eq _ _ _ (fun c hc => by simp [hc] at hop)]
  have hRx := ev_sound S1 hx
  simp only [Rel] at hRx
  obtain ⟨fa, ca, he, h2, h3⟩ := hRx
  have hRa := evs_sound S1 ha
  obtain ⟨fn, hfn, hbody, hname⟩ := hb
  have hnb : ¬ fn.body = none := fun e => by simp [e] at hbody
  have hne : ¬ fn.name = "runtime.NumGoroutine" := by simpa using hname
  have hcf : ∀ cargs, (callFunc g cargs).run P w1 = .ok (.enter g cargs) w1 := fun cargs => by
    simp [callFunc, hfn, hne, hnb]
  have hrun : (execOp a1.eval o).run P w1 = .ok (.enter g (fa ++ args.map a1.eval ++ ca)) w1 := by
    simp [execOp, hop, resolve, he, Deferred.ofValue, invoke, hcf]
  rw [hrun]
  refine ⟨fun h => by simp [FW, Fence.wide] at h, Calls.inFW ro _ ?_⟩
  have hargs : RelL (env C s1.h m1 w1) (first ++ vs ++ caps) (fa ++ args.map a1.eval ++ ca).toList := by
    simp only [Array.toList_append, Array.toList_map]
    exact (h2.append hRa).append h3
  have hbad : ∀ b, (env C s1.h m1 w1).bad b → b < w1.heap.size := fun b hb => by
    rcases hb with hb | ⟨i, o, v, _, _, h3, h4⟩
    · exact Nat.lt_of_lt_of_le (S1.out b hb) S1.below.size
    · exact (S1.low i v b h3 h4).2
  obtain ⟨hD, _⟩ := convDL_sound S1 (ok := fun b => b) (bad := (env C s1.h m1 w1).bad) (fun b _ h => h) (fun i T sz rows fr v b ho hfr hm hb hbd => by
    rcases hbd with hbd | ⟨j, o, u, h2, h3, h4, h5⟩
    · have h6 := (S1.low i v b hm hb).1
      have h7 := S1.out b hbd
      omega
    · by_cases hij : i = j
      · subst hij
        rw [ho] at h2; cases h2
        simp [AObj.live, hfr] at h3
      · exact S1.apart i j v u b hij hm h4 hb h5) hargs hc
  refine Calls.mono (hr _ w1 _ hbad hD) ?_
  rintro e w' ⟨rfl, hbel⟩
  exact ⟨s1, m1, k, S1.world hbel, (L.trans L1).trans (LeN.of (Nat.le_refl _) (le_world hbel))⟩
/-- A region that gives up by itself. -/
theorem T_regPanic {F : Facts P} {l1 l2 : List Nat} {i : Nat} {o : Oper} {x : Operand} {v : V} {u : Value} (hl : List.range ops.size = l1 ++ i :: l2) (h1 : RunR F ops l1 s s1) (ho : ops[i]? = some o) (hw : wantedV ops s1 o = some true)
    (hop : o.op = .panic x) (hx : ev s1 x = some v) (hv : toVal v = some u) (k : K (.panic (chainOf u)) s1) : T P b ro (.region id ops false) s K := fun C E0 m a w hb0 L S => by
  refine wpIn_region ?_
  rw [hl]
  refine h1.then ro S (fun m1 a1 w1 S1 L1 => ?_)
  unfold wpOpsIn
  simp only [ho, wantedV_sound S1 hw, if_true]
  refine ⟨fun _ _ => trivial, ?_⟩
  rw [Oper.semAt_eq _ _ _ (fun c hc => by simp [hc] at hop)]
  have hu := toVal_rel hv (ev_sound S1 hx)
  have hui : ∃ t y, u = .iface t y := by
    unfold toVal at hv
    split at hv
    · split at hv
      · simp only [Option.some.injEq] at hv; exact ⟨_, _, hv.symm⟩
      · cases hv
    · cases hv
  obtain ⟨t, y, rfl⟩ := hui
  have hrun : (execOp a1.eval o).run P w1 = .halt (.panic (.iface t y)) w1 := by
    simp [execOp, hop, hu, Instr.panic, goPanic, Sem.run]
  rw [hrun]
  exact ⟨s1, m1, k, S1, L.trans L1⟩
end
end Go.Ab
namespace Go.Ab
open Go Go.RowKit
set_option linter.unusedVariables false
set_option linter.unusedSimpArgs false
/-- Marks, shut one behind the other. -/
def shuts (P : Program) : List Deferred → World → World → Prop
  | [], w, w' => w' = w
  | d :: ds, w, w' => ∃ r w1, d.target = .collected r ∧ (Instr.takeDeferred r).run P w = .ok [] w1 ∧ shuts P ds w1 w'
theorem steps_shuts {P : Program} {F : Fence} {n : Nat} : ∀ (ds : List Deferred) {w w' : World} (fr : Frame) (cs : List Frame), fr.mode ≠ .run → fr.defers = ds → F.fn fr.fn → F.room (cs.length + 1 + n) → shuts P ds w w' →
    StepsIn (Machine.fenced P F) P (lone fr cs w) (lone { fr with defers := [] } cs w')
  | [], w, w', fr, cs, hm, hd, hF, hr, h => by
    simp only [shuts] at h; subst h
    have : ({ fr with defers := [] } : Frame) = fr := by rw [← hd]
    rw [this]
    exact .refl _
  | d :: ds, w, w', fr, cs, hm, hd, hF, hr, h => by
    obtain ⟨r, w1, h1, h2, h3⟩ := h
    have s1 := step_collected (cs := cs) hm hd h1 h2
    have i1 : (lone fr cs w).fenced P F := fenced_out hF hr hm hd (fun g hg => by rw [h1] at hg; simp [Target.leads] at hg)
    have s2 := steps_shuts ds { fr with defers := [] ++ ds } cs hm rfl hF hr h3
    exact .head i1 s1 s2
theorem Sim.shuts {P : Program} {C : Ctx} {s : St} {m : List Value} {tm : Array Value} {E0 : Env} (h0 : E0.w.heap.size ≤ C.at0) : ∀ (ms : List Deferred) {w : World}, (∀ x ∈ ms, Mark C (env C s.h m w) x) → ms.Pairwise (fun x y => x.target ≠ y.target) → Sim C s m ⟨tm, ms ++ C.base⟩ w → LeN E0 (env C s.h m w) →
    ∃ w', Ab.shuts P ms w w' ∧ Sim C s m ⟨tm, C.base⟩ w' ∧ LeN E0 (env C s.h m w')
  | [], w, _, _, S, L => ⟨w, rfl, S, L⟩
  | d :: ds, w, hm, hp, S, L => by
    obtain ⟨b, w', h1, h2, rfl, S', L', hm'⟩ := Sim.shut S h0 L hm hp
    rw [List.pairwise_cons] at hp
    obtain ⟨w2, h3, h4, h5⟩ := Sim.shuts (P := P) h0 ds hm' hp.2 S' L'
    exact ⟨w2, ⟨b, _, h1, run_takeDeferred h2, h3⟩, h4, h5⟩
/-- Calling g as a call that was put off, with the frame below in the mode u. -/
def DfrS (P : Program) (g : FuncId) (args : List V) (h : List AObj) (u u' : FrameMode) (h' : List AObj) : Prop :=
  ∀ (C : Ctx) (t : List V) (m : List Value) (a : Act) (w : World) (cargs : Array Value), Sim C ⟨t, h⟩ m a w → RelL (env C h m w) args cargs.toList →
    CallsDIn Fence.wide 0 P g cargs u w fun e u1 w' => ∃ v m', e = .returned v ∧ u1 = u' ∧ Sim C ⟨t, h'⟩ m' a w' ∧ LeN (env C h m w) (env C h' m' w')
def finD (h h' : List AObj) : Exit → St → Prop := fun x s => (x = .normal ∨ x = .ret) ∧ ∃ n, h.length ≤ n ∧ n ≤ s.h.length ∧ s.h.take n = h' ∧ ∀ o ∈ h', o.all (fun i => decide (i < n)) = true
theorem DfrS_intro {P : Program} {g : FuncId} {fn : Func} {id : Nat} {o : Oper} {d : Nat} {ts : Array TypeId} {rest : Code} {args : List V} {h h' : List AObj} {u u' : FrameMode} {v : V} {uv : Value} (hf : P.funcs[g]? = some fn) (hb : fn.body = some (.seq (.region id #[o] false) rest))
    (hg : o.guard = none) (hop : o.op = .call ⟨.builtin .recover, #[], ts⟩) (hd : o.dst = some d) (hres : fn.results = #[])
    (hrec : ∀ (c₀ : Frame) (cs : List Frame), c₀.mode = u → (recoverD (c₀ :: cs) = none ∧ u' = u ∧ uv = .nilIface) ∨ (recoverD (c₀ :: cs) = some (uv, { c₀ with mode := u' } :: cs)))
    (hv : ∀ E, Rel E v uv) (hT : T P h.length none rest ⟨(enter fn args).set d v, h⟩ (finD h h')) : DfrS P g args h u u' h' := by
  intro C t m a w cargs S hR
  refine ⟨trivial, fun c₀ cs hu hroom => ?_⟩
  have hlen := hR.length
  let C' : Ctx := { C with at0 := w.heap.size, base := [] }
  have S0 : Sim C' ⟨enter fn args, h⟩ m { tmps := cargs ++ Array.replicate (fn.ntmps - cargs.size) undef, defers := [] } w := by
    refine ⟨S.below, S.out, S.len, ?_, Marks.nil (C := C') S.below.size (Nat.le_refl _), S.objs, S.apart, S.low⟩
    simp only [enter, Array.toList_append, Array.toList_replicate]
    have : args.length = cargs.size := by simpa using hlen
    rw [this]
    exact hR.append (RelL.undefs _)
  have S1 : Sim C' ⟨(enter fn args).set d v, h⟩ m (Act.put { tmps := cargs ++ Array.replicate (fn.ntmps - cargs.size) undef, defers := [] } o.dst uv) w := by
    have := S0.puts o.dst (hv (env C' h m w))
    rw [hd] at this ⊢
    exact this
  have hrun : ∀ (a : Act), (execOp a.eval o).run P w = .ok .recover w := fun a => by
    simp [execOp, hop, resolve, invoke, builtin]
  let b : Frame := { (default : Frame) with fn := g, kind := .deferred, roundOf := none }
  have henter : Frame.enter P g cargs .deferred = b.atR { tmps := cargs ++ Array.replicate (fn.ntmps - cargs.size) undef, defers := [] } [.code (.seq (.region id #[o] false) rest)] := by
    simp [Frame.enter, Frame.atR, hf, hb, b]
  -- what is behind the recover
  have hw := hT C' (env C h m w) m _ w rfl (LeN.refl _) S1
  have hwp : (Code.seq (.region id #[o] false) rest).wpSIn Fence.wide 0 P (fun e a' cs' w' => cs' = { c₀ with mode := u' } :: cs ∧ Post C' (env C h m w) (finD h h') e a' w') { tmps := cargs ++ Array.replicate (fn.ntmps - cargs.size) undef, defers := [] } (c₀ :: cs) w := by
    refine wpSIn_seq (wpSIn_region ?_)
    have hr : List.range (#[o] : Array Oper).size = [0] := rfl
    rw [hr]
    have hwant : Region.wanted o (yielded #[o] ({ tmps := cargs ++ Array.replicate (fn.ntmps - cargs.size) undef, defers := [] } : Act).tmps) = true := by simp [Region.wanted, hg]
    unfold wpOpsSIn
    simp only [show (#[o] : Array Oper)[0]? = some o from rfl]
    refine ⟨fun _ _ => trivial, ?_⟩
    rw [if_pos hwant, hrun]
    rcases hrec c₀ cs hu with ⟨h1, h2, h3⟩ | h1
    · simp only [h1]
      have hc : ({ c₀ with mode := u' } : Frame) = c₀ := by rw [h2, ← hu]
      unfold wpOpsSIn
      refine wpSIn_of_wpIn rfl ?_
      rw [hc, ← h3]
      refine wpIn_mono hw ?_
      intro e a' w' hp
      exact ⟨rfl, hp⟩
    · simp only [h1]
      unfold wpOpsSIn
      refine wpSIn_of_wpIn rfl ?_
      refine wpIn_mono hw ?_
      intro e a' w' hp
      exact ⟨rfl, hp⟩
  obtain ⟨e, a', cs', w', hl, ⟨rfl, s', m', ⟨hx, n, hn1, hn2, hn3, ho⟩, S', L'⟩, harr⟩ := hwp b [] rfl rfl trivial hroom
  rw [← henter] at harr
  -- the marks
  obtain ⟨_, ms, hms, hmk, hpw⟩ := S'.defers
  obtain ⟨tm', ds'⟩ := a'
  have hms' : ds' = ms ++ C'.base := hms
  subst hms'
  obtain ⟨w2, hsh, S2, L2⟩ := Sim.shuts (P := P) (C := C') (E0 := env C h m w) (Nat.le_refl _) ms hmk hpw S' L'
  have hslots : RelL (env C s'.h m' w2) t a.tmps.toList := RelL.leN L2 (by simp only [env]; exact Nat.le_of_eq S.len) S.slots
  have hids : V.allL (fun i => decide (i < n)) t = true := by
    have h1 := RelL.ids (N := h.length) (by simp only [env]; exact Nat.le_of_eq S.len) (by simp only [env]; exact Nat.le_refl _) t S.slots
    exact V.allL_imp (fun i hi => by simp at *; omega) t h1
  have S3 : Sim C ⟨t, s'.h⟩ m' a w2 := ⟨S2.below, S2.out, S2.len, hslots, S.defers.le L2.le, S2.objs, S2.apart, S2.low⟩
  obtain ⟨S4, hL4, _⟩ := S3.cut n hn2 hids (by rw [hn3]; exact ho)
  have hL := hL4 (env C h m w) hn1 L2
  simp only [hn3] at S4 hL
  have hresu : (results fn tm').run P w2 = .ok (.tuple #[]) w2 := by
    rw [results_eq, hres]
    simp
  have fin : ∀ todo, ∃ fr, StepsIn (Machine.fenced P Fence.wide) P (lone { b.atR ⟨tm', ms ++ C'.base⟩ todo with mode := .returning } ({ c₀ with mode := u' } :: cs) w') (lone fr ({ c₀ with mode := u' } :: cs) w2) ∧ fr.kind = .deferred ∧ fr.fn = g ∧ fr.going P w2 (.returned (.tuple #[])) := fun todo => by
    have hst := steps_shuts (P := P) (F := Fence.wide) (n := 0) ms { b.atR ⟨tm', ms ++ C'.base⟩ todo with mode := .returning } ({ c₀ with mode := u' } :: cs) (by simp) (by simp [Frame.atR, C']) trivial (room_wide _) hsh
    exact ⟨_, hst, rfl, rfl, rfl, rfl, fn, hf, hresu⟩
  rcases hx with rfl | rfl
  · obtain ⟨fr, h1, h2, h3, h4⟩ := fin []
    refine ⟨.returned (.tuple #[]), u', w2, fr, ⟨_, m'.take n, rfl, rfl, S4, hL⟩, ?_, h2, h3, h4⟩
    exact StepsIn.trans harr (.head (fenced_calm (n := 0) (fr := b.atR _ []) trivial (room_wide _) rfl) (stepR_end rfl) h1)
  · obtain ⟨todo, hs⟩ := harr.1 rfl
    obtain ⟨fr, h1, h2, h3, h4⟩ := fin todo
    refine ⟨.returned (.tuple #[]), u', w2, fr, ⟨_, m'.take n, rfl, rfl, S4, hL⟩, ?_, h2, h3, h4⟩
    exact StepsIn.trans hs h1

/-- A function on data that puts a call off, and whose rest returns, or gives up and is caught. -/
def endD (P : Program) (fn : Func) (gd : FuncId) (dargs : List V) (r : V) : Exit → St → Prop := fun x s => ∃ h2 r0, (((x = .normal ∨ x = .ret) ∧ DfrS P gd dargs s.h .returning .returning h2) ∨ ∃ u, x = .panic (chainOf u) ∧ DfrS P gd dargs s.h (.panicking (chainOf u)) (.panicking [{ v := u, recovered := true }]) h2) ∧
  resV P fn ⟨s.t, h2⟩ = some r0 ∧ convT (fun _ => true) h2 r0 = some r
theorem Ret_defer {P : Program} {F : Facts P} {f : FuncId} {fn : Func} {A B : Code} {id : Nat} {ops : Array Oper} {args : List V} {r : V} {sA sR : St} {l1 : List Nat} {i : Nat} {o : Oper} {x : Operand} {ts : Array TypeId} {gd : FuncId} {first caps : List V}
    (hf : P.funcs[f]? = some fn) (hb : fn.body = some (.seq A (.seq (.region id ops false) B)))
    (hA : T P 0 none A ⟨enter fn args, []⟩ (fun x s => x = .normal ∧ s = sA)) (hops : RunR F ops l1 sA sR) (hl : List.range ops.size = l1 ++ [i]) (ho : ops[i]? = some o) (hw : wantedV ops sR o = some true)
    (hop : o.op = .defer ⟨.value x, #[], ts⟩) (hx : ev sR x = some (.fn gd first caps)) (hcal : ∃ fn, P.funcs[gd]? = some fn ∧ fn.body.isSome = true ∧ (fn.name == "runtime.NumGoroutine") = false)
    (hB : T P sR.h.length none B ⟨puts sR.t o.dst (.tup []), sR.h⟩ (endD P fn gd (first ++ caps) r)) : Ret P f args r := by
  intro bad w cargs hbad hR
  refine (callsIn_wide (n := 0)).1 ?_
  refine callsIn_of_wp_marks hf hb trivial ?_
  have hlen := hR.length
  let C : Ctx := ⟨bad, w, w.heap.size, []⟩
  have hle : Env.Le (fun _ => true) ⟨bad, [], [], w⟩ (env C [] [] w) :=
    ⟨fun b _ h => by rcases h with h | ⟨i, o, v, h1, _⟩; exact h; simp at h1, fun _ _ _ => rfl, Nat.le_refl _, fun i _ v h => by simp at h, fun i _ h => by simp at h, fun i _ T sz rows h => by simp at h⟩
  have S0 : Sim C ⟨enter fn args, []⟩ [] { tmps := cargs ++ Array.replicate (fn.ntmps - cargs.size) undef, defers := [] } w := by
    refine ⟨Below.refl _ _, hbad, rfl, ?_, Marks.nil (C := C) (Nat.le_refl _) (Nat.le_refl _), fun i o v h => by simp at h, fun i j v u b _ h => by simp at h, fun i v b h => by simp at h⟩
    simp only [enter, Array.toList_append, Array.toList_replicate]
    have : args.length = cargs.size := by simpa using hlen
    rw [this]
    exact (hR.le hle).append (RelL.undefs _)
  have hw0 := hA C (env C [] [] w) [] _ w rfl (LeN.refl _) S0
  refine wpIn_seq (wpIn_mono hw0 ?_)
  rintro e a1 w1 ⟨s1, m1, ⟨rfl, rfl⟩, S1, L1⟩
  refine wpIn_seq (wpIn_region ?_)
  rw [hl]
  refine hops.then none S1 (fun m2 a2 w2 S2 L2 => ?_)
  unfold wpOpsIn
  simp only [ho, wantedV_sound S2 hw, if_true]
  refine ⟨fun _ _ => trivial, ?_⟩
  have hRx := ev_sound S2 hx
  simp only [Rel] at hRx
  obtain ⟨fa, ca, he, hfa, hca⟩ := hRx
  have hrun : (o.semAt (FW none).round a2.eval).run P w2 = .ok (.defer { target := .fn (Fn.func gd) ca, args := fa }) w2 := by
    show (o.semAt none a2.eval).run P w2 = _
    rw [Oper.semAt_none]
    simp [execOp, hop, resolve, he, Deferred.ofValue]
  rw [hrun, Oper.uponIn_defer]
  unfold wpOpsIn
  show Code.wpIn (FW none) 0 P B _ _ w2
  -- the rest, with the call put off
  let d : Deferred := { target := .fn (Fn.func gd) ca, args := fa }
  let C1 : Ctx := { C with at0 := w2.heap.size, base := d :: a2.defers }
  have S3 : Sim C1 ⟨puts sR.t o.dst (.tup []), sR.h⟩ m2 (Act.put { a2 with defers := d :: a2.defers } o.dst undef) w2 := by
    have := S2.puts o.dst (rel_undef (E := env C sR.h m2 w2))
    have hdf : (Act.put { a2 with defers := d :: a2.defers } o.dst undef).tmps = (a2.put o.dst undef).tmps := by cases o.dst <;> rfl
    have hdd : (Act.put { a2 with defers := d :: a2.defers } o.dst undef).defers = d :: a2.defers := by cases o.dst <;> rfl
    refine ⟨S2.below, S2.out, S2.len, by rw [hdf]; exact this.slots, by rw [hdd]; exact Marks.nil (C := C1) S2.below.size (Nat.le_refl _), S2.objs, S2.apart, S2.low⟩
  have hwB := hB C1 (env C sR.h m2 w2) m2 _ w2 rfl (LeN.refl _) S3
  refine wpIn_mono hwB ?_
  rintro e a3 w3 ⟨s4, m4, ⟨h2, r0, hcase, hres, hconv⟩, S4, L4⟩
  -- how it is left
  have finish : ∀ (u u' : FrameMode), u ≠ .run → settle u' = .returning → DfrS P gd (first ++ caps) s4.h u u' h2 → LeavesInM Fence.wide 0 P fn a3.tmps (fun e w' => ∃ v_1, e = .returned v_1 ∧ Rel ⟨bad, [], [], w'⟩ r v_1 ∧ Below w.heap.size w w') a3.defers u w3 := fun u u' hu hset hdfr => by
    refine leaves_mk (C := C1) (E0 := env C sR.h m2 w2) (s := s4) (m := m4) (Nat.le_refl _) hu (fun w4 S5 L5 => ?_) S4 L4
    show LeavesInM Fence.wide 0 P fn a3.tmps _ (d :: a2.defers) u w4
    unfold LeavesInM
    refine ⟨hu, .inr ⟨fun h => by simp [Fence.wide] at h, Fn.func gd, ca, gd, fa ++ ca, rfl, ?_, fun _ _ => trivial, ?_⟩⟩
    · obtain ⟨fng, hfn, hbody, hname⟩ := hcal
      have hnb : ¬ fng.body = none := fun e => by simp [e] at hbody
      have hne : ¬ fng.name = "runtime.NumGoroutine" := by simpa using hname
      simp [d, invoke, callFunc, hfn, hne, hnb]
    · have S6 : Sim C ⟨s4.t, s4.h⟩ m4 ⟨a3.tmps, a2.defers⟩ w4 := ⟨S5.below, S5.out, S5.len, S5.slots, S2.defers.le L5.le, S5.objs, S5.apart, S5.low⟩
      have hargs : RelL (env C s4.h m4 w4) (first ++ caps) (fa ++ ca).toList := by
        simp only [Array.toList_append]
        exact RelL.leN L5 (by simp only [env]; exact Nat.le_of_eq S2.len) (hfa.append hca)
      have hcd := hdfr C s4.t m4 ⟨a3.tmps, a2.defers⟩ w4 (fa ++ ca) S6 hargs
      refine ⟨hcd.1, fun c cs hc hroom => ?_⟩
      obtain ⟨e', u1, w5, fr, ⟨v, m5, rfl, rfl, S7, L7⟩, hst, hk, hfn2, hgo⟩ := hcd.2 c cs hc hroom
      refine ⟨.returned v, u1, w5, fr, ?_, hst, hk, hfn2, hgo⟩
      show LeavesInM Fence.wide 0 P fn a3.tmps _ a2.defers (settle u1) w5
      rw [hset]
      refine leaves_marks (C := C) (E0 := env C [] [] w) (s := ⟨s4.t, h2⟩) (m := m5) (a := ⟨a3.tmps, a2.defers⟩) rfl (Nat.le_refl _) (fun w6 S8 L8 => ?_) S7 (((L1.trans L2).trans L5).trans L7)
      obtain ⟨v6, hv6, hrv⟩ := resV_sound S8 hres
      have hd := convT_sound S8 (ok := fun _ => true) (bad := bad) (fun b _ h => .inl h) (fun i T sz rows fr v b ho _ hm hb' hbd => by
        have := (S8.low i v b hm hb').1
        have h2 := hbad b hbd
        simp only [C] at this
        omega) hrv hconv
      exact ⟨v6, hv6, v6, rfl, hd.1, S8.below⟩
  rcases hcase with ⟨hx', hd⟩ | ⟨u, rfl, hd⟩
  · rcases hx' with rfl | rfl
    · exact finish _ _ (by simp) rfl hd
    · exact finish _ _ (by simp) rfl hd
  · exact finish _ _ (by simp) rfl hd
end Go.Ab
namespace Go.Ab
open Go Go.RowKit
set_option linter.unusedVariables false
set_option linter.unusedSimpArgs false
section
variable {P : Program} {b : Nat} {ro : Option Nat} {s : St} {K : Exit → St → Prop} {id : Nat} {ops : Array Oper}
/-- A region that starts with an empty literal: an own row, still empty. -/
theorem T_lit0 (F : Facts P) {l : List Nat} {o : Oper} {ty E sz d : Nat} (hl : List.range ops.size = 0 :: l) (ho : ops[0]? = some o) (hd : o.dst = some d) (hg : o.guard = none) (hop : o.op = .buildSlice ty 0 #[]) (he : elemT P ty = some (E, sz))
    (hk : RegW F ops l ⟨s.t.set d (.arr s.h.length 0), s.h ++ [.arr E sz [] false]⟩ (K .normal)) : T P b ro (.region id ops false) s K := fun C E0 m a w hb0 L S => by
  have hk : RegW F ops l ⟨puts s.t o.dst (.arr s.h.length 0), s.h ++ [.arr E sz [] false]⟩ (K .normal) := by rw [hd]; exact hk
  obtain ⟨s', h1, k⟩ := hk
  refine wpIn_region ?_
  rw [hl]
  obtain ⟨hu, hsz, hnz⟩ := elemT_spec he
  unfold wpOpsIn
  have hw : wantedV ops s o = some true := by simp [wantedV, hg]
  simp only [ho, wantedV_sound S hw, if_true]
  refine ⟨fun _ _ => trivial, ?_⟩
  rw [Oper.semAt_eq _ _ _ (fun c hc => by simp [hc] at hop)]
  have hso : (sizeOf E).run P w = .ok sz w := by rw [← hsz]; exact cellsOf_info (by rw [hsz]; exact hnz) w
  have hrun : (execOp a.eval o).run P w = .ok (.value (.slice (some ⟨w.heap.size, 0, none⟩) 0 0)) (w.alloc (.cells #[] E)) := by
    simp only [execOp, hop]
    have hr : ∀ x : Value, (Array.map (fun _ : Nat => x) (Array.range 0)) = #[] := fun x => by apply Array.ext <;> simp
    simp [Instr.buildSlice, Sem.run_bind, run_underlying hu, hso, Instr.fill, newRow, newObj, Sem.run]
    rw [hr]
  rw [hrun]
  have hbel := below_alloc' w (.cells #[] E)
  obtain ⟨S1, U1⟩ := S.add (o := .arr E sz [] false) (v := .slice (some ⟨w.heap.size, 0, none⟩) 0 0) hbel
    (fun b hb => by simp only [blk, Option.some.injEq] at hb; subst hb; exact ⟨Nat.le_refl _, by rw [size_alloc']; omega⟩)
    (fun L => ⟨[], by simpa [env] using World.ownsRow_lit (base := C.w0.heap.size) (e := E) (size := sz) w #[] 0 S.below.size (by unfold maxLen; omega) (by simp), by simp [RelL], by simp⟩)
  have hR : Rel (env C (s.h ++ [.arr E sz [] false]) (m ++ [.slice (some ⟨w.heap.size, 0, none⟩) 0 0]) (w.alloc (.cells #[] E))) (.arr s.h.length 0) (.slice (some ⟨w.heap.size, 0, none⟩) 0 0) := by
    simp only [Rel, env]
    refine ⟨by simp, fun T0 sz rows fr ho => ?_⟩
    simp at ho
    obtain ⟨rfl, rfl, rfl, rfl⟩ := ho
    exact ⟨by simp, fun _ => by rw [← S.len]; simp⟩
  have S2 := S1.puts o.dst hR
  have L2 : LeN (env C s.h m w) (env C (s.h ++ [.arr E sz [] false]) (m ++ [.slice (some ⟨w.heap.size, 0, none⟩) 0 0]) (w.alloc (.cells #[] E))) := LeN.of U1.1 U1.2
  have := h1.then (l2 := []) ro S2 (Q := Post C E0 K) (fun m1 a1 w1 S3 L3 => by
    unfold wpOpsIn
    exact ⟨s', m1, k, S3, (L.trans L2).trans L3⟩)
  rw [List.append_nil] at this
  exact this
/-- A region that ends in giving up. -/
theorem T_panW (F : Facts P) {l : List Nat} {i : Nat} (hl : List.range ops.size = l ++ [i])
    (hk : RegW F ops l s (fun s1 => ∃ (o : Oper) (x : Operand) (v : V) (u : Value), ops[i]? = some o ∧ wantedV ops s1 o = some true ∧ o.op = .panic x ∧ ev s1 x = some v ∧ toVal v = some u ∧ K (.panic (chainOf u)) s1)) : T P b ro (.region id ops false) s K := by
  obtain ⟨s1, h1, o, x, v, u, ho, hw, hop, hx, hv, k⟩ := hk
  exact T_regPanic hl h1 ho hw hop hx hv k
/-- A region in which a call gives up. -/
theorem T_panCallW (F : Facts P) {l1 : List Nat} {i : Nat} (l2 : List Nat) (hl : List.range ops.size = l1 ++ i :: l2)
    (hk : RegW F ops l1 s (fun s1 => ∃ (o : Oper) (x : Operand) (args : Array Operand) (ts : Array TypeId) (g : FuncId) (first caps vs dargs : List V) (u : Value), ops[i]? = some o ∧ wantedV ops s1 o = some true ∧ o.op = .call ⟨.value x, args, ts⟩ ∧ ev s1 x = some (.fn g first caps) ∧ evs s1 args.toList = some vs ∧
      (∃ fn, P.funcs[g]? = some fn ∧ fn.body.isSome = true ∧ (fn.name == "runtime.NumGoroutine") = false) ∧ convDL (fun b => b) s1.h (first ++ vs ++ caps) = some dargs ∧ Pan P g dargs u ∧ K (.panic (chainOf u)) s1)) : T P b ro (.region id ops false) s K := by
  obtain ⟨s1, h1, o, x, args, ts, g, first, caps, vs, dargs, u, ho, hw, hop, hx, ha, hb, hc, hr, k⟩ := hk
  exact T_regPan hl h1 ho hw hop hx ha hb hc hr k
theorem RunR.of_W {F : Facts P} {l : List Nat} {s1 : St} (h : RegW F ops l s (fun s' => s' = s1)) : RunR F ops l s s1 := by
  obtain ⟨s', h1, rfl⟩ := h
  exact h1
theorem K_seqP {y : Code} {c : List PanicEntry} (h : K (.panic c) s) : seqK P b ro y K (.panic c) s := h
end
end Go.Ab
namespace Go.Ab
open Go Go.RowKit Go.Proofs Fac
set_option linter.unusedVariables false
set_option linter.unusedSimpArgs false
set_option maxRecDepth 4000
set_option maxHeartbeats 1000000
theorem rI_one (h : List AObj) (l : List Int) : (rI l).flatten.all (V.one h) = true := by
  rw [List.all_flatten, List.all_eq_true]
  intro r hr
  simp only [rI, List.mem_map] at hr
  obtain ⟨n, _, rfl⟩ := hr
  all_goals rfl
theorem AObj.all_imp {p q : Nat → Bool} (hpq : ∀ i, p i = true → q i = true) (o : AObj) (h : o.all p = true) : o.all q = true := by
  cases o <;> simp only [AObj.all, Bool.and_eq_true] at * <;> first | exact V.allL_imp hpq _ h | exact ⟨V.allL_imp hpq _ h.1, V.allL_imp hpq _ h.2⟩
theorem rI_flat (p : Nat → Bool) (l : List Int) : V.allL p (rI l).flatten = true := by
  induction l with
  | nil => simp [rI, V.allL]
  | cons n l ih => simpa [rI, V.allL, V.all] using ih
theorem sl_cloneNil : Ret Try.prog 102 [.nil] .nil := by
  apply Ret_fin (fn := Try.f102) Try.func102 rfl
  apply T_seq
  apply T_r F
  · (simp only [go_sem, Try.ntmps102]) <;> exact rfl
  apply K_seq
  apply T_seq
  apply T_seq
  apply T_r F
  · (simp only [go_sem, Try.ntmps102]) <;> exact rfl
  apply K_seq
  apply T_if
  · exact rfl
  · intro _
    apply T_seq
    apply T_r F
    · (simp only [go_sem, Try.ntmps102]) <;> exact rfl
    apply K_seq
    apply T_ret
    apply K_seqR
    apply fin_ret
    · (simp only [go_sem, Try.ntmps102, Try.f102]) <;> exact rfl
    all_goals rfl
  · intro h
    exact absurd h (by decide)
theorem sl_clone (x : Int) (l : List Int) (h : List AObj) (hc : Closed h) (hb : (x :: l).length * 8 ≤ 140737488355328) : RetS Try.prog 102 [.sl 1 (rI (x :: l))] h (.arr h.length (x :: l).length) (h ++ [.arr 3 1 (rI (x :: l)) false]) := by
  have e : rI (x :: l) = [.int .i64 x] :: rI l := rfl
  have hb1 : (l.length + 1) * 8 ≤ 140737488355328 := by simpa using hb
  have hf := rI_one (h ++ [.arr 3 1 [] false]) l
  have hg : (h ++ [AObj.arr 3 1 [] false])[h.length]? = some (.arr 3 1 [] false) := by simp
  have hs : (h ++ [AObj.arr 3 1 [] false]).set h.length (.arr 3 1 ([V.int .i64 x] :: rI l) false) = h ++ [.arr 3 1 ([V.int .i64 x] :: rI l) false] := by simp
  apply RetS_intro (fn := Try.f102) Try.func102 rfl
  rw [e]
  apply T_seq
  apply T_r F
  · (simp only [go_sem, Try.ntmps102]) <;> exact rfl
  apply K_seq
  apply T_seq
  apply T_seq
  apply T_r F
  · (simp only [go_sem, Try.ntmps102]) <;> exact rfl
  apply K_seq
  apply T_if
  · exact rfl
  · intro h
    exact absurd h (by decide)
  · intro _
    apply T_skip
    apply K_seq
    apply T_seq
    apply T_lit0 F (l := [1, 2, 3]) rfl rfl rfl rfl rfl rfl
    apply W_run
    · (simp only [go_sem, Try.ntmps102, hg, hs, hf, hb1]) <;> exact rfl
    apply W_nil
    apply K_seq
    apply T_ret
    refine ⟨trivial, ?_, h.length + 1, ?_, ?_, ?_, ?_, ?_⟩
    · exact rfl
    · omega
    · simp
    · exact List.take_of_length_le (by simp)
    · simp [V.all]
    · intro o ho
      simp only [List.mem_append, List.mem_singleton] at ho
      rcases ho with ho | rfl
      · have := hc o ho
        exact AObj.all_imp (fun i hi => by simp at *; omega) o this
      · rw [← e]; exact rI_flat _ _
end Go.Ab
namespace Go.Ab
open Go Go.RowKit Go.Proofs Fac
set_option linter.unusedVariables false
set_option linter.unusedSimpArgs false
set_option maxRecDepth 4000
set_option maxHeartbeats 1000000

theorem M.near_comm {t : Town} (ok : M.Ok t) {a b : Int} (ha : M.lot t a = true) (hb : M.lot t b = true) : M.near t a b = M.near t b a := by
  have h1 := M.lot_iff.1 ha
  have h2 := M.lot_iff.1 hb
  have h3 := (ok.walks.2.1 a.toNat (by omega) b.toNat (by omega)).2.2
  have e1 : ((a.toNat : Nat) : Int) = a := by omega
  have e2 : ((b.toNat : Nat) : Int) = b := by omega
  rw [e1, e2] at h3
  simp only [M.near, h3]
theorem M.taught_first {t : Town} (ok : M.Ok t) {n : Int} (hn : M.lot t n = true) : (M.first t.schools.length (fun k => M.near t n (M.at' t.schools k))).isSome = M.taught t n := by
  unfold M.taught
  rw [Bool.eq_iff_iff]
  simp only [M.first, List.find?_isSome, List.mem_range, List.any_eq_true]
  constructor
  · rintro ⟨k, hk, h⟩
    refine ⟨t.schools[k], List.getElem_mem hk, ?_⟩
    rw [M.at_get hk] at h
    rw [← M.near_comm ok hn (ok.school (List.getElem_mem hk))]; exact h
  · rintro ⟨s, hs, h⟩
    obtain ⟨k, hk, rfl⟩ := List.mem_iff_getElem.1 hs
    refine ⟨k, hk, ?_⟩
    rw [M.at_get hk, M.near_comm ok hn (ok.school hs)]; exact h

theorem Closed.add {h : List AObj} (hc : Closed h) {o : AObj} (ho : o.all (fun _ => false) = true) : Closed (h ++ [o]) := by
  intro x hx
  rcases List.mem_append.1 hx with hx | hx
  · exact AObj.all_imp (fun i hi => by simp at *; omega) x (hc x hx)
  · simp only [List.mem_singleton] at hx; subst hx
    exact AObj.all_imp (fun i hi => by simp at hi) x ho

theorem mv_school11 (t : Town) (p : List Int) (h : List AObj) (i j : Nat) (hc : Closed h) (hi : h[i]? = some (.box 69 (cW t p))) (n s : Int) (hj : h[j]? = some (.box 3 [.int .i64 n])) (h1 : 0 ≤ n) (h2 : n.toNat < t.walk.length) (h3 : 0 ≤ s) (h4 : s.toNat < (t.walk[n.toNat]).length) : RetS Try.prog 95 [.int .i64 s, .ptr i 0, .ptr j 0] h (.bool (M.near t n s)) h := by
  apply RetS_fin (fn := Try.f95) Try.func95 rfl (by simp [V.all]) hc
  apply T_seq
  apply T_r F
  · (simp only [go_sem, Try.ntmps95, cW_eq, hi, hj]) <;> exact rfl
  apply K_seq
  apply T_seq
  apply T_wL F [0, 1, 2, 3, 4] rfl
  apply W_pre [0, 1, 2] [3, 4]
  · (simp only [go_sem, Try.ntmps95, cW_eq, hi, hj]) <;> exact rfl
  apply W_call -- call 0 of function 96
  · (simp only [go_sem, Try.ntmps95, cW_eq, hi, hj]) <;> exact rfl
  · (simp only [go_sem, Try.ntmps95, cW_eq, hi, hj]) <;> exact rfl
  · exact rfl
  · (simp only [go_sem, Try.ntmps95, cW_eq, hi, hj]) <;> exact rfl
  · (simp only [go_sem, Try.ntmps95, cW_eq, hi, hj]) <;> exact rfl
  · exact ⟨_, Try.func96, rfl, rfl⟩
  · (simp only [go_sem, Try.ntmps95, cW_eq, hi, hj]) <;> exact rfl
  · (simp only [go_sem, Try.ntmps95, cW_eq, hi, hj]) <;> exact rfl
  · exact mv_near _ _ _ _ (by assumption) (by assumption) (by assumption) (by assumption)
  apply W_run
  · (simp only [go_sem, Try.ntmps95, cW_eq, hi, hj]) <;> exact rfl
  apply W_nil
  apply K_seq
  apply T_ret
  apply finS_ret
  · (simp only [go_sem, Try.ntmps95, cW_eq, hi, hj, Try.f95]) <;> exact rfl
  · simp
  · simp
  -- leaf 0 (ret)
  simp only [go_sem, Try.ntmps95, cW_eq, hi, hj, V.bool.injEq, V.int.injEq, true_and]
  all_goals rfl

theorem mv_school1 (t : Town) (p : List Int) (h : List AObj) (i : Nat) (hc : Closed h) (hi : h[i]? = some (.box 69 (cW t p))) (ok : M.Ok t) (hl : t.schools.length ≤ 9223372036854775807) (k : Nat) (hk : k < t.houses.length) (n : Int) (hn : M.lot t n = true) : RetS Try.prog 94 [.int .i64 (k : Int), .int .i64 n, .ptr i 0] h (.bool ((t.houses[k]).school && !M.taught t n)) h := by
  have hi1 : (h ++ [.box 3 [.int .i64 n]])[i]? = some (.box 69 (cW t p)) := by rw [List.getElem?_append_left (List.getElem?_eq_some_iff.1 hi).1]; exact hi
  have hnl := M.lot_iff.1 hn
  apply RetS_fin (fn := Try.f94) Try.func94 rfl (by simp [V.all]) hc
  apply T_seq
  apply T_r F
  · (simp only [go_sem, Try.ntmps94, cW_eq, hi, hi1, rH_get hk, hk]) <;> exact rfl
  apply K_seq
  apply T_seq
  apply T_wL F [0, 1, 2, 3, 4, 5, 6, 7, 8, 9, 10, 11, 12, 13, 14, 15] rfl
  apply W_pre [0, 1, 2, 3] [4, 5, 6, 7, 8, 9, 10, 11, 12, 13, 14, 15]
  · (simp only [go_sem, Try.ntmps94, cW_eq, hi, hi1, rH_get hk, hk]) <;> exact rfl
  apply W_pre [4, 5, 6, 7] [8, 9, 10, 11, 12, 13, 14, 15]
  · (simp only [go_sem, Try.ntmps94, cW_eq, hi, hi1, rH_get hk, hk]) <;> exact rfl
  apply W_guard
  · (simp only [go_sem, Try.ntmps94, cW_eq, hi, hi1, rH_get hk, hk]) <;> exact rfl
  · (simp only [go_sem, Try.ntmps94, cW_eq, hi, hi1, rH_get hk, hk]) <;> exact rfl
  · intro bg0t
    have g0t := bg0t
    try simp only [CS] at g0t
    try simp only [BS] at bg0t
    try exact absurd bg0t (by decide)
    all_goals (
  apply W_pre [8, 9, 10, 11] [12, 13, 14, 15]
  · (simp only [go_sem, Try.ntmps94, cW_eq, hi, hi1, rH_get hk, hk, bg0t]) <;> exact rfl
  apply W_callS -- call 0
  · (simp only [go_sem, Try.ntmps94, cW_eq, hi, hi1, rH_get hk, hk, bg0t]) <;> exact rfl
  · (simp only [go_sem, Try.ntmps94, cW_eq, hi, hi1, rH_get hk, hk, bg0t]) <;> exact rfl
  · exact rfl
  · (simp only [go_sem, Try.ntmps94, cW_eq, hi, hi1, rH_get hk, hk, bg0t]) <;> exact rfl
  · (simp only [go_sem, Try.ntmps94, cW_eq, hi, hi1, rH_get hk, hk, bg0t]) <;> exact rfl
  · exact ⟨_, Try.func75, rfl, rfl⟩
  · exact sl_containsFunc t.schools (h ++ [.box 3 [.int .i64 n]]) 95 [] [.ptr i 0, .ptr h.length 0] (fun k => M.near t n (M.at' t.schools k)) (hc.add rfl) ⟨_, Try.func95, rfl, rfl⟩ hl (fun k hk => by
    have hs := M.lot_iff.1 (ok.school (List.getElem_mem hk))
    have := mv_school11 t p (h ++ [.box 3 [.int .i64 n]]) i h.length (hc.add rfl) hi1 n t.schools[k] (by simp) hnl.1 (by omega) hs.1 (by rw [ok.square]; omega)
    rw [M.at_get hk]
    exact this)
  apply W_run
  · (simp only [go_sem, Try.ntmps94, cW_eq, hi, hi1, rH_get hk, hk, bg0t]) <;> exact rfl
  apply W_nil
  apply K_seq
  apply T_ret
  apply finS_ret
  · (simp only [go_sem, Try.ntmps94, cW_eq, hi, hi1, rH_get hk, hk, bg0t, Try.f94]) <;> exact rfl
  · simp
  · simp
  -- leaf 0 (ret)
  simp only [go_sem, Try.ntmps94, cW_eq, hi, hi1, rH_get hk, hk, bg0t, V.bool.injEq, V.int.injEq, true_and]
  grind [M.taught_first ok hn])
  · intro bg0f
    have g0f := bg0f
    try simp only [CS] at g0f
    try simp only [BS] at bg0f
    try exact absurd bg0f (by decide)
    all_goals (
  apply W_pre [8, 9, 10, 11] [12, 13, 14, 15]
  · (simp only [go_sem, Try.ntmps94, cW_eq, hi, hi1, rH_get hk, hk, bg0f]) <;> exact rfl
  apply W_run
  · (simp only [go_sem, Try.ntmps94, cW_eq, hi, hi1, rH_get hk, hk, bg0f]) <;> exact rfl
  apply W_nil
  apply K_seq
  apply T_ret
  apply finS_ret
  · (simp only [go_sem, Try.ntmps94, cW_eq, hi, hi1, rH_get hk, hk, bg0f, Try.f94]) <;> exact rfl
  · simp
  · simp
  -- leaf 1 (ret)
  simp only [go_sem, Try.ntmps94, cW_eq, hi, hi1, rH_get hk, hk, bg0f, V.bool.injEq, V.int.injEq, true_and]
  grind [M.taught_first ok hn])

theorem mv_school (t : Town) (p : List Int) (ok : M.Ok t) (hp : M.plan t p = true) (hsl : t.schools.length ≤ 9223372036854775807) : Ret Try.prog 80 [.agg (cW t p)] (.int .i64 (match M.first p.length (M.untaught t p) with | some i => (i : Int) | none => -1)) := by
  refine Ret.of_fits fun hfits => ?_
  simp only [V.fits, V.fitsL, V.fitsR, cW_fits] at hfits
  apply Ret_fin (fn := Try.f80) Try.func80 rfl
  apply T_seq
  apply T_r F
  · (simp only [go_sem, Try.ntmps80, cW_eq]) <;> exact rfl
  apply K_seq
  apply T_seq
  apply T_wL F [0, 1, 2, 3] rfl
  apply W_pre [0, 1] [2, 3]
  · (simp only [go_sem, Try.ntmps80, cW_eq]) <;> exact rfl
  apply W_callS -- call 0
  · (simp only [go_sem, Try.ntmps80, cW_eq]) <;> exact rfl
  · (simp only [go_sem, Try.ntmps80, cW_eq]) <;> exact rfl
  · exact rfl
  · (simp only [go_sem, Try.ntmps80, cW_eq]) <;> exact rfl
  · (simp only [go_sem, Try.ntmps80, cW_eq]) <;> exact rfl
  · exact ⟨_, Try.func90, rfl, rfl⟩
  · exact mv_houses t p [.box 69 (cW t p)] 94 [] [.ptr 0 0] (M.untaught t p) (closed_W t p) hfits.1.2 ⟨_, Try.func94, rfl, rfl⟩ (fun k hk => by
    have hpl := (M.plan_iff.1 hp).1
    have := mv_school1 t p [.box 69 (cW t p), .box 69 (cW t p)] 0 (closed_WW t p) rfl ok hsl k (by omega) (M.at' p k) ((M.plan_iff.1 hp).2 k hk)
    rw [M.at_get hk] at this
    rw [M.untaught, M.hs_get (by omega), M.at_get hk]
    exact this)
  apply W_run
  · (simp only [go_sem, Try.ntmps80, cW_eq]) <;> exact rfl
  apply W_nil
  apply K_seq
  apply T_ret
  apply fin_ret
  · (simp only [go_sem, Try.ntmps80, cW_eq, Try.f80]) <;> exact rfl
  -- leaf 0 (ret)
  simp only [go_sem, Try.ntmps80, cW_eq, V.bool.injEq, V.int.injEq, true_and]
  all_goals rfl

theorem sl_indexFuncP (l : List (Int × Int)) (h : List AObj) (g : FuncId) (ca cb : List V) (bb : Nat → Bool) (hc : Closed h) (hg : ∃ fn, Try.prog.funcs[g]? = some fn ∧ fn.body.isSome = true ∧ (fn.name == "runtime.NumGoroutine") = false) (hl : l.length ≤ 9223372036854775807)
  (hcall : ∀ (k : Nat) (hk : k < l.length), RetS Try.prog g (ca ++ [.agg [.int .i64 l[k].1, .int .i64 l[k].2]] ++ cb) h (.bool (bb k)) h) : RetS Try.prog 88 [.sl 2 (rP l), .fn g ca cb] h (.int .i64 (match M.first l.length bb with | some i => (i : Int) | none => -1)) h := by
  apply RetS_fin (fn := Try.f88) Try.func88 rfl (by cases M.first l.length bb <;> simp [V.all]) hc
  apply T_seq
  apply T_r F
  · (simp only [go_sem, Try.ntmps88]) <;> exact rfl
  apply K_seq
  apply T_seq
  apply T_seq
  apply T_r F
  · (simp only [go_sem, Try.ntmps88]) <;> exact rfl
  apply K_seq
  apply T_block
  apply T_lp (α := Nat) [true, true, false, false, false, false, false, true, true, false, false, false, false, false, false, false, false, false, false] (fun k => (⟨[.sl 2 (rP l), .fn g ca cb, .undef, .undef, .undef, .undef, .undef, .int .i64 (l.length : Int), .int .i64 (k : Int), .undef, .undef, .undef, .undef, .undef, .undef, .undef, .undef, .undef, .undef], h⟩ : St)) (fun k => k ≤ l.length ∧ ∀ j, j < k → bb j = false) (fun k => l.length - k) (0)
  · (simp only [go_sem, Try.ntmps88]) <;> exact rfl
  · simp
  · rintro k ⟨hk, hj⟩
    apply T_seq
    apply T_r F
    · (simp only [go_sem, Try.ntmps88]) <;> exact rfl
    apply K_seq
    apply T_seq
    apply T_if
    · (simp only [go_sem, Try.ntmps88]) <;> exact rfl
    · intro bh0t
      have h0t := bh0t
      try simp only [CS] at h0t
      try simp only [BS] at bh0t
      try exact absurd bh0t (by decide)
      all_goals (
  have hb : k < 9223372036854775807 := by omega
  apply T_skip
  apply K_seq
  apply T_seq
  apply T_block
  apply T_seq
  apply T_r F
  · (simp only [go_sem, Try.ntmps88, bh0t, h0t, rP_get h0t, hb]) <;> exact rfl
  apply K_seq
  apply T_seq
  apply T_wL F [0, 1, 2, 3, 4, 5] rfl
  apply W_pre [0, 1, 2, 3, 4] [5]
  · (simp only [go_sem, Try.ntmps88, bh0t, h0t, rP_get h0t, hb]) <;> exact rfl
  apply W_callS -- call 0
  · (simp only [go_sem, Try.ntmps88, bh0t, h0t, rP_get h0t, hb]) <;> exact rfl
  · (simp only [go_sem, Try.ntmps88, bh0t, h0t, rP_get h0t, hb]) <;> exact rfl
  · exact rfl
  · (simp only [go_sem, Try.ntmps88, bh0t, h0t, rP_get h0t, hb]) <;> exact rfl
  · (simp only [go_sem, Try.ntmps88, bh0t, h0t, rP_get h0t, hb]) <;> exact rfl
  · exact hg
  · exact hcall k h0t
  apply W_run
  · (simp only [go_sem, Try.ntmps88, bh0t, h0t, rP_get h0t, hb]) <;> exact rfl
  apply W_nil
  apply K_seq
  apply T_if
  · (simp only [go_sem, Try.ntmps88, bh0t, h0t, rP_get h0t, hb]) <;> exact rfl
  · intro bh1t
    have h1t := bh1t
    try simp only [CS] at h1t
    try simp only [BS] at bh1t
    try exact absurd bh1t (by decide)
    all_goals (
  apply T_seq
  apply T_r F
  · (simp only [go_sem, Try.ntmps88, bh0t, h0t, rP_get h0t, hb, bh1t]) <;> exact rfl
  apply K_seq
  apply T_ret
  apply K_blkR
  apply K_seqR
  apply K_lpR
  apply K_blkR
  apply K_seqR
  apply finS_ret
  · (simp only [go_sem, Try.ntmps88, bh0t, h0t, rP_get h0t, hb, bh1t, Try.f88]) <;> exact rfl
  · simp
  · simp
  -- leaf 0 (ret)
  simp only [go_sem, Try.ntmps88, bh0t, h0t, rP_get h0t, hb, bh1t, V.bool.injEq, V.int.injEq, true_and]
  first | rw [M.first_some h0t bh1t hj] | rw [M.first_none (fun j hj1 => hj j (by omega))])
  · intro bh1f
    have h1f := bh1f
    try simp only [CS] at h1f
    try simp only [BS] at bh1f
    try exact absurd bh1f (by decide)
    all_goals (
  apply T_skip
  apply K_blk
  apply K_seq
  apply T_r F
  · (simp only [go_sem, Try.ntmps88, bh0t, h0t, rP_get h0t, hb, bh1f]) <;> exact rfl
  refine K_lp (k + 1) ?_ ?_
  · (simp only [go_sem, Try.ntmps88, bh0t, h0t, rP_get h0t, hb, bh1f]) <;> exact rfl
  -- leaf 1 (loop0)
  grind))
    · intro bh0f
      have h0f := bh0f
      try simp only [CS] at h0f
      try simp only [BS] at bh0f
      try exact absurd bh0f (by decide)
      all_goals (
  apply T_exit
  apply K_seqE
  apply K_lpE
  apply K_blkE
  apply K_seq
  apply T_seq
  apply T_r F
  · (simp only [go_sem, Try.ntmps88, bh0f]) <;> exact rfl
  apply K_seq
  apply T_ret
  apply finS_ret
  · (simp only [go_sem, Try.ntmps88, bh0f, Try.f88]) <;> exact rfl
  · simp
  · simp
  -- leaf 2 (ret)
  simp only [go_sem, Try.ntmps88, bh0f, V.bool.injEq, V.int.injEq, true_and]
  first | rw [M.first_some h0t bh1t hj] | rw [M.first_none (fun j hj1 => hj j (by omega))])

theorem sl_containsFuncP (l : List (Int × Int)) (h : List AObj) (g : FuncId) (ca cb : List V) (bb : Nat → Bool) (hc : Closed h) (hg : ∃ fn, Try.prog.funcs[g]? = some fn ∧ fn.body.isSome = true ∧ (fn.name == "runtime.NumGoroutine") = false) (hl : l.length ≤ 9223372036854775807)
  (hcall : ∀ (k : Nat) (hk : k < l.length), RetS Try.prog g (ca ++ [.agg [.int .i64 l[k].1, .int .i64 l[k].2]] ++ cb) h (.bool (bb k)) h) : RetS Try.prog 73 [.sl 2 (rP l), .fn g ca cb] h (.bool (M.first l.length bb).isSome) h := by
  apply RetS_fin (fn := Try.f73) Try.func73 rfl (by simp [V.all]) hc
  apply T_seq
  apply T_r F
  · (simp only [go_sem, Try.ntmps73]) <;> exact rfl
  apply K_seq
  apply T_seq
  apply T_wL F [0, 1, 2, 3, 4] rfl
  apply W_pre [0, 1] [2, 3, 4]
  · (simp only [go_sem, Try.ntmps73]) <;> exact rfl
  apply W_callS -- call 0
  · (simp only [go_sem, Try.ntmps73]) <;> exact rfl
  · (simp only [go_sem, Try.ntmps73]) <;> exact rfl
  · exact rfl
  · (simp only [go_sem, Try.ntmps73]) <;> exact rfl
  · (simp only [go_sem, Try.ntmps73]) <;> exact rfl
  · exact ⟨_, Try.func88, rfl, rfl⟩
  · exact sl_indexFuncP l h g ca cb bb hc hg hl hcall
  apply W_run
  · (simp only [go_sem, Try.ntmps73]) <;> exact rfl
  apply W_nil
  apply K_seq
  apply T_ret
  apply finS_ret
  · (simp only [go_sem, Try.ntmps73, Try.f73]) <;> exact rfl
  · simp
  · simp
  -- leaf 0 (ret)
  simp only [go_sem, Try.ntmps73, V.bool.injEq, V.int.injEq, true_and]
  cases M.first l.length bb <;> simp

theorem mv_apart1 (t : Town) (p : List Int) (h : List AObj) (i : Nat) (hc : Closed h) (hi : h[i]? = some (.box 69 (cW t p))) (a b : Int) (h1 : 0 ≤ a) (h2 : a.toNat < p.length) (h3 : 0 ≤ b) (h4 : b.toNat < p.length) (h5 : 0 ≤ p[a.toNat]) (h6 : p[a.toNat].toNat < t.walk.length) (h7 : 0 ≤ p[b.toNat]) (h8 : p[b.toNat].toNat < (t.walk[p[a.toNat].toNat]).length) : RetS Try.prog 97 [.agg [.int .i64 a, .int .i64 b], .ptr i 0] h (.bool (!M.near t p[a.toNat] p[b.toNat])) h := by
  have hi1 : (h ++ [.box 43 [.int .i64 a, .int .i64 b]])[i]? = some (.box 69 (cW t p)) := by rw [List.getElem?_append_left (List.getElem?_eq_some_iff.1 hi).1]; exact hi
  have hib := heap_new h [] (.box 43 [.int .i64 a, .int .i64 b])
  have hib2 := heap_take h [.box 43 [.int .i64 a, .int .i64 b]]
  apply RetS_fin (fn := Try.f97) Try.func97 rfl (by simp [V.all]) hc
  apply T_seq
  apply T_r F
  · (simp only [go_sem, Try.ntmps97, cW_eq, hi, hi1, hib, hib2, h1, h2, h3, h4, rI_get h2, rI_get h4]) <;> exact rfl
  apply K_seq
  apply T_seq
  apply T_qL F [0, 1, 2, 3, 4, 5, 6, 7, 8, 9, 10, 11, 12, 13, 14, 15] rfl (by kernel_rfl)
  apply Q_pre [0, 1, 2, 3] [4, 5, 6, 7, 8, 9, 10, 11, 12, 13, 14, 15]
  · (simp only [go_sem, Try.ntmps97, cW_eq, hi, hi1, hib, hib2, h1, h2, h3, h4, rI_get h2, rI_get h4]) <;> exact rfl
  apply Q_pre [4, 5, 6, 7] [8, 9, 10, 11, 12, 13, 14, 15]
  · (simp only [go_sem, Try.ntmps97, cW_eq, hi, hi1, hib, hib2, h1, h2, h3, h4, rI_get h2, rI_get h4]) <;> exact rfl
  apply Q_pre [8, 9, 10, 11, 12] [13, 14, 15]
  · (simp only [go_sem, Try.ntmps97, cW_eq, hi, hi1, hib, hib2, h1, h2, h3, h4, rI_get h2, rI_get h4]) <;> exact rfl
  apply Q_call -- call 0 of function 96
  · (simp only [go_sem, Try.ntmps97, cW_eq, hi, hi1, hib, hib2, h1, h2, h3, h4, rI_get h2, rI_get h4]) <;> exact rfl
  · (simp only [go_sem, Try.ntmps97, cW_eq, hi, hi1, hib, hib2, h1, h2, h3, h4, rI_get h2, rI_get h4]) <;> exact rfl
  · exact rfl
  · (simp only [go_sem, Try.ntmps97, cW_eq, hi, hi1, hib, hib2, h1, h2, h3, h4, rI_get h2, rI_get h4]) <;> exact rfl
  · (simp only [go_sem, Try.ntmps97, cW_eq, hi, hi1, hib, hib2, h1, h2, h3, h4, rI_get h2, rI_get h4]) <;> exact rfl
  · exact ⟨_, Try.func96, rfl, rfl⟩
  · (simp only [go_sem, Try.ntmps97, cW_eq, hi, hi1, hib, hib2, h1, h2, h3, h4, rI_get h2, rI_get h4]) <;> exact rfl
  · exact mv_near _ _ _ _ (by assumption) (by assumption) (by assumption) (by assumption)
  apply Q_run
  · (simp only [go_sem, Try.ntmps97, cW_eq, hi, hi1, hib, hib2, h1, h2, h3, h4, rI_get h2, rI_get h4]) <;> exact rfl
  apply Q_nil
  apply K_seq
  apply T_ret
  apply finS_ret
  · (simp only [go_sem, Try.ntmps97, cW_eq, hi, hi1, hib, hib2, h1, h2, h3, h4, rI_get h2, rI_get h4, Try.f97]) <;> exact rfl
  · simp
  · simp
  -- leaf 0 (ret)
  simp only [go_sem, Try.ntmps97, cW_eq, hi, hi1, hib, hib2, h1, h2, h3, h4, rI_get h2, rI_get h4, V.bool.injEq, V.int.injEq, true_and]
  all_goals rfl

theorem mv_apart (t : Town) (p : List Int) (ok : M.Ok t) (hp : M.plan t p = true) (hkl : t.kin.length ≤ 9223372036854775807) : Ret Try.prog 81 [.agg (cW t p)] (.int .i64 (match M.first t.kin.length (M.apart t p) with | some i => (i : Int) | none => -1)) := by
  apply Ret_fin (fn := Try.f81) Try.func81 rfl
  apply T_seq
  apply T_r F
  · (simp only [go_sem, Try.ntmps81, cW_eq]) <;> exact rfl
  apply K_seq
  apply T_seq
  apply T_wL F [0, 1, 2, 3, 4, 5] rfl
  apply W_pre [0, 1, 2, 3] [4, 5]
  · (simp only [go_sem, Try.ntmps81, cW_eq]) <;> exact rfl
  apply W_callS -- call 0
  · (simp only [go_sem, Try.ntmps81, cW_eq]) <;> exact rfl
  · (simp only [go_sem, Try.ntmps81, cW_eq]) <;> exact rfl
  · exact rfl
  · (simp only [go_sem, Try.ntmps81, cW_eq]) <;> exact rfl
  · (simp only [go_sem, Try.ntmps81, cW_eq]) <;> exact rfl
  · exact ⟨_, Try.func88, rfl, rfl⟩
  · exact sl_indexFuncP t.kin [.box 69 (cW t p)] 97 [] [.ptr 0 0] (M.apart t p) (closed_W t p) ⟨_, Try.func97, rfl, rfl⟩ hkl (fun k hk => by
    obtain ⟨k1, k2, _⟩ := ok.kins k hk
    rw [M.kn_get hk] at k1 k2
    have k3 := M.house_iff.1 k1
    have k4 := M.house_iff.1 k2
    obtain ⟨p1, p2⟩ := M.plan_iff.1 hp
    have a1 := p2 t.kin[k].1.toNat (by omega)
    have a2 := p2 t.kin[k].2.toNat (by omega)
    rw [M.at_get (by omega)] at a1 a2
    have a3 := M.lot_iff.1 a1
    have a4 := M.lot_iff.1 a2
    have := mv_apart1 t p [.box 69 (cW t p)] 0 (closed_W t p) rfl t.kin[k].1 t.kin[k].2 k3.1 (by omega) k4.1 (by omega) a3.1 (by omega) a4.1 (by rw [ok.square]; omega)
    rw [M.apart, M.kn_get hk, M.at_get (by omega), M.at_get (by omega)]
    exact this)
  apply W_run
  · (simp only [go_sem, Try.ntmps81, cW_eq]) <;> exact rfl
  apply W_nil
  apply K_seq
  apply T_ret
  apply fin_ret
  · (simp only [go_sem, Try.ntmps81, cW_eq, Try.f81]) <;> exact rfl
  -- leaf 0 (ret)
  simp only [go_sem, Try.ntmps81, cW_eq, V.bool.injEq, V.int.injEq, true_and]
  all_goals rfl

end Go.Ab
