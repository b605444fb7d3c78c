/- The law MovePleased holds of the given program for every input: it returns true, and the input reads as it did. -/
import Derived.Test.YtahflobpopclpaaPl4
import Derived.Test.YtahflobpopclpaaRows
import Derived.WalkKit
import Derived.ProofKit
import Derived.OpenShut
import Derived.ShutString
import Derived.ChangeOld
import Derived.Below
import Derived.SizedLaws
set_option linter.unusedVariables false
set_option linter.unusedSimpArgs false
namespace Go.Ab
open Go Go.RowKit Go.Proofs Fac
set_option linter.unusedVariables false
set_option linter.unusedSimpArgs false
set_option maxRecDepth 4000
set_option maxHeartbeats 1000000





theorem sl_equal (l m : List Int) : Ret Try.prog 52 [.sl 1 (rI l), .sl 1 (rI m)] (.bool (l == m)) := by
  refine Ret.of_fits fun hfits => ?_
  simp only [V.fits, V.fitsL, V.fitsR, rI_length] at hfits
  have hl := hfits.1.1
  have hlm := hfits.2.1.1
  apply Ret_fin (fn := Try.f52) Try.func52 rfl
  apply T_seq
  apply T_r F
  · (simp only [go_sem, Try.ntmps52]) <;> exact rfl
  apply K_seq
  apply T_seq
  apply T_seq
  apply T_r F
  · (simp only [go_sem, Try.ntmps52]) <;> exact rfl
  apply K_seq
  apply T_if
  · (simp only [go_sem, Try.ntmps52]) <;> exact rfl
  · intro bh0t
    have h0t := bh0t
    try simp only [CS] at h0t
    try simp only [BS] at bh0t
    try exact absurd bh0t (by decide)
    all_goals (
  apply T_seq
  apply T_r F
  · (simp only [go_sem, Try.ntmps52, bh0t]) <;> exact rfl
  apply K_seq
  apply T_ret
  apply K_seqR
  apply fin_ret
  · (simp only [go_sem, Try.ntmps52, bh0t, Try.f52]) <;> exact rfl
  -- leaf 0 (ret)
  simp only [go_sem, Try.ntmps52, bh0t, V.bool.injEq, V.int.injEq, true_and]
  grind)
  · intro bh0f
    have h0f := bh0f
    try simp only [CS] at h0f
    try simp only [BS] at bh0f
    try exact absurd bh0f (by decide)
    all_goals (
  apply T_skip
  apply K_seq
  apply T_seq
  apply T_seq
  apply T_r F
  · (simp only [go_sem, Try.ntmps52, bh0f]) <;> exact rfl
  apply K_seq
  apply T_block
  apply T_lp (α := Nat) [true, true, false, false, false, false, false, false, false, false, false, false, true, true, false, false, false, false, false, false, false, false, false, false, false, false] (fun k => (⟨[.sl 1 (rI l), .sl 1 (rI m), .undef, .undef, .undef, .undef, .undef, .undef, .undef, .undef, .undef, .undef, .int .i64 (l.length : Int), .int .i64 (k : Int), .undef, .undef, .undef, .undef, .undef, .undef, .undef, .undef, .undef, .undef, .undef, .undef], []⟩ : St)) (fun k => k ≤ l.length ∧ (l.drop k == m.drop k) = (l == m)) (fun k => l.length - k) (0)
  · (simp only [go_sem, Try.ntmps52, bh0f]) <;> exact rfl
  · simp
  · rintro k ⟨hk, hj⟩
    apply T_seq
    apply T_r F
    · (simp only [go_sem, Try.ntmps52, bh0f]) <;> exact rfl
    apply K_seq
    apply T_seq
    apply T_if
    · (simp only [go_sem, Try.ntmps52, bh0f]) <;> exact rfl
    · intro bh1t
      have h1t := bh1t
      try simp only [CS] at h1t
      try simp only [BS] at bh1t
      try exact absurd bh1t (by decide)
      all_goals (
  have hb : k < 9223372036854775807 := by omega
  have hm : k < m.length := by omega
  have hd := List.drop_eq_getElem_cons h1t
  have he := List.drop_eq_getElem_cons hm
  apply T_skip
  apply K_seq
  apply T_seq
  apply T_block
  apply T_seq
  apply T_r F
  · (simp only [go_sem, Try.ntmps52, bh0f, bh1t, h1t, rI_get h1t, hb, hm, rI_get hm]) <;> exact rfl
  apply K_seq
  apply T_seq
  apply T_qL F [0, 1, 2, 3, 4, 5, 6, 7, 8] rfl (by kernel_rfl)
  apply Q_pre [0, 1, 2, 3] [4, 5, 6, 7, 8]
  · (simp only [go_sem, Try.ntmps52, bh0f, bh1t, h1t, rI_get h1t, hb, hm, rI_get hm]) <;> exact rfl
  apply Q_run
  · (simp only [go_sem, Try.ntmps52, bh0f, bh1t, h1t, rI_get h1t, hb, hm, rI_get hm]) <;> exact rfl
  apply Q_nil
  apply K_seq
  apply T_if
  · (simp only [go_sem, Try.ntmps52, bh0f, bh1t, h1t, rI_get h1t, hb, hm, rI_get hm]) <;> exact rfl
  · intro bh2t
    have h2t := bh2t
    try simp only [CS] at h2t
    try simp only [BS] at bh2t
    try exact absurd bh2t (by decide)
    all_goals (
  apply T_seq
  apply T_r F
  · (simp only [go_sem, Try.ntmps52, bh0f, bh1t, h1t, rI_get h1t, hb, hm, rI_get hm, bh2t]) <;> exact rfl
  apply K_seq
  apply T_ret
  apply K_blkR
  apply K_seqR
  apply K_lpR
  apply K_blkR
  apply K_seqR
  apply fin_ret
  · (simp only [go_sem, Try.ntmps52, bh0f, bh1t, h1t, rI_get h1t, hb, hm, rI_get hm, bh2t, Try.f52]) <;> exact rfl
  -- leaf 1 (ret)
  simp only [go_sem, Try.ntmps52, bh0f, bh1t, h1t, rI_get h1t, hb, hm, rI_get hm, bh2t, V.bool.injEq, V.int.injEq, true_and]
  grind)
  · intro bh2f
    have h2f := bh2f
    try simp only [CS] at h2f
    try simp only [BS] at bh2f
    try exact absurd bh2f (by decide)
    all_goals (
  apply T_skip
  apply K_blk
  apply K_seq
  apply T_r F
  · (simp only [go_sem, Try.ntmps52, bh0f, bh1t, h1t, rI_get h1t, hb, hm, rI_get hm, bh2f]) <;> exact rfl
  refine K_lp (k + 1) ?_ ?_
  · (simp only [go_sem, Try.ntmps52, bh0f, bh1t, h1t, rI_get h1t, hb, hm, rI_get hm, bh2f]) <;> exact rfl
  -- leaf 2 (loop0)
  grind))
    · intro bh1f
      have h1f := bh1f
      try simp only [CS] at h1f
      try simp only [BS] at bh1f
      try exact absurd bh1f (by decide)
      all_goals (
  apply T_exit
  apply K_seqE
  apply K_lpE
  apply K_blkE
  apply K_seq
  apply T_seq
  apply T_r F
  · (simp only [go_sem, Try.ntmps52, bh0f, bh1f]) <;> exact rfl
  apply K_seq
  apply T_ret
  apply fin_ret
  · (simp only [go_sem, Try.ntmps52, bh0f, bh1f, Try.f52]) <;> exact rfl
  -- leaf 3 (ret)
  simp only [go_sem, Try.ntmps52, bh0f, bh1f, V.bool.injEq, V.int.injEq, true_and]
  grind))

theorem mv_exchY (t : Town) (p q : List Int) (o : V) (ok : M.Ok t) (hp : M.plan t p = true) (hq : M.plan t q = true) (ho : ∀ q, o.all q = true) : RetY Try.prog 6 [.sl 1 (rI q)] (hpE t p o .ready none ++ extP t (.sl 1 (rI p)) 6 7) (.bool (!M.pleases t p q)) (if M.pleases t p q = true then hpE t p (.sl 1 (rI q)) .done (some .ret) ++ extP t (.sl 1 (rI p)) 6 7 else hpE t p o .ready none ++ extP t (.sl 1 (rI p)) 6 7) := by
  have hpl := (M.plan_iff.1 hp).1
  have hql := (M.plan_iff.1 hq).1
  have h6 := M.houses_le ok
  have hlpq : p.length = q.length := by omega
  have hpi := M.pleases_iff (t := t) hlpq
  have hrp : (M.ranks t p).length = p.length := M.ranks_length t p
  have hrq : (M.ranks t q).length = q.length := M.ranks_length t q
  refine RetY_intro (pe := none) (tm := tmE t p) (ps := #[24]) (asg := asOf Try.f20) (bd := bdOf Try.f20) rfl rfl fun ro => ?_
  apply T_r F
  · (simp only [go_sem, hpE, extP, tmE, zipSet, cX_eq, cW_eq, hrp, hrq]) <;> exact rfl
  apply yas_next
  · (simp only [go_sem, hpE, extP, tmE, zipSet, cX_eq, cW_eq, hrp, hrq]) <;> exact rfl
  apply T_block
  apply T_seq
  apply T_seq
  apply T_wL F [0, 1, 2] rfl
  apply W_pre [0, 1] [2]
  · (simp only [go_sem, hpE, extP, tmE, zipSet, cX_eq, cW_eq, hrp, hrq]) <;> exact rfl
  apply W_call -- call 0 of function 52
  · (simp only [go_sem, hpE, extP, tmE, zipSet, cX_eq, cW_eq, hrp, hrq]) <;> exact rfl
  · (simp only [go_sem, hpE, extP, tmE, zipSet, cX_eq, cW_eq, hrp, hrq]) <;> exact rfl
  · exact rfl
  · (simp only [go_sem, hpE, extP, tmE, zipSet, cX_eq, cW_eq, hrp, hrq]) <;> exact rfl
  · (simp only [go_sem, hpE, extP, tmE, zipSet, cX_eq, cW_eq, hrp, hrq]) <;> exact rfl
  · exact ⟨_, Try.func52, rfl, rfl⟩
  · (simp only [go_sem, hpE, extP, tmE, zipSet, cX_eq, cW_eq, hrp, hrq]) <;> exact rfl
  · (simp only [go_sem, hpE, extP, tmE, zipSet, cX_eq, cW_eq, hrp, hrq]) <;> exact rfl
  · exact sl_equal _ _
  apply W_run
  · (simp only [go_sem, hpE, extP, tmE, zipSet, cX_eq, cW_eq, hrp, hrq]) <;> exact rfl
  apply W_nil
  apply K_seq
  apply T_if
  · (simp only [go_sem, hpE, extP, tmE, zipSet, cX_eq, cW_eq, hrp, hrq]) <;> exact rfl
  · intro bh0t
    have h0t := bh0t
    try simp only [CS] at h0t
    try simp only [BS] at bh0t
    try exact absurd bh0t (by decide)
    all_goals (
  have hpv : M.pleases t p q = false := by
    rw [← Bool.not_eq_true, hpi]
    intro h
    exact h.1 h0t.symm
  apply T_exit
  apply K_seqE
  apply K_blkE
  apply round_normal
  · (simp only [go_sem, hpE, extP, tmE, zipSet, cX_eq, cW_eq, hrp, hrq, bh0t, hpv]) <;> exact rfl
  · simp only [go_sem, hpE, extP, tmE, zipSet, cX_eq, cW_eq, hrp, hrq, bh0t, hpv]
  · simp only [go_sem, hpE, extP, tmE, zipSet, cX_eq, cW_eq, hrp, hrq, bh0t, hpv]
  · simp only [go_sem, hpE, extP, tmE, zipSet, cX_eq, cW_eq, hrp, hrq, bh0t, hpv]
  · rw [hpv]
    first | exact cloE ho | exact cloE (sl_all q))
  · intro bh0f
    have h0f := bh0f
    try simp only [CS] at h0f
    try simp only [BS] at bh0f
    try exact absurd bh0f (by decide)
    all_goals (
  apply T_skip
  apply K_seq
  apply T_seq
  apply T_seq
  apply T_wL F [0, 1, 2, 3, 4, 5] rfl
  apply W_pre [0, 1, 2] [3, 4, 5]
  · (simp only [go_sem, hpE, extP, tmE, zipSet, cX_eq, cW_eq, hrp, hrq, bh0f]) <;> exact rfl
  apply W_call -- call 1 of function 50
  · (simp only [go_sem, hpE, extP, tmE, zipSet, cX_eq, cW_eq, hrp, hrq, bh0f]) <;> exact rfl
  · (simp only [go_sem, hpE, extP, tmE, zipSet, cX_eq, cW_eq, hrp, hrq, bh0f]) <;> exact rfl
  · exact rfl
  · (simp only [go_sem, hpE, extP, tmE, zipSet, cX_eq, cW_eq, hrp, hrq, bh0f]) <;> exact rfl
  · (simp only [go_sem, hpE, extP, tmE, zipSet, cX_eq, cW_eq, hrp, hrq, bh0f]) <;> exact rfl
  · exact ⟨_, Try.func50, rfl, rfl⟩
  · (simp only [go_sem, hpE, extP, tmE, zipSet, cX_eq, cW_eq, hrp, hrq, bh0f]) <;> exact rfl
  · (simp only [go_sem, hpE, extP, tmE, zipSet, cX_eq, cW_eq, hrp, hrq, bh0f]) <;> exact rfl
  · exact mv_ranks _ _ (by omega) (by omega)
  apply W_run
  · (simp only [go_sem, hpE, extP, tmE, zipSet, cX_eq, cW_eq, hrp, hrq, bh0f]) <;> exact rfl
  apply W_nil
  apply K_seq
  apply T_block
  apply T_lp (α := Nat) [false, false, false, true, true, true, false, false, true, true, false, false, false, false, false, false, false, false, false, false, false, false, false, false, false, false, false, false, false, false, false, true, true, true, false, false, false, false, false, false, false, false, false, false, false, false, false, false, false, false, false, false, false, false, false, false, false] (fun k => (⟨[.undef, .undef, .undef, .ptr 1 0, .ptr 2 0, .ptr 3 0, .undef, .undef, .ptr 5 0, .sl 1 (rI q), .undef, .undef, .undef, .undef, .undef, .undef, .undef, .undef, .undef, .undef, .undef, .undef, .undef, .undef, .undef, .undef, .undef, .undef, .undef, .undef, .undef, .sl 1 (rI (M.ranks t q)), .int .i64 (q.length : Int), .int .i64 (k : Int), .undef, .undef, .undef, .undef, .undef, .undef, .undef, .undef, .undef, .undef, .undef, .undef, .undef, .undef, .undef, .undef, .undef, .undef, .undef, .undef, .undef, .undef, .undef], hpE t p o .busy none ++ extP t (.sl 1 (rI p)) 6 7⟩ : St)) (fun k => k ≤ q.length ∧ ∀ j (h1 : j < p.length) (h2 : j < q.length), j < k → p[j] = q[j] ∨ M.rank t j q[j] < M.rank t j p[j]) (fun k => q.length - k) (0)
  · (simp only [go_sem, hpE, extP, tmE, zipSet, cX_eq, cW_eq, hrp, hrq, bh0f]) <;> exact rfl
  · simp
  · rintro k ⟨hk, hj⟩
    apply T_seq
    apply T_r F
    · (simp only [go_sem, hpE, extP, tmE, zipSet, cX_eq, cW_eq, hrp, hrq, bh0f]) <;> exact rfl
    apply K_seq
    apply T_seq
    apply T_if
    · (simp only [go_sem, hpE, extP, tmE, zipSet, cX_eq, cW_eq, hrp, hrq, bh0f]) <;> exact rfl
    · intro bh1t
      have h1t := bh1t
      try simp only [CS] at h1t
      try simp only [BS] at bh1t
      try exact absurd bh1t (by decide)
      all_goals (
  have hb : k < 9223372036854775807 := by omega
  have hkp : k < p.length := by omega
  have hr1 : k < (M.ranks t q).length := by omega
  have hr2 : k < (M.ranks t p).length := by omega
  have hg1 := M.rank_len (t := t) h1t
  have hg2 := M.rank_len (t := t) hkp
  apply T_skip
  apply K_seq
  apply T_seq
  apply T_block
  apply T_seq
  apply T_r F
  · (simp only [go_sem, hpE, extP, tmE, zipSet, cX_eq, cW_eq, hrp, hrq, bh0f, bh1t, h1t, hb, rI_get hr1, hr1, rI_get hr2, hr2, rI_get h1t, rI_get hkp, hkp, hg1, hg2]) <;> exact rfl
  apply K_seq
  apply T_seq
  apply T_qL F [0, 1, 2, 3, 4, 5, 6, 7, 8, 9, 10, 11, 12, 13, 14, 15, 16] rfl (by kernel_rfl)
  apply Q_pre [0, 1, 2, 3] [4, 5, 6, 7, 8, 9, 10, 11, 12, 13, 14, 15, 16]
  · (simp only [go_sem, hpE, extP, tmE, zipSet, cX_eq, cW_eq, hrp, hrq, bh0f, bh1t, h1t, hb, rI_get hr1, hr1, rI_get hr2, hr2, rI_get h1t, rI_get hkp, hkp, hg1, hg2]) <;> exact rfl
  apply Q_pre [4, 5, 6, 7, 8, 9] [10, 11, 12, 13, 14, 15, 16]
  · (simp only [go_sem, hpE, extP, tmE, zipSet, cX_eq, cW_eq, hrp, hrq, bh0f, bh1t, h1t, hb, rI_get hr1, hr1, rI_get hr2, hr2, rI_get h1t, rI_get hkp, hkp, hg1, hg2]) <;> exact rfl
  apply Q_guard
  · (simp only [go_sem, hpE, extP, tmE, zipSet, cX_eq, cW_eq, hrp, hrq, bh0f, bh1t, h1t, hb, rI_get hr1, hr1, rI_get hr2, hr2, rI_get h1t, rI_get hkp, hkp, hg1, hg2]) <;> exact rfl
  · (simp only [go_sem, hpE, extP, tmE, zipSet, cX_eq, cW_eq, hrp, hrq, bh0f, bh1t, h1t, hb, rI_get hr1, hr1, rI_get hr2, hr2, rI_get h1t, rI_get hkp, hkp, hg1, hg2]) <;> exact rfl
  · intro bg0t
    have g0t := bg0t
    try simp only [CS] at g0t
    try simp only [BS] at bg0t
    try exact absurd bg0t (by decide)
    all_goals (
  apply Q_pre [10, 11, 12, 13] [14, 15, 16]
  · (simp only [go_sem, hpE, extP, tmE, zipSet, cX_eq, cW_eq, hrp, hrq, bh0f, bh1t, h1t, hb, rI_get hr1, hr1, rI_get hr2, hr2, rI_get h1t, rI_get hkp, hkp, hg1, hg2, bg0t]) <;> exact rfl
  apply Q_run
  · (simp only [go_sem, hpE, extP, tmE, zipSet, cX_eq, cW_eq, hrp, hrq, bh0f, bh1t, h1t, hb, rI_get hr1, hr1, rI_get hr2, hr2, rI_get h1t, rI_get hkp, hkp, hg1, hg2, bg0t]) <;> exact rfl
  apply Q_nil
  apply K_seq
  apply T_if
  · (simp only [go_sem, hpE, extP, tmE, zipSet, cX_eq, cW_eq, hrp, hrq, bh0f, bh1t, h1t, hb, rI_get hr1, hr1, rI_get hr2, hr2, rI_get h1t, rI_get hkp, hkp, hg1, hg2, bg0t]) <;> exact rfl
  · intro bh2t
    have h2t := bh2t
    try simp only [CS] at h2t
    try simp only [BS] at bh2t
    try exact absurd bh2t (by decide)
    all_goals (
  have hpv : M.pleases t p q = false := by
    rw [← Bool.not_eq_true, hpi]
    intro h
    have := h.2 k hkp h1t
    grind
  apply T_exit
  apply K_blkX rfl
  apply K_seqE
  apply K_lpE
  apply K_blkX rfl
  apply K_seqE
  apply K_blkE
  apply round_normal
  · (simp only [go_sem, hpE, extP, tmE, zipSet, cX_eq, cW_eq, hrp, hrq, bh0f, bh1t, h1t, hb, rI_get hr1, hr1, rI_get hr2, hr2, rI_get h1t, rI_get hkp, hkp, hg1, hg2, bg0t, bh2t, hpv]) <;> exact rfl
  · simp only [go_sem, hpE, extP, tmE, zipSet, cX_eq, cW_eq, hrp, hrq, bh0f, bh1t, h1t, hb, rI_get hr1, hr1, rI_get hr2, hr2, rI_get h1t, rI_get hkp, hkp, hg1, hg2, bg0t, bh2t, hpv]
  · simp only [go_sem, hpE, extP, tmE, zipSet, cX_eq, cW_eq, hrp, hrq, bh0f, bh1t, h1t, hb, rI_get hr1, hr1, rI_get hr2, hr2, rI_get h1t, rI_get hkp, hkp, hg1, hg2, bg0t, bh2t, hpv]
  · simp only [go_sem, hpE, extP, tmE, zipSet, cX_eq, cW_eq, hrp, hrq, bh0f, bh1t, h1t, hb, rI_get hr1, hr1, rI_get hr2, hr2, rI_get h1t, rI_get hkp, hkp, hg1, hg2, bg0t, bh2t, hpv]
  · rw [hpv]
    first | exact cloE ho | exact cloE (sl_all q))
  · intro bh2f
    have h2f := bh2f
    try simp only [CS] at h2f
    try simp only [BS] at bh2f
    try exact absurd bh2f (by decide)
    all_goals (
  apply T_skip
  apply K_blk
  apply K_seq
  apply T_r F
  · (simp only [go_sem, hpE, extP, tmE, zipSet, cX_eq, cW_eq, hrp, hrq, bh0f, bh1t, h1t, hb, rI_get hr1, hr1, rI_get hr2, hr2, rI_get h1t, rI_get hkp, hkp, hg1, hg2, bg0t, bh2f]) <;> exact rfl
  refine K_lp (k + 1) ?_ ?_
  · (simp only [go_sem, hpE, extP, tmE, zipSet, cX_eq, cW_eq, hrp, hrq, bh0f, bh1t, h1t, hb, rI_get hr1, hr1, rI_get hr2, hr2, rI_get h1t, rI_get hkp, hkp, hg1, hg2, bg0t, bh2f]) <;> exact rfl
  -- leaf 0 (loop0)
  grind))
  · intro bg0f
    have g0f := bg0f
    try simp only [CS] at g0f
    try simp only [BS] at bg0f
    try exact absurd bg0f (by decide)
    all_goals (
  apply Q_pre [10, 11, 12, 13] [14, 15, 16]
  · (simp only [go_sem, hpE, extP, tmE, zipSet, cX_eq, cW_eq, hrp, hrq, bh0f, bh1t, h1t, hb, rI_get hr1, hr1, rI_get hr2, hr2, rI_get h1t, rI_get hkp, hkp, hg1, hg2, bg0f]) <;> exact rfl
  apply Q_run
  · (simp only [go_sem, hpE, extP, tmE, zipSet, cX_eq, cW_eq, hrp, hrq, bh0f, bh1t, h1t, hb, rI_get hr1, hr1, rI_get hr2, hr2, rI_get h1t, rI_get hkp, hkp, hg1, hg2, bg0f]) <;> exact rfl
  apply Q_nil
  apply K_seq
  apply T_if
  · (simp only [go_sem, hpE, extP, tmE, zipSet, cX_eq, cW_eq, hrp, hrq, bh0f, bh1t, h1t, hb, rI_get hr1, hr1, rI_get hr2, hr2, rI_get h1t, rI_get hkp, hkp, hg1, hg2, bg0f]) <;> exact rfl
  · intro bh3t
    exact absurd bh3t (by simp)
  · intro bh3f
    have h3f := bh3f
    try simp only [CS] at h3f
    try simp only [BS] at bh3f
    try exact absurd bh3f (by decide)
    all_goals (
  apply T_skip
  apply K_blk
  apply K_seq
  apply T_r F
  · (simp only [go_sem, hpE, extP, tmE, zipSet, cX_eq, cW_eq, hrp, hrq, bh0f, bh1t, h1t, hb, rI_get hr1, hr1, rI_get hr2, hr2, rI_get h1t, rI_get hkp, hkp, hg1, hg2, bg0f, bh3f]) <;> exact rfl
  refine K_lp (k + 1) ?_ ?_
  · (simp only [go_sem, hpE, extP, tmE, zipSet, cX_eq, cW_eq, hrp, hrq, bh0f, bh1t, h1t, hb, rI_get hr1, hr1, rI_get hr2, hr2, rI_get h1t, rI_get hkp, hkp, hg1, hg2, bg0f, bh3f]) <;> exact rfl
  -- leaf 1 (loop0)
  grind)))
    · intro bh1f
      have h1f := bh1f
      try simp only [CS] at h1f
      try simp only [BS] at bh1f
      try exact absurd bh1f (by decide)
      all_goals (
  have hpv : M.pleases t p q = true := by
    rw [hpi]
    exact ⟨fun e => h0f e.symm, fun j h1 h2 => hj j h1 h2 (by omega)⟩
  apply T_exit
  apply K_seqE
  apply K_lpE
  apply K_blkE
  apply K_seq
  apply T_seq
  apply T_r F
  · (simp only [go_sem, hpE, extP, tmE, zipSet, cX_eq, cW_eq, hrp, hrq, bh0f, bh1f, hpv]) <;> exact rfl
  apply K_seq
  apply T_ret
  apply K_blkR
  apply round_ret
  · (simp only [go_sem, hpE, extP, tmE, zipSet, cX_eq, cW_eq, hrp, hrq, bh0f, bh1f, hpv]) <;> exact rfl
  · simp only [go_sem, hpE, extP, tmE, zipSet, cX_eq, cW_eq, hrp, hrq, bh0f, bh1f, hpv]
  · simp only [go_sem, hpE, extP, tmE, zipSet, cX_eq, cW_eq, hrp, hrq, bh0f, bh1f, hpv]
  · simp only [go_sem, hpE, extP, tmE, zipSet, cX_eq, cW_eq, hrp, hrq, bh0f, bh1f, hpv]
  · rw [hpv]
    first | exact cloE ho | exact cloE (sl_all q)))


theorem feedE {t : Town} {p : List Int} (ok : M.Ok t) (hp : M.plan t p = true) : ∀ (l : List (List Int)), (∀ q ∈ l, q ∈ M.plans t) →
    (l.find? (M.pleases t p) = none → FeedP t (.sl 1 (rI p)) 6 7 8 9 10 l (hpE t p .nil .ready none ++ extP t (.sl 1 (rI p)) 6 7) true (hpE t p .nil .ready none ++ extP t (.sl 1 (rI p)) 6 7)) ∧
    (∀ q, l.find? (M.pleases t p) = some q → FeedP t (.sl 1 (rI p)) 6 7 8 9 10 l (hpE t p .nil .ready none ++ extP t (.sl 1 (rI p)) 6 7) false (hpE t p (.sl 1 (rI q)) .done (some .ret) ++ extP t (.sl 1 (rI p)) 6 7))
  | [], _ => ⟨fun _ => .nil ⟨cloE (fun _ => rfl), rfl, rfl, rfl, rfl⟩, fun q h => by simp at h⟩
  | x :: l, hl => by
    have hx := mv_exchY t p x .nil ok hp (M.mem_plans.1 (hl x (by simp))).1 (fun _ => rfl)
    have ih := feedE ok hp l (fun q hq => hl q (by simp [hq]))
    rw [List.find?_cons]
    cases hpv : M.pleases t p x with
    | true =>
      refine ⟨fun h => by simp at h, fun q h => ?_⟩
      simp only [Option.some.injEq] at h; subst h
      rw [hpv, if_pos rfl] at hx
      exact .stop ⟨cloE (fun _ => rfl), rfl, rfl, rfl, rfl⟩ ⟨cloE (sl_all x), rfl, rfl, rfl, rfl⟩ hx
    | false =>
      rw [hpv, if_neg (by simp)] at hx
      exact ⟨fun h => .go ⟨cloE (fun _ => rfl), rfl, rfl, rfl, rfl⟩ hx (ih.1 h), fun q h => .go ⟨cloE (fun _ => rfl), rfl, rfl, rfl, rfl⟩ hx (ih.2 q h)⟩
def M.exch (t : Town) (p : List Int) : Option (List Int) := (M.plans t).find? (M.pleases t p)

theorem mv_ExchangeA (t : Town) (p : List Int) (hh : t.houses.length ≤ 1000) (he : (M.err t p != 0) = true) : Ret Try.prog 20 [.agg (cT t), .sl 1 (rI p)] (.tup [.nil, .int .i64 (M.err t p)]) := by
  refine Ret.of_fits fun hfits => ?_
  simp only [V.fits, V.fitsL, V.fitsR, cT_fits] at hfits
  have hsl := hfits.1.schools
  apply Ret_fin (fn := Try.f20) Try.func20 rfl
  apply T_seq
  apply T_r F
  · (simp only [go_sem, Try.ntmps20, cX_eq, cW_eq, he]) <;> exact rfl
  apply K_seq
  apply T_scope
  apply T_seq
  apply T_r F
  · (simp only [go_sem, Try.ntmps20, cX_eq, cW_eq, he]) <;> exact rfl
  apply K_seq
  apply T_seq
  apply T_seq
  apply T_wL F [0, 1, 2] rfl
  apply W_pre [0] [1, 2]
  · (simp only [go_sem, Try.ntmps20, cX_eq, cW_eq, he]) <;> exact rfl
  apply W_call -- call 0 of function 49
  · (simp only [go_sem, Try.ntmps20, cX_eq, cW_eq, he]) <;> exact rfl
  · (simp only [go_sem, Try.ntmps20, cX_eq, cW_eq, he]) <;> exact rfl
  · exact rfl
  · (simp only [go_sem, Try.ntmps20, cX_eq, cW_eq, he]) <;> exact rfl
  · (simp only [go_sem, Try.ntmps20, cX_eq, cW_eq, he]) <;> exact rfl
  · exact ⟨_, Try.func49, rfl, rfl⟩
  · (simp only [go_sem, Try.ntmps20, cX_eq, cW_eq, he]) <;> exact rfl
  · (simp only [go_sem, Try.ntmps20, cX_eq, cW_eq, he]) <;> exact rfl
  · exact mv_allowed _ _ (by omega)
  apply W_run
  · (simp only [go_sem, Try.ntmps20, cX_eq, cW_eq, he]) <;> exact rfl
  apply W_nil
  apply K_seq
  apply T_seq
  apply T_r F
  · (simp only [go_sem, Try.ntmps20, cX_eq, cW_eq, he]) <;> exact rfl
  apply K_seq
  apply T_ifT -- h0
  · (simp only [go_sem, Try.ntmps20, cX_eq, cW_eq, he]) <;> exact rfl
  apply T_seq
  apply T_r F
  · (simp only [go_sem, Try.ntmps20, cX_eq, cW_eq, he]) <;> exact rfl
  apply K_seq
  apply T_ret
  apply K_seqR
  apply K_scopeR
  apply fin_ret
  · (simp only [go_sem, Try.ntmps20, cX_eq, cW_eq, he, Try.f20]) <;> exact rfl
  -- leaf 0 (ret)
  
  all_goals rfl

theorem mv_ExchangeB (t : Town) (p : List Int) (hh : t.houses.length ≤ 1000) (he : M.err t p = 0) (hf : M.exch t p = none) : Ret Try.prog 20 [.agg (cT t), .sl 1 (rI p)] (.tup [.nil, .int .i64 5]) := by
  refine Ret.of_fits fun hfits => ?_
  simp only [V.fits, V.fitsL, V.fitsR, cT_fits] at hfits
  have hsl := hfits.1.schools
  have hop : M.Ok t ∧ M.plan t p = true := by
    unfold M.err at he
    split at he
    · assumption
    · exact absurd he (by decide)
  have ok := hop.1
  have hp := hop.2
  have hpl := (M.plan_iff.1 hp).1
  have h6 := M.houses_le ok
  apply Ret_fin (fn := Try.f20) Try.func20 rfl
  apply T_seq
  apply T_r F
  · (simp only [go_sem, Try.ntmps20, cX_eq, cW_eq, he, hpE, tmE]) <;> exact rfl
  apply K_seq
  apply T_scope
  apply T_seq
  apply T_r F
  · (simp only [go_sem, Try.ntmps20, cX_eq, cW_eq, he, hpE, tmE]) <;> exact rfl
  apply K_seq
  apply T_seq
  apply T_seq
  apply T_wL F [0, 1, 2] rfl
  apply W_pre [0] [1, 2]
  · (simp only [go_sem, Try.ntmps20, cX_eq, cW_eq, he, hpE, tmE]) <;> exact rfl
  apply W_call -- call 0 of function 49
  · (simp only [go_sem, Try.ntmps20, cX_eq, cW_eq, he, hpE, tmE]) <;> exact rfl
  · (simp only [go_sem, Try.ntmps20, cX_eq, cW_eq, he, hpE, tmE]) <;> exact rfl
  · exact rfl
  · (simp only [go_sem, Try.ntmps20, cX_eq, cW_eq, he, hpE, tmE]) <;> exact rfl
  · (simp only [go_sem, Try.ntmps20, cX_eq, cW_eq, he, hpE, tmE]) <;> exact rfl
  · exact ⟨_, Try.func49, rfl, rfl⟩
  · (simp only [go_sem, Try.ntmps20, cX_eq, cW_eq, he, hpE, tmE]) <;> exact rfl
  · (simp only [go_sem, Try.ntmps20, cX_eq, cW_eq, he, hpE, tmE]) <;> exact rfl
  · exact mv_allowed _ _ (by omega)
  apply W_run
  · (simp only [go_sem, Try.ntmps20, cX_eq, cW_eq, he, hpE, tmE]) <;> exact rfl
  apply W_nil
  apply K_seq
  apply T_seq
  apply T_r F
  · (simp only [go_sem, Try.ntmps20, cX_eq, cW_eq, he, hpE, tmE]) <;> exact rfl
  apply K_seq
  apply T_ifF -- h0
  · (simp only [go_sem, Try.ntmps20, cX_eq, cW_eq, he, hpE, tmE]) <;> exact rfl
  apply T_skip
  apply K_seq
  apply T_seq
  apply T_wL F [0, 1, 2, 3] rfl
  apply W_pre [0] [1, 2, 3]
  · (simp only [go_sem, Try.ntmps20, cX_eq, cW_eq, he, hpE, tmE]) <;> exact rfl
  apply W_call -- call 1 of function 50
  · (simp only [go_sem, Try.ntmps20, cX_eq, cW_eq, he, hpE, tmE]) <;> exact rfl
  · (simp only [go_sem, Try.ntmps20, cX_eq, cW_eq, he, hpE, tmE]) <;> exact rfl
  · exact rfl
  · (simp only [go_sem, Try.ntmps20, cX_eq, cW_eq, he, hpE, tmE]) <;> exact rfl
  · (simp only [go_sem, Try.ntmps20, cX_eq, cW_eq, he, hpE, tmE]) <;> exact rfl
  · exact ⟨_, Try.func50, rfl, rfl⟩
  · (simp only [go_sem, Try.ntmps20, cX_eq, cW_eq, he, hpE, tmE]) <;> exact rfl
  · (simp only [go_sem, Try.ntmps20, cX_eq, cW_eq, he, hpE, tmE]) <;> exact rfl
  · exact mv_ranks _ _ (by omega) (by omega)
  apply W_run
  · (simp only [go_sem, Try.ntmps20, cX_eq, cW_eq, he, hpE, tmE]) <;> exact rfl
  apply W_nil
  apply K_seq
  apply T_seq
  apply T_label
  apply K_seq
  apply T_seq
  apply T_seq
  apply T_r F
  · (simp only [go_sem, Try.ntmps20, cX_eq, cW_eq, he, hpE, tmE]) <;> exact rfl
  apply K_seq
  apply T_block
  apply T_rangeFunc -- range 0
  · (simp only [go_sem, Try.ntmps20, cX_eq, cW_eq, he, hpE, tmE]) <;> exact rfl
  · exact ⟨_, Try.func51, rfl, rfl⟩
  · exact (mv_plans (h := hpE t p .nil .ready none) (h1 := hpE t p (.nil) .ready (none)) (b := true) (PlV.sl p) ok hh hsl (hpE_closed (fun _ => rfl)) rfl ((feedE ok hp (M.plans t) (fun q hq => hq)).1 hf) : RetS Try.prog 51 [.agg (cX t (.sl 1 (rI p))), .yield 6] (hpE t p .nil .ready none) (.tup []) (hpE t p (.nil) .ready (none)))
  · (simp only [go_sem, Try.ntmps20, cX_eq, cW_eq, he, hpE, tmE]) <;> exact rfl
  · simp
  simp only [contK]
  apply K_blk
  apply K_seq
  apply T_seq
  apply T_r F
  · (simp only [go_sem, Try.ntmps20, cX_eq, cW_eq, he, hpE, tmE]) <;> exact rfl
  apply K_seq
  apply T_ret
  apply K_scopeR
  apply fin_ret
  · (simp only [go_sem, Try.ntmps20, cX_eq, cW_eq, he, hpE, tmE, Try.f20]) <;> exact rfl
  -- leaf 0 (ret)
  
  all_goals rfl

theorem mv_ExchangeC (t : Town) (p : List Int) (hh : t.houses.length ≤ 1000) (he : M.err t p = 0) (q : List Int) (hf : M.exch t p = some q) : Ret Try.prog 20 [.agg (cT t), .sl 1 (rI p)] (.tup [.sl 1 (rI q), .int .i64 0]) := by
  refine Ret.of_fits fun hfits => ?_
  simp only [V.fits, V.fitsL, V.fitsR, cT_fits] at hfits
  have hsl := hfits.1.schools
  have hop : M.Ok t ∧ M.plan t p = true := by
    unfold M.err at he
    split at he
    · assumption
    · exact absurd he (by decide)
  have ok := hop.1
  have hp := hop.2
  have hpl := (M.plan_iff.1 hp).1
  have h6 := M.houses_le ok
  apply Ret_fin (fn := Try.f20) Try.func20 rfl
  apply T_seq
  apply T_r F
  · (simp only [go_sem, Try.ntmps20, cX_eq, cW_eq, he, hpE, tmE]) <;> exact rfl
  apply K_seq
  apply T_scope
  apply T_seq
  apply T_r F
  · (simp only [go_sem, Try.ntmps20, cX_eq, cW_eq, he, hpE, tmE]) <;> exact rfl
  apply K_seq
  apply T_seq
  apply T_seq
  apply T_wL F [0, 1, 2] rfl
  apply W_pre [0] [1, 2]
  · (simp only [go_sem, Try.ntmps20, cX_eq, cW_eq, he, hpE, tmE]) <;> exact rfl
  apply W_call -- call 0 of function 49
  · (simp only [go_sem, Try.ntmps20, cX_eq, cW_eq, he, hpE, tmE]) <;> exact rfl
  · (simp only [go_sem, Try.ntmps20, cX_eq, cW_eq, he, hpE, tmE]) <;> exact rfl
  · exact rfl
  · (simp only [go_sem, Try.ntmps20, cX_eq, cW_eq, he, hpE, tmE]) <;> exact rfl
  · (simp only [go_sem, Try.ntmps20, cX_eq, cW_eq, he, hpE, tmE]) <;> exact rfl
  · exact ⟨_, Try.func49, rfl, rfl⟩
  · (simp only [go_sem, Try.ntmps20, cX_eq, cW_eq, he, hpE, tmE]) <;> exact rfl
  · (simp only [go_sem, Try.ntmps20, cX_eq, cW_eq, he, hpE, tmE]) <;> exact rfl
  · exact mv_allowed _ _ (by omega)
  apply W_run
  · (simp only [go_sem, Try.ntmps20, cX_eq, cW_eq, he, hpE, tmE]) <;> exact rfl
  apply W_nil
  apply K_seq
  apply T_seq
  apply T_r F
  · (simp only [go_sem, Try.ntmps20, cX_eq, cW_eq, he, hpE, tmE]) <;> exact rfl
  apply K_seq
  apply T_ifF -- h0
  · (simp only [go_sem, Try.ntmps20, cX_eq, cW_eq, he, hpE, tmE]) <;> exact rfl
  apply T_skip
  apply K_seq
  apply T_seq
  apply T_wL F [0, 1, 2, 3] rfl
  apply W_pre [0] [1, 2, 3]
  · (simp only [go_sem, Try.ntmps20, cX_eq, cW_eq, he, hpE, tmE]) <;> exact rfl
  apply W_call -- call 1 of function 50
  · (simp only [go_sem, Try.ntmps20, cX_eq, cW_eq, he, hpE, tmE]) <;> exact rfl
  · (simp only [go_sem, Try.ntmps20, cX_eq, cW_eq, he, hpE, tmE]) <;> exact rfl
  · exact rfl
  · (simp only [go_sem, Try.ntmps20, cX_eq, cW_eq, he, hpE, tmE]) <;> exact rfl
  · (simp only [go_sem, Try.ntmps20, cX_eq, cW_eq, he, hpE, tmE]) <;> exact rfl
  · exact ⟨_, Try.func50, rfl, rfl⟩
  · (simp only [go_sem, Try.ntmps20, cX_eq, cW_eq, he, hpE, tmE]) <;> exact rfl
  · (simp only [go_sem, Try.ntmps20, cX_eq, cW_eq, he, hpE, tmE]) <;> exact rfl
  · exact mv_ranks _ _ (by omega) (by omega)
  apply W_run
  · (simp only [go_sem, Try.ntmps20, cX_eq, cW_eq, he, hpE, tmE]) <;> exact rfl
  apply W_nil
  apply K_seq
  apply T_seq
  apply T_label
  apply K_seq
  apply T_seq
  apply T_seq
  apply T_r F
  · (simp only [go_sem, Try.ntmps20, cX_eq, cW_eq, he, hpE, tmE]) <;> exact rfl
  apply K_seq
  apply T_block
  apply T_rangeFunc -- range 0
  · (simp only [go_sem, Try.ntmps20, cX_eq, cW_eq, he, hpE, tmE]) <;> exact rfl
  · exact ⟨_, Try.func51, rfl, rfl⟩
  · exact (mv_plans (h := hpE t p .nil .ready none) (h1 := hpE t p (.sl 1 (rI q)) .done (some .ret)) (b := false) (PlV.sl p) ok hh hsl (hpE_closed (sl_all q)) rfl ((feedE ok hp (M.plans t) (fun q hq => hq)).2 q hf) : RetS Try.prog 51 [.agg (cX t (.sl 1 (rI p))), .yield 6] (hpE t p .nil .ready none) (.tup []) (hpE t p (.sl 1 (rI q)) .done (some .ret)))
  · (simp only [go_sem, Try.ntmps20, cX_eq, cW_eq, he, hpE, tmE]) <;> exact rfl
  · simp
  apply T_ret
  apply K_blkR
  apply K_seqR
  apply K_scopeR
  apply fin_ret
  · (simp only [go_sem, Try.ntmps20, cX_eq, cW_eq, he, hpE, tmE, Try.f20]) <;> exact rfl
  -- leaf 0 (ret)
  simp only [go_sem, Try.ntmps20, cX_eq, cW_eq, he, hpE, tmE, V.bool.injEq, V.int.injEq, true_and]
  all_goals rfl

end Go.Ab
namespace Go.Ab
open Go Go.RowKit Go.Proofs
set_option linter.unusedVariables false
namespace M
/-! ### pleased, as the law reads it -/
def betterL (w : List Int) (x y : Int) : Bool := (w.takeWhile (fun z => !(z == x))).contains y
def plAt (t : Town) (p q : List Int) (i : Nat) : Bool := at' p i == at' q i || betterL (hs t i).wishes (at' p i) (at' q i)
def pleasedL (t : Town) (p q : List Int) : Bool := (List.range p.length).all (plAt t p q) && differ p q
theorem pleasedL_no {t : Town} {p q : List Int} {k : Nat} (hk : k < p.length) (h : plAt t p q k = false) : pleasedL t p q = false := by
  unfold pleasedL
  rw [Bool.and_eq_false_iff]
  left
  rw [List.all_eq_false]
  exact ⟨k, List.mem_range.2 hk, by simp [h]⟩
theorem betterL_eq {x y : Int} : ∀ {j : Nat} {w : List Int}, (∀ i, i < j → w[i]? ≠ some x) → j ≤ w.length → (w.length ≤ j ∨ w[j]? = some x) → betterL w x y = (w.take j).contains y
  | 0, w, _, _, he => by
    cases w with
    | nil => rfl
    | cons a w =>
      rcases he with he | he
      · simp at he
      · simp only [List.getElem?_cons_zero, Option.some.injEq] at he; subst he
        simp [betterL]
  | j + 1, w, h, hj, he => by
    cases w with
    | nil => simp at hj
    | cons a w =>
      have ha : a ≠ x := fun e => h 0 (by omega) (by simp [e])
      have ih := betterL_eq (x := x) (y := y) (j := j) (w := w) (fun i hi => by simpa using h (i + 1) (by omega)) (by simpa using hj) (by simpa using he)
      unfold betterL at ih ⊢
      rw [List.takeWhile_cons]
      simp only [ha, Bool.not_eq_true', beq_eq_false_iff_ne, ne_eq, not_false_eq_true, if_true, List.take_succ_cons, List.contains_cons]
      rw [ih]
theorem contains_take {w : List Int} {y : Int} {j : Nat} (h : j < w.length) : (w.take (j + 1)).contains y = ((w.take j).contains y || w[j] == y) := by
  rw [List.take_succ_eq_append_getElem h, Bool.eq_iff_iff]
  simp only [List.contains_iff_mem, List.mem_append, List.mem_singleton, Bool.or_eq_true, beq_iff_eq]
  constructor
  · rintro (h | h)
    · exact .inl h
    · exact .inr h.symm
  · rintro (h | h)
    · exact .inl h
    · exact .inr h.symm
theorem pos_some {w : List Int} {y : Int} {k : Nat} : pos w y = some k ↔ ∃ h : k < w.length, w[k] = y ∧ ∀ j (hj : j < k), w[j] ≠ y := by
  unfold pos
  rw [List.findIdx?_eq_some_iff_getElem]
  simp
theorem contains_pos {w : List Int} {y : Int} {k ky : Nat} (h : pos w y = some ky) : (w.take k).contains y = decide (ky < k) := by
  obtain ⟨h1, h2, h3⟩ := pos_some.1 h
  rw [Bool.eq_iff_iff, List.contains_iff_mem, decide_eq_true_eq, List.mem_take_iff_getElem]
  constructor
  · rintro ⟨i, hi, rfl⟩
    rcases Nat.lt_or_ge i ky with h' | h'
    · exact absurd rfl (h3 i h')
    · omega
  · intro hlt
    exact ⟨ky, by omega, h2⟩
theorem contains_none {w : List Int} {y : Int} (h : pos w y = none) (k : Nat) : (w.take k).contains y = false := by
  rw [← Bool.not_eq_true, List.contains_iff_mem]
  intro hm
  unfold pos at h
  rw [List.findIdx?_eq_none_iff] at h
  have := h y (List.mem_of_mem_take hm)
  simp at this
theorem betterL_rank {t : Town} {i : Nat} {x y : Int} (hx : 0 ≤ rank t i x) (hy : 0 ≤ rank t i y) : betterL (hs t i).wishes x y = decide (rank t i y < rank t i x) := by
  rw [Bool.eq_iff_iff, decide_eq_true_eq]
  unfold rank hs at *
  cases hh : t.houses[i]? with
  | none => simp [hh] at hx
  | some h =>
    simp only [hh, Option.getD_some] at hx hy ⊢
    have key : ∀ j, (∀ i, i < j → h.wishes[i]? ≠ some x) → j ≤ h.wishes.length → (h.wishes.length ≤ j ∨ h.wishes[j]? = some x) → betterL h.wishes x y = (h.wishes.take j).contains y := fun j => betterL_eq
    cases px : pos h.wishes x with
    | some kx =>
      obtain ⟨h1, h2, h3⟩ := pos_some.1 px
      rw [key kx (fun i hi => by rw [List.getElem?_eq_getElem (by omega)]; simpa using h3 i hi) (by omega) (.inr (by rw [List.getElem?_eq_getElem h1, h2]))]
      cases py : pos h.wishes y with
      | some ky => rw [contains_pos py]; simp
      | none =>
        rw [contains_none py]
        rw [py] at hy
        simp only at hy ⊢
        split at hy
        · rename_i hl
          simp only [hl, if_true]; simp; omega
        · omega
    | none =>
      have hn : ∀ i, i < h.wishes.length → h.wishes[i]? ≠ some x := fun i hi e => by
        unfold pos at px
        rw [List.findIdx?_eq_none_iff] at px
        have := px x (List.mem_of_getElem? e)
        simp at this
      rw [key h.wishes.length hn (Nat.le_refl _) (.inl (Nat.le_refl _))]
      rw [px] at hx
      simp only at hx ⊢
      split at hx
      · rename_i hl
        cases py : pos h.wishes y with
        | some ky =>
          obtain ⟨h1, _⟩ := pos_some.1 py
          rw [contains_pos py]; simp [hl]
        | none =>
          rw [contains_none py]
          rw [py] at hy
          simp only at hy ⊢
          split at hy
          · rename_i hl'; rw [if_pos hl, if_pos hl']; simp
          · omega
      · omega
theorem allowed_rank {t : Town} {p : List Int} (ha : allowed t p = true) {i : Nat} (hi : i < p.length) : 0 ≤ rank t i (at' p i) := by
  have := ((allowed_iff.1 ha).1 i hi).2.2.1
  unfold unwished at this
  simpa using this
theorem pleasedL_eq {t : Town} {p q : List Int} (hl : p.length = q.length) (hp : allowed t p = true) (hq : allowed t q = true) : pleasedL t p q = pleases t p q := by
  unfold pleasedL pleases
  congr 1
  rw [Bool.eq_iff_iff, List.all_eq_true, List.all_eq_true]
  have key : ∀ i, i < p.length → plAt t p q i = pleaseAt t p q i := fun i hi => by
    unfold plAt pleaseAt
    rw [betterL_rank (allowed_rank hp hi) (allowed_rank hq (by omega))]
  constructor
  · intro h x hx; rw [← key x (List.mem_range.1 hx)]; exact h x hx
  · intro h x hx; rw [key x (List.mem_range.1 hx)]; exact h x hx
/-! ### exchanges -/
theorem exch_none {t : Town} {p q : List Int} (h : exch t p = none) (hq : plan t q = true) (ha : allowed t q = true) : pleases t p q = false := by
  unfold exch at h
  rw [List.find?_eq_none] at h
  simpa using h q (mem_plans.2 ⟨hq, ha⟩)
theorem find_sorted {l : List (List Int)} {f : List Int → Bool} {q : List Int} (hs : l.Pairwise fun a b => before a b = true) (h : l.find? f = some q) : q ∈ l ∧ f q = true ∧ ∀ o ∈ l, f o = true → before o q = false := by
  refine ⟨List.mem_of_find?_eq_some h, List.find?_some h, fun o ho hf => ?_⟩
  induction l with
  | nil => simp at ho
  | cons x l ih =>
    rw [List.pairwise_cons] at hs
    rw [List.find?_cons] at h
    cases hx : f x with
    | true =>
      rw [hx] at h; simp only [Option.some.injEq] at h; subst h
      rcases List.mem_cons.1 ho with rfl | ho
      · exact before_irrefl _
      · exact before_asymm (hs.1 o ho)
    | false =>
      rw [hx] at h
      rcases List.mem_cons.1 ho with rfl | ho
      · rw [hx] at hf; cases hf
      · exact ih hs.2 h ho
theorem exch_some {t : Town} {p q : List Int} (h : exch t p = some q) : plan t q = true ∧ allowed t q = true ∧ pleases t p q = true ∧ ∀ o, plan t o = true → allowed t o = true → pleases t p o = true → before o q = false := by
  obtain ⟨h1, h2, h3⟩ := find_sorted (plans_sorted t) h
  obtain ⟨a, b⟩ := mem_plans.1 h1
  exact ⟨a, b, h2, fun o ho ha hp => h3 o (mem_plans.2 ⟨ho, ha⟩) hp⟩
end M
theorem mv_FaultK {t : Town} {p : List Int} (hh : t.houses.length ≤ 1000) (ok : M.Ok t) (hp : M.plan t p = true) : Ret Try.prog 17 [.agg (cT t), .sl 1 (rI p)] (.tup [.agg [.int .i64 (M.fault t p).1, .int .i64 (M.fault t p).2], .int .i64 0]) := by
  have := mv_Fault t p hh
  rw [if_pos ⟨ok, hp⟩] at this
  exact this
end Go.Ab
namespace Go.Ab
open Go Go.RowKit Go.Proofs
set_option linter.unusedVariables false
namespace M
/-! ### the best plan and the fairest one -/
def fB (t : Town) (p : List Int) : Int × Int := (sum (ranks t p), 0)
def fF (t : Town) (p : List Int) : Int × Int := (most (ranks t p), sum (ranks t p))
theorem fine_ranks {t : Town} {p : List Int} (ok : Ok t) (hp : plan t p = true) (ha : allowed t p = true) : fine t (ranks t p) = true := by
  unfold fine
  rw [Bool.and_eq_true, List.all_eq_true, beq_iff_eq, ranks_length]
  refine ⟨fun x hx => ?_, (plan_iff.1 hp).1⟩
  have h1 := ranks_nonneg ha x hx
  have h2 := ranks_mem ok hx
  simp; omega
theorem plans_nil {t : Town} (h : plans t = []) {q : List Int} (hq : plan t q = true) : allowed t q = false := by
  rw [← Bool.not_eq_true]
  intro ha
  have := mem_plans.2 ⟨hq, ha⟩
  rw [h] at this; cases this
theorem best_of {t : Town} (h : plans t ≠ []) : ∃ a, least (fun p => (sum (ranks t p), 0)) (plans t) = some (a, (sum (ranks t a), 0)) ∧ plan t a = true ∧ allowed t a = true ∧
    ∀ q, plan t q = true → allowed t q = true → ¬ sum (ranks t q) < sum (ranks t a) ∧ (sum (ranks t q) = sum (ranks t a) → before q a = false) := by
  obtain ⟨a, h1, h2, h3⟩ := least_some (f := fun p => (sum (ranks t p), 0)) (plans_sorted t) h
  obtain ⟨h4, h5⟩ := mem_plans.1 h2
  refine ⟨a, h1, h4, h5, fun q hq ha => ?_⟩
  obtain ⟨h6, h7⟩ := h3 q (mem_plans.2 ⟨hq, ha⟩)
  refine ⟨by simp [lt2] at h6; omega, fun e => ?_⟩
  rcases h7 (by simp [e]) with h | h
  · rw [h]; exact before_irrefl _
  · exact before_asymm h
theorem fair_of {t : Town} (h : plans t ≠ []) : ∃ b, least (fun p => (most (ranks t p), sum (ranks t p))) (plans t) = some (b, (most (ranks t b), sum (ranks t b))) ∧ plan t b = true ∧ allowed t b = true ∧
    ∀ q, plan t q = true → allowed t q = true → most (ranks t b) ≤ most (ranks t q) ∧ (most (ranks t q) = most (ranks t b) → sum (ranks t b) ≤ sum (ranks t q) ∧ (sum (ranks t q) = sum (ranks t b) → before q b = false)) := by
  obtain ⟨b, h1, h2, h3⟩ := least_some (f := fun p => (most (ranks t p), sum (ranks t p))) (plans_sorted t) h
  obtain ⟨h4, h5⟩ := mem_plans.1 h2
  refine ⟨b, h1, h4, h5, fun q hq ha => ?_⟩
  obtain ⟨h6, h7⟩ := h3 q (mem_plans.2 ⟨hq, ha⟩)
  simp [lt2] at h6
  refine ⟨by omega, fun e => ⟨by omega, fun e2 => ?_⟩⟩
  rcases h7 (by simp [e, e2]) with h | h
  · rw [h]; exact before_irrefl _
  · exact before_asymm h
end M
end Go.Ab
namespace Go.Ab
open Go Go.RowKit Go.Proofs
set_option linter.unusedVariables false
namespace M
/-! ### exchanges make the sum of ranks less -/
theorem sum_le_lt : ∀ {a b : List Int}, a.length = b.length → (∀ i (h1 : i < a.length) (h2 : i < b.length), a[i] ≤ b[i]) → sum a ≤ sum b ∧ ((∃ i, ∃ (h1 : i < a.length) (h2 : i < b.length), a[i] < b[i]) → sum a < sum b)
  | [], [], _, _ => ⟨by simp [sum_nil], fun ⟨i, h1, _⟩ => by simp at h1⟩
  | [], _ :: _, h, _ => by simp at h
  | _ :: _, [], h, _ => by simp at h
  | x :: a, y :: b, hl, h => by
    obtain ⟨h1, h2⟩ := sum_le_lt (a := a) (b := b) (by simpa using hl) (fun i g1 g2 => h (i + 1) (by simpa using g1) (by simpa using g2))
    have h0 : x ≤ y := h 0 (by simp) (by simp)
    rw [sum_cons, sum_cons]
    refine ⟨by omega, ?_⟩
    rintro ⟨i, g1, g2, g3⟩
    cases i with
    | zero => simp only [List.getElem_cons_zero] at g3; omega
    | succ i =>
      have := h2 ⟨i, by simpa using g1, by simpa using g2, by simpa using g3⟩
      omega
theorem most_mono : ∀ {a b : List Int}, a.length = b.length → (∀ i (h1 : i < a.length) (h2 : i < b.length), a[i] ≤ b[i]) → most a ≤ most b := by
  have key : ∀ (a b : List Int) (n m : Int), n ≤ m → a.length = b.length → (∀ i (h1 : i < a.length) (h2 : i < b.length), a[i] ≤ b[i]) → a.foldl max n ≤ b.foldl max m := by
    intro a
    induction a with
    | nil => intro b n m h hl _; cases b with
      | nil => exact h
      | cons => simp at hl
    | cons x a ih =>
      intro b n m h hl hx
      cases b with
      | nil => simp at hl
      | cons y b =>
        have h0 : x ≤ y := hx 0 (by simp) (by simp)
        exact ih b _ _ (by omega) (by simpa using hl) (fun i g1 g2 => hx (i + 1) (by simpa using g1) (by simpa using g2))
  intro a b
  exact key a b 0 0 (by omega)
theorem pleases_ranks {t : Town} {p q : List Int} (hl : p.length = q.length) (h : pleases t p q = true) : (∀ i (h1 : i < (ranks t q).length) (h2 : i < (ranks t p).length), (ranks t q)[i] ≤ (ranks t p)[i]) ∧ sum (ranks t q) < sum (ranks t p) := by
  obtain ⟨h1, h2⟩ := (pleases_iff hl).1 h
  have hr : ∀ i (h1 : i < (ranks t q).length) (h2 : i < (ranks t p).length), (ranks t q)[i] ≤ (ranks t p)[i] := fun i g1 g2 => by
    rw [ranks_length] at g1 g2
    have := h2 i g2 g1
    rw [rank_len g1, rank_len g2]
    rcases this with e | e
    · rw [e]; omega
    · omega
  refine ⟨hr, (sum_le_lt (by rw [ranks_length, ranks_length]; exact hl.symm) hr).2 ?_⟩
  have hne : ∃ i, ∃ (g1 : i < p.length) (g2 : i < q.length), p[i] ≠ q[i] := by
    rcases Classical.em (∃ i, ∃ (g1 : i < p.length) (g2 : i < q.length), p[i] ≠ q[i]) with h | h
    · exact h
    · exfalso
      refine h1 (List.ext_getElem hl fun i g1 g2 => ?_)
      rcases Classical.em (p[i] = q[i]) with e | e
      · exact e
      · exact absurd ⟨i, g1, g2, e⟩ h
  obtain ⟨i, g1, g2, hn⟩ := hne
  refine ⟨i, by rw [ranks_length]; exact g2, by rw [ranks_length]; exact g1, ?_⟩
  rw [rank_len g2, rank_len g1]
  rcases h2 i g1 g2 with e | e
  · exact absurd e hn
  · exact e
theorem sum_nonneg {l : List Int} (h : ∀ x ∈ l, 0 ≤ x) : 0 ≤ sum l := by
  induction l with
  | nil => simp [sum_nil]
  | cons x l ih =>
    rw [sum_cons]
    have := ih (fun y hy => h y (by simp [hy]))
    have := h x (by simp)
    omega
theorem exch_best {t : Town} {a : List Int} (ha : plan t a = true) (hb : ∀ q, plan t q = true → allowed t q = true → ¬ sum (ranks t q) < sum (ranks t a) ∧ (sum (ranks t q) = sum (ranks t a) → before q a = false)) : exch t a = none := by
  cases hx : exch t a with
  | none => rfl
  | some q =>
    obtain ⟨h1, h2, h3, _⟩ := exch_some hx
    have hl : a.length = q.length := by rw [(plan_iff.1 ha).1, (plan_iff.1 h1).1]
    exact absurd (pleases_ranks hl h3).2 (hb q h1 h2).1
theorem exch_fair {t : Town} {b : List Int} (hp : plan t b = true) (hb : ∀ q, plan t q = true → allowed t q = true → most (ranks t b) ≤ most (ranks t q) ∧ (most (ranks t q) = most (ranks t b) → sum (ranks t b) ≤ sum (ranks t q) ∧ (sum (ranks t q) = sum (ranks t b) → before q b = false))) : exch t b = none := by
  cases hx : exch t b with
  | none => rfl
  | some q =>
    obtain ⟨h1, h2, h3, _⟩ := exch_some hx
    have hl : b.length = q.length := by rw [(plan_iff.1 hp).1, (plan_iff.1 h1).1]
    obtain ⟨h4, h5⟩ := pleases_ranks hl h3
    obtain ⟨h6, h7⟩ := hb q h1 h2
    have h8 := most_mono (by rw [ranks_length, ranks_length]; exact hl.symm) h4
    have := (h7 (by omega)).1
    omega
/-- Where one can come to, one exchange after the other. -/
def Down (t : Town) (p q : List Int) (n : Nat) : Prop := plan t q = true ∧ allowed t q = true ∧ (∀ i (h1 : i < (ranks t q).length) (h2 : i < (ranks t p).length), (ranks t q)[i] ≤ (ranks t p)[i]) ∧ sum (ranks t q) + n ≤ sum (ranks t p)
theorem Down.le {t : Town} {p q : List Int} {n : Nat} (h : Down t p q n) : (n : Int) ≤ sum (ranks t p) := by
  have := sum_nonneg (ranks_nonneg h.2.1)
  have := h.2.2.2
  omega
theorem Down.next {t : Town} {p q r : List Int} {n : Nat} (h : Down t p q n) (hp : plan t p = true) (hx : exch t q = some r) : Down t p r (n + 1) := by
  obtain ⟨a, b, c, d⟩ := h
  obtain ⟨h1, h2, h3, _⟩ := exch_some hx
  have hl : q.length = r.length := by rw [(plan_iff.1 a).1, (plan_iff.1 h1).1]
  obtain ⟨h4, h5⟩ := pleases_ranks hl h3
  refine ⟨h1, h2, fun i g1 g2 => ?_, by omega⟩
  have g3 : i < (ranks t q).length := by rw [ranks_length] at g1 ⊢; omega
  exact Int.le_trans (h4 i g1 g3) (c i g3 g2)
theorem down_err {t : Town} {p q : List Int} {n : Nat} (h : Down t p q n) (ok : Ok t) : err t q = 0 ∧ rk t q = ranks t q := by
  have e : err t q = 0 := by simp [err, ok, h.1, h.2.1]
  exact ⟨e, by simp [rk, e]⟩
end M
end Go.Ab
namespace Go.Ab
open Go Go.RowKit Go.Proofs Fac
set_option linter.unusedVariables false
set_option linter.unusedSimpArgs false
set_option maxRecDepth 4000
set_option maxHeartbeats 1000000





theorem law_endsA (t : Town) (p : List Int) (hs : ¬ M.Short t) : Ret Try.prog 9 [.agg (cT t), .sl 1 (rI p)] (.bool true) := by
  apply Ret_fin (fn := Try.f9) Try.func9 rfl
  apply T_seq
  apply T_r F
  · (simp only [go_sem, Try.ntmps9, hs]) <;> exact rfl
  apply K_seq
  apply T_seq
  apply T_seq
  apply T_wL F [0, 1, 2, 3, 4, 5, 6, 7, 8, 9, 10, 11, 12, 13, 14, 15, 16, 17, 18, 19, 20, 21, 22, 23, 24, 25] rfl
  apply W_pre [0] [1, 2, 3, 4, 5, 6, 7, 8, 9, 10, 11, 12, 13, 14, 15, 16, 17, 18, 19, 20, 21, 22, 23, 24, 25]
  · (simp only [go_sem, Try.ntmps9, hs]) <;> exact rfl
  apply W_call -- call 0 of function 12
  · (simp only [go_sem, Try.ntmps9, hs]) <;> exact rfl
  · (simp only [go_sem, Try.ntmps9, hs]) <;> exact rfl
  · exact rfl
  · (simp only [go_sem, Try.ntmps9, hs]) <;> exact rfl
  · (simp only [go_sem, Try.ntmps9, hs]) <;> exact rfl
  · exact ⟨_, Try.func12, rfl, rfl⟩
  · (simp only [go_sem, Try.ntmps9, hs]) <;> exact rfl
  · (simp only [go_sem, Try.ntmps9, hs]) <;> exact rfl
  · exact law_short _
  apply W_pre [2, 3, 4, 5] [6, 7, 8, 9, 10, 11, 12, 13, 14, 15, 16, 17, 18, 19, 20, 21, 22, 23, 24, 25]
  · (simp only [go_sem, Try.ntmps9, hs]) <;> exact rfl
  apply W_pre [6, 7, 8, 9] [10, 11, 12, 13, 14, 15, 16, 17, 18, 19, 20, 21, 22, 23, 24, 25]
  · (simp only [go_sem, Try.ntmps9, hs]) <;> exact rfl
  apply W_pre [10, 11, 12, 13] [14, 15, 16, 17, 18, 19, 20, 21, 22, 23, 24, 25]
  · (simp only [go_sem, Try.ntmps9, hs]) <;> exact rfl
  apply W_pre [14, 15, 16, 17] [18, 19, 20, 21, 22, 23, 24, 25]
  · (simp only [go_sem, Try.ntmps9, hs]) <;> exact rfl
  apply W_pre [18, 19, 20, 21] [22, 23, 24, 25]
  · (simp only [go_sem, Try.ntmps9, hs]) <;> exact rfl
  apply W_run
  · (simp only [go_sem, Try.ntmps9, hs]) <;> exact rfl
  apply W_nil
  apply K_seq
  apply T_ifT -- h0
  · (simp only [go_sem, Try.ntmps9, hs]) <;> exact rfl
  apply T_seq
  apply T_wL F [0, 1] rfl
  apply W_call -- call 1 of function 16
  · (simp only [go_sem, Try.ntmps9, hs]) <;> exact rfl
  · (simp only [go_sem, Try.ntmps9, hs]) <;> exact rfl
  · exact rfl
  · (simp only [go_sem, Try.ntmps9, hs]) <;> exact rfl
  · (simp only [go_sem, Try.ntmps9, hs]) <;> exact rfl
  · exact ⟨_, Try.func16, rfl, rfl⟩
  · (simp only [go_sem, Try.ntmps9, hs]) <;> exact rfl
  · (simp only [go_sem, Try.ntmps9, hs]) <;> exact rfl
  · exact known_ok
  apply W_run
  · (simp only [go_sem, Try.ntmps9, hs]) <;> exact rfl
  apply W_nil
  apply K_seq
  apply T_ret
  apply K_seqR
  apply fin_ret
  · (simp only [go_sem, Try.ntmps9, hs, Try.f9]) <;> exact rfl
  -- leaf 0 (ret)
  
  all_goals rfl

theorem law_endsB (t : Town) (p : List Int) (hs : M.Short t) (ok : ¬ M.Ok t) : Ret Try.prog 9 [.agg (cT t), .sl 1 (rI p)] (.bool true) := by
  apply Ret_fin (fn := Try.f9) Try.func9 rfl
  apply T_seq
  apply T_r F
  · (simp only [go_sem, Try.ntmps9, hs, ok]) <;> exact rfl
  apply K_seq
  apply T_seq
  apply T_seq
  apply T_wL F [0, 1, 2, 3, 4, 5, 6, 7, 8, 9, 10, 11, 12, 13, 14, 15, 16, 17, 18, 19, 20, 21, 22, 23, 24, 25] rfl
  apply W_pre [0] [1, 2, 3, 4, 5, 6, 7, 8, 9, 10, 11, 12, 13, 14, 15, 16, 17, 18, 19, 20, 21, 22, 23, 24, 25]
  · (simp only [go_sem, Try.ntmps9, hs, ok]) <;> exact rfl
  apply W_call -- call 0 of function 12
  · (simp only [go_sem, Try.ntmps9, hs, ok]) <;> exact rfl
  · (simp only [go_sem, Try.ntmps9, hs, ok]) <;> exact rfl
  · exact rfl
  · (simp only [go_sem, Try.ntmps9, hs, ok]) <;> exact rfl
  · (simp only [go_sem, Try.ntmps9, hs, ok]) <;> exact rfl
  · exact ⟨_, Try.func12, rfl, rfl⟩
  · (simp only [go_sem, Try.ntmps9, hs, ok]) <;> exact rfl
  · (simp only [go_sem, Try.ntmps9, hs, ok]) <;> exact rfl
  · exact law_short _
  apply W_pre [2, 3, 4] [5, 6, 7, 8, 9, 10, 11, 12, 13, 14, 15, 16, 17, 18, 19, 20, 21, 22, 23, 24, 25]
  · (simp only [go_sem, Try.ntmps9, hs, ok]) <;> exact rfl
  apply W_call -- call 1 of function 13
  · (simp only [go_sem, Try.ntmps9, hs, ok]) <;> exact rfl
  · (simp only [go_sem, Try.ntmps9, hs, ok]) <;> exact rfl
  · exact rfl
  · (simp only [go_sem, Try.ntmps9, hs, ok]) <;> exact rfl
  · (simp only [go_sem, Try.ntmps9, hs, ok]) <;> exact rfl
  · exact ⟨_, Try.func13, rfl, rfl⟩
  · (simp only [go_sem, Try.ntmps9, hs, ok]) <;> exact rfl
  · (simp only [go_sem, Try.ntmps9, hs, ok]) <;> exact rfl
  · exact ref_town _
  apply W_pre [6, 7, 8, 9] [10, 11, 12, 13, 14, 15, 16, 17, 18, 19, 20, 21, 22, 23, 24, 25]
  · (simp only [go_sem, Try.ntmps9, hs, ok]) <;> exact rfl
  apply W_pre [10, 11, 12, 13] [14, 15, 16, 17, 18, 19, 20, 21, 22, 23, 24, 25]
  · (simp only [go_sem, Try.ntmps9, hs, ok]) <;> exact rfl
  apply W_pre [14, 15, 16, 17] [18, 19, 20, 21, 22, 23, 24, 25]
  · (simp only [go_sem, Try.ntmps9, hs, ok]) <;> exact rfl
  apply W_pre [18, 19, 20, 21] [22, 23, 24, 25]
  · (simp only [go_sem, Try.ntmps9, hs, ok]) <;> exact rfl
  apply W_run
  · (simp only [go_sem, Try.ntmps9, hs, ok]) <;> exact rfl
  apply W_nil
  apply K_seq
  apply T_ifT -- h0
  · (simp only [go_sem, Try.ntmps9, hs, ok]) <;> exact rfl
  apply T_seq
  apply T_wL F [0, 1] rfl
  apply W_call -- call 2 of function 16
  · (simp only [go_sem, Try.ntmps9, hs, ok]) <;> exact rfl
  · (simp only [go_sem, Try.ntmps9, hs, ok]) <;> exact rfl
  · exact rfl
  · (simp only [go_sem, Try.ntmps9, hs, ok]) <;> exact rfl
  · (simp only [go_sem, Try.ntmps9, hs, ok]) <;> exact rfl
  · exact ⟨_, Try.func16, rfl, rfl⟩
  · (simp only [go_sem, Try.ntmps9, hs, ok]) <;> exact rfl
  · (simp only [go_sem, Try.ntmps9, hs, ok]) <;> exact rfl
  · exact known_ok
  apply W_run
  · (simp only [go_sem, Try.ntmps9, hs, ok]) <;> exact rfl
  apply W_nil
  apply K_seq
  apply T_ret
  apply K_seqR
  apply fin_ret
  · (simp only [go_sem, Try.ntmps9, hs, ok, Try.f9]) <;> exact rfl
  -- leaf 0 (ret)
  
  all_goals rfl

theorem law_endsC (t : Town) (p : List Int) (hs : M.Short t) (ok : M.Ok t) (hp : M.plan t p = false) : Ret Try.prog 9 [.agg (cT t), .sl 1 (rI p)] (.bool true) := by
  apply Ret_fin (fn := Try.f9) Try.func9 rfl
  apply T_seq
  apply T_r F
  · (simp only [go_sem, Try.ntmps9, hs, ok, hp]) <;> exact rfl
  apply K_seq
  apply T_seq
  apply T_seq
  apply T_wL F [0, 1, 2, 3, 4, 5, 6, 7, 8, 9, 10, 11, 12, 13, 14, 15, 16, 17, 18, 19, 20, 21, 22, 23, 24, 25] rfl
  apply W_pre [0] [1, 2, 3, 4, 5, 6, 7, 8, 9, 10, 11, 12, 13, 14, 15, 16, 17, 18, 19, 20, 21, 22, 23, 24, 25]
  · (simp only [go_sem, Try.ntmps9, hs, ok, hp]) <;> exact rfl
  apply W_call -- call 0 of function 12
  · (simp only [go_sem, Try.ntmps9, hs, ok, hp]) <;> exact rfl
  · (simp only [go_sem, Try.ntmps9, hs, ok, hp]) <;> exact rfl
  · exact rfl
  · (simp only [go_sem, Try.ntmps9, hs, ok, hp]) <;> exact rfl
  · (simp only [go_sem, Try.ntmps9, hs, ok, hp]) <;> exact rfl
  · exact ⟨_, Try.func12, rfl, rfl⟩
  · (simp only [go_sem, Try.ntmps9, hs, ok, hp]) <;> exact rfl
  · (simp only [go_sem, Try.ntmps9, hs, ok, hp]) <;> exact rfl
  · exact law_short _
  apply W_pre [2, 3, 4] [5, 6, 7, 8, 9, 10, 11, 12, 13, 14, 15, 16, 17, 18, 19, 20, 21, 22, 23, 24, 25]
  · (simp only [go_sem, Try.ntmps9, hs, ok, hp]) <;> exact rfl
  apply W_call -- call 1 of function 13
  · (simp only [go_sem, Try.ntmps9, hs, ok, hp]) <;> exact rfl
  · (simp only [go_sem, Try.ntmps9, hs, ok, hp]) <;> exact rfl
  · exact rfl
  · (simp only [go_sem, Try.ntmps9, hs, ok, hp]) <;> exact rfl
  · (simp only [go_sem, Try.ntmps9, hs, ok, hp]) <;> exact rfl
  · exact ⟨_, Try.func13, rfl, rfl⟩
  · (simp only [go_sem, Try.ntmps9, hs, ok, hp]) <;> exact rfl
  · (simp only [go_sem, Try.ntmps9, hs, ok, hp]) <;> exact rfl
  · exact ref_town _
  apply W_pre [6, 7, 8, 9, 10] [11, 12, 13, 14, 15, 16, 17, 18, 19, 20, 21, 22, 23, 24, 25]
  · (simp only [go_sem, Try.ntmps9, hs, ok, hp]) <;> exact rfl
  apply W_call -- call 2 of function 14
  · (simp only [go_sem, Try.ntmps9, hs, ok, hp]) <;> exact rfl
  · (simp only [go_sem, Try.ntmps9, hs, ok, hp]) <;> exact rfl
  · exact rfl
  · (simp only [go_sem, Try.ntmps9, hs, ok, hp]) <;> exact rfl
  · (simp only [go_sem, Try.ntmps9, hs, ok, hp]) <;> exact rfl
  · exact ⟨_, Try.func14, rfl, rfl⟩
  · (simp only [go_sem, Try.ntmps9, hs, ok, hp]) <;> exact rfl
  · (simp only [go_sem, Try.ntmps9, hs, ok, hp]) <;> exact rfl
  · exact ref_plan _ _
  apply W_pre [12, 13, 14, 15] [16, 17, 18, 19, 20, 21, 22, 23, 24, 25]
  · (simp only [go_sem, Try.ntmps9, hs, ok, hp]) <;> exact rfl
  apply W_pre [16, 17, 18, 19] [20, 21, 22, 23, 24, 25]
  · (simp only [go_sem, Try.ntmps9, hs, ok, hp]) <;> exact rfl
  apply W_run
  · (simp only [go_sem, Try.ntmps9, hs, ok, hp]) <;> exact rfl
  apply W_nil
  apply K_seq
  apply T_ifT -- h0
  · (simp only [go_sem, Try.ntmps9, hs, ok, hp]) <;> exact rfl
  apply T_seq
  apply T_wL F [0, 1] rfl
  apply W_call -- call 3 of function 16
  · (simp only [go_sem, Try.ntmps9, hs, ok, hp]) <;> exact rfl
  · (simp only [go_sem, Try.ntmps9, hs, ok, hp]) <;> exact rfl
  · exact rfl
  · (simp only [go_sem, Try.ntmps9, hs, ok, hp]) <;> exact rfl
  · (simp only [go_sem, Try.ntmps9, hs, ok, hp]) <;> exact rfl
  · exact ⟨_, Try.func16, rfl, rfl⟩
  · (simp only [go_sem, Try.ntmps9, hs, ok, hp]) <;> exact rfl
  · (simp only [go_sem, Try.ntmps9, hs, ok, hp]) <;> exact rfl
  · exact known_ok
  apply W_run
  · (simp only [go_sem, Try.ntmps9, hs, ok, hp]) <;> exact rfl
  apply W_nil
  apply K_seq
  apply T_ret
  apply K_seqR
  apply fin_ret
  · (simp only [go_sem, Try.ntmps9, hs, ok, hp, Try.f9]) <;> exact rfl
  -- leaf 0 (ret)
  
  all_goals rfl

theorem law_endsD (t : Town) (p : List Int) (hs : M.Short t) (ok : M.Ok t) (hp : M.plan t p = true) (h5 : (5 : Int) < (t.houses.length : Int)) : Ret Try.prog 9 [.agg (cT t), .sl 1 (rI p)] (.bool true) := by
  apply Ret_fin (fn := Try.f9) Try.func9 rfl
  apply T_seq
  apply T_r F
  · (simp only [go_sem, Try.ntmps9, hs, ok, hp, h5]) <;> exact rfl
  apply K_seq
  apply T_seq
  apply T_seq
  apply T_wL F [0, 1, 2, 3, 4, 5, 6, 7, 8, 9, 10, 11, 12, 13, 14, 15, 16, 17, 18, 19, 20, 21, 22, 23, 24, 25] rfl
  apply W_pre [0] [1, 2, 3, 4, 5, 6, 7, 8, 9, 10, 11, 12, 13, 14, 15, 16, 17, 18, 19, 20, 21, 22, 23, 24, 25]
  · (simp only [go_sem, Try.ntmps9, hs, ok, hp, h5]) <;> exact rfl
  apply W_call -- call 0 of function 12
  · (simp only [go_sem, Try.ntmps9, hs, ok, hp, h5]) <;> exact rfl
  · (simp only [go_sem, Try.ntmps9, hs, ok, hp, h5]) <;> exact rfl
  · exact rfl
  · (simp only [go_sem, Try.ntmps9, hs, ok, hp, h5]) <;> exact rfl
  · (simp only [go_sem, Try.ntmps9, hs, ok, hp, h5]) <;> exact rfl
  · exact ⟨_, Try.func12, rfl, rfl⟩
  · (simp only [go_sem, Try.ntmps9, hs, ok, hp, h5]) <;> exact rfl
  · (simp only [go_sem, Try.ntmps9, hs, ok, hp, h5]) <;> exact rfl
  · exact law_short _
  apply W_pre [2, 3, 4] [5, 6, 7, 8, 9, 10, 11, 12, 13, 14, 15, 16, 17, 18, 19, 20, 21, 22, 23, 24, 25]
  · (simp only [go_sem, Try.ntmps9, hs, ok, hp, h5]) <;> exact rfl
  apply W_call -- call 1 of function 13
  · (simp only [go_sem, Try.ntmps9, hs, ok, hp, h5]) <;> exact rfl
  · (simp only [go_sem, Try.ntmps9, hs, ok, hp, h5]) <;> exact rfl
  · exact rfl
  · (simp only [go_sem, Try.ntmps9, hs, ok, hp, h5]) <;> exact rfl
  · (simp only [go_sem, Try.ntmps9, hs, ok, hp, h5]) <;> exact rfl
  · exact ⟨_, Try.func13, rfl, rfl⟩
  · (simp only [go_sem, Try.ntmps9, hs, ok, hp, h5]) <;> exact rfl
  · (simp only [go_sem, Try.ntmps9, hs, ok, hp, h5]) <;> exact rfl
  · exact ref_town _
  apply W_pre [6, 7, 8, 9, 10] [11, 12, 13, 14, 15, 16, 17, 18, 19, 20, 21, 22, 23, 24, 25]
  · (simp only [go_sem, Try.ntmps9, hs, ok, hp, h5]) <;> exact rfl
  apply W_call -- call 2 of function 14
  · (simp only [go_sem, Try.ntmps9, hs, ok, hp, h5]) <;> exact rfl
  · (simp only [go_sem, Try.ntmps9, hs, ok, hp, h5]) <;> exact rfl
  · exact rfl
  · (simp only [go_sem, Try.ntmps9, hs, ok, hp, h5]) <;> exact rfl
  · (simp only [go_sem, Try.ntmps9, hs, ok, hp, h5]) <;> exact rfl
  · exact ⟨_, Try.func14, rfl, rfl⟩
  · (simp only [go_sem, Try.ntmps9, hs, ok, hp, h5]) <;> exact rfl
  · (simp only [go_sem, Try.ntmps9, hs, ok, hp, h5]) <;> exact rfl
  · exact ref_plan _ _
  apply W_pre [12, 13, 14, 15] [16, 17, 18, 19, 20, 21, 22, 23, 24, 25]
  · (simp only [go_sem, Try.ntmps9, hs, ok, hp, h5]) <;> exact rfl
  apply W_pre [16, 17, 18, 19] [20, 21, 22, 23, 24, 25]
  · (simp only [go_sem, Try.ntmps9, hs, ok, hp, h5]) <;> exact rfl
  apply W_run
  · (simp only [go_sem, Try.ntmps9, hs, ok, hp, h5]) <;> exact rfl
  apply W_nil
  apply K_seq
  apply T_ifT -- h0
  · (simp only [go_sem, Try.ntmps9, hs, ok, hp, h5]) <;> exact rfl
  apply T_seq
  apply T_wL F [0, 1] rfl
  apply W_call -- call 3 of function 16
  · (simp only [go_sem, Try.ntmps9, hs, ok, hp, h5]) <;> exact rfl
  · (simp only [go_sem, Try.ntmps9, hs, ok, hp, h5]) <;> exact rfl
  · exact rfl
  · (simp only [go_sem, Try.ntmps9, hs, ok, hp, h5]) <;> exact rfl
  · (simp only [go_sem, Try.ntmps9, hs, ok, hp, h5]) <;> exact rfl
  · exact ⟨_, Try.func16, rfl, rfl⟩
  · (simp only [go_sem, Try.ntmps9, hs, ok, hp, h5]) <;> exact rfl
  · (simp only [go_sem, Try.ntmps9, hs, ok, hp, h5]) <;> exact rfl
  · exact known_ok
  apply W_run
  · (simp only [go_sem, Try.ntmps9, hs, ok, hp, h5]) <;> exact rfl
  apply W_nil
  apply K_seq
  apply T_ret
  apply K_seqR
  apply fin_ret
  · (simp only [go_sem, Try.ntmps9, hs, ok, hp, h5, Try.f9]) <;> exact rfl
  -- leaf 0 (ret)
  
  all_goals rfl

theorem law_endsE (t : Town) (p : List Int) (hs : M.Short t) (ok : M.Ok t) (hp : M.plan t p = true) (h5 : ¬ (5 : Int) < (t.houses.length : Int)) (h6 : (6 : Int) < (t.walk.length : Int)) : Ret Try.prog 9 [.agg (cT t), .sl 1 (rI p)] (.bool true) := by
  apply Ret_fin (fn := Try.f9) Try.func9 rfl
  apply T_seq
  apply T_r F
  · (simp only [go_sem, Try.ntmps9, hs, ok, hp, h5, h6]) <;> exact rfl
  apply K_seq
  apply T_seq
  apply T_seq
  apply T_wL F [0, 1, 2, 3, 4, 5, 6, 7, 8, 9, 10, 11, 12, 13, 14, 15, 16, 17, 18, 19, 20, 21, 22, 23, 24, 25] rfl
  apply W_pre [0] [1, 2, 3, 4, 5, 6, 7, 8, 9, 10, 11, 12, 13, 14, 15, 16, 17, 18, 19, 20, 21, 22, 23, 24, 25]
  · (simp only [go_sem, Try.ntmps9, hs, ok, hp, h5, h6]) <;> exact rfl
  apply W_call -- call 0 of function 12
  · (simp only [go_sem, Try.ntmps9, hs, ok, hp, h5, h6]) <;> exact rfl
  · (simp only [go_sem, Try.ntmps9, hs, ok, hp, h5, h6]) <;> exact rfl
  · exact rfl
  · (simp only [go_sem, Try.ntmps9, hs, ok, hp, h5, h6]) <;> exact rfl
  · (simp only [go_sem, Try.ntmps9, hs, ok, hp, h5, h6]) <;> exact rfl
  · exact ⟨_, Try.func12, rfl, rfl⟩
  · (simp only [go_sem, Try.ntmps9, hs, ok, hp, h5, h6]) <;> exact rfl
  · (simp only [go_sem, Try.ntmps9, hs, ok, hp, h5, h6]) <;> exact rfl
  · exact law_short _
  apply W_pre [2, 3, 4] [5, 6, 7, 8, 9, 10, 11, 12, 13, 14, 15, 16, 17, 18, 19, 20, 21, 22, 23, 24, 25]
  · (simp only [go_sem, Try.ntmps9, hs, ok, hp, h5, h6]) <;> exact rfl
  apply W_call -- call 1 of function 13
  · (simp only [go_sem, Try.ntmps9, hs, ok, hp, h5, h6]) <;> exact rfl
  · (simp only [go_sem, Try.ntmps9, hs, ok, hp, h5, h6]) <;> exact rfl
  · exact rfl
  · (simp only [go_sem, Try.ntmps9, hs, ok, hp, h5, h6]) <;> exact rfl
  · (simp only [go_sem, Try.ntmps9, hs, ok, hp, h5, h6]) <;> exact rfl
  · exact ⟨_, Try.func13, rfl, rfl⟩
  · (simp only [go_sem, Try.ntmps9, hs, ok, hp, h5, h6]) <;> exact rfl
  · (simp only [go_sem, Try.ntmps9, hs, ok, hp, h5, h6]) <;> exact rfl
  · exact ref_town _
  apply W_pre [6, 7, 8, 9, 10] [11, 12, 13, 14, 15, 16, 17, 18, 19, 20, 21, 22, 23, 24, 25]
  · (simp only [go_sem, Try.ntmps9, hs, ok, hp, h5, h6]) <;> exact rfl
  apply W_call -- call 2 of function 14
  · (simp only [go_sem, Try.ntmps9, hs, ok, hp, h5, h6]) <;> exact rfl
  · (simp only [go_sem, Try.ntmps9, hs, ok, hp, h5, h6]) <;> exact rfl
  · exact rfl
  · (simp only [go_sem, Try.ntmps9, hs, ok, hp, h5, h6]) <;> exact rfl
  · (simp only [go_sem, Try.ntmps9, hs, ok, hp, h5, h6]) <;> exact rfl
  · exact ⟨_, Try.func14, rfl, rfl⟩
  · (simp only [go_sem, Try.ntmps9, hs, ok, hp, h5, h6]) <;> exact rfl
  · (simp only [go_sem, Try.ntmps9, hs, ok, hp, h5, h6]) <;> exact rfl
  · exact ref_plan _ _
  apply W_pre [12, 13, 14, 15] [16, 17, 18, 19, 20, 21, 22, 23, 24, 25]
  · (simp only [go_sem, Try.ntmps9, hs, ok, hp, h5, h6]) <;> exact rfl
  apply W_pre [16, 17, 18, 19] [20, 21, 22, 23, 24, 25]
  · (simp only [go_sem, Try.ntmps9, hs, ok, hp, h5, h6]) <;> exact rfl
  apply W_run
  · (simp only [go_sem, Try.ntmps9, hs, ok, hp, h5, h6]) <;> exact rfl
  apply W_nil
  apply K_seq
  apply T_ifT -- h0
  · (simp only [go_sem, Try.ntmps9, hs, ok, hp, h5, h6]) <;> exact rfl
  apply T_seq
  apply T_wL F [0, 1] rfl
  apply W_call -- call 3 of function 16
  · (simp only [go_sem, Try.ntmps9, hs, ok, hp, h5, h6]) <;> exact rfl
  · (simp only [go_sem, Try.ntmps9, hs, ok, hp, h5, h6]) <;> exact rfl
  · exact rfl
  · (simp only [go_sem, Try.ntmps9, hs, ok, hp, h5, h6]) <;> exact rfl
  · (simp only [go_sem, Try.ntmps9, hs, ok, hp, h5, h6]) <;> exact rfl
  · exact ⟨_, Try.func16, rfl, rfl⟩
  · (simp only [go_sem, Try.ntmps9, hs, ok, hp, h5, h6]) <;> exact rfl
  · (simp only [go_sem, Try.ntmps9, hs, ok, hp, h5, h6]) <;> exact rfl
  · exact known_ok
  apply W_run
  · (simp only [go_sem, Try.ntmps9, hs, ok, hp, h5, h6]) <;> exact rfl
  apply W_nil
  apply K_seq
  apply T_ret
  apply K_seqR
  apply fin_ret
  · (simp only [go_sem, Try.ntmps9, hs, ok, hp, h5, h6, Try.f9]) <;> exact rfl
  -- leaf 0 (ret)
  
  all_goals rfl

theorem law_endsF (t : Town) (p : List Int) (hs : M.Short t) (ok : M.Ok t) (hp : M.plan t p = true) (h5 : ¬ (5 : Int) < (t.houses.length : Int)) (h6 : ¬ (6 : Int) < (t.walk.length : Int)) (hn : M.plans t = []) : Ret Try.prog 9 [.agg (cT t), .sl 1 (rI p)] (.bool true) := by
  have hh : t.houses.length ≤ 1000 := by have := hs.2.2.2.2.2.1; omega
  have nap := M.plans_nil hn hp
  have ep : M.err t p = 7 := by simp [M.err, ok, hp, nap]
  have kp : M.rk t p = [] := by simp [M.rk, ep]
  apply Ret_fin (fn := Try.f9) Try.func9 rfl
  apply T_seq
  apply T_r F
  · (simp only [go_sem, Try.ntmps9, hs, ok, hp, h5, h6, bne_self_eq_false, ep, kp]) <;> exact rfl
  apply K_seq
  apply T_seq
  apply T_seq
  apply T_wL F [0, 1, 2, 3, 4, 5, 6, 7, 8, 9, 10, 11, 12, 13, 14, 15, 16, 17, 18, 19, 20, 21, 22, 23, 24, 25] rfl
  apply W_pre [0] [1, 2, 3, 4, 5, 6, 7, 8, 9, 10, 11, 12, 13, 14, 15, 16, 17, 18, 19, 20, 21, 22, 23, 24, 25]
  · (simp only [go_sem, Try.ntmps9, hs, ok, hp, h5, h6, bne_self_eq_false, ep, kp]) <;> exact rfl
  apply W_call -- call 0 of function 12
  · (simp only [go_sem, Try.ntmps9, hs, ok, hp, h5, h6, bne_self_eq_false, ep, kp]) <;> exact rfl
  · (simp only [go_sem, Try.ntmps9, hs, ok, hp, h5, h6, bne_self_eq_false, ep, kp]) <;> exact rfl
  · exact rfl
  · (simp only [go_sem, Try.ntmps9, hs, ok, hp, h5, h6, bne_self_eq_false, ep, kp]) <;> exact rfl
  · (simp only [go_sem, Try.ntmps9, hs, ok, hp, h5, h6, bne_self_eq_false, ep, kp]) <;> exact rfl
  · exact ⟨_, Try.func12, rfl, rfl⟩
  · (simp only [go_sem, Try.ntmps9, hs, ok, hp, h5, h6, bne_self_eq_false, ep, kp]) <;> exact rfl
  · (simp only [go_sem, Try.ntmps9, hs, ok, hp, h5, h6, bne_self_eq_false, ep, kp]) <;> exact rfl
  · exact law_short _
  apply W_pre [2, 3, 4] [5, 6, 7, 8, 9, 10, 11, 12, 13, 14, 15, 16, 17, 18, 19, 20, 21, 22, 23, 24, 25]
  · (simp only [go_sem, Try.ntmps9, hs, ok, hp, h5, h6, bne_self_eq_false, ep, kp]) <;> exact rfl
  apply W_call -- call 1 of function 13
  · (simp only [go_sem, Try.ntmps9, hs, ok, hp, h5, h6, bne_self_eq_false, ep, kp]) <;> exact rfl
  · (simp only [go_sem, Try.ntmps9, hs, ok, hp, h5, h6, bne_self_eq_false, ep, kp]) <;> exact rfl
  · exact rfl
  · (simp only [go_sem, Try.ntmps9, hs, ok, hp, h5, h6, bne_self_eq_false, ep, kp]) <;> exact rfl
  · (simp only [go_sem, Try.ntmps9, hs, ok, hp, h5, h6, bne_self_eq_false, ep, kp]) <;> exact rfl
  · exact ⟨_, Try.func13, rfl, rfl⟩
  · (simp only [go_sem, Try.ntmps9, hs, ok, hp, h5, h6, bne_self_eq_false, ep, kp]) <;> exact rfl
  · (simp only [go_sem, Try.ntmps9, hs, ok, hp, h5, h6, bne_self_eq_false, ep, kp]) <;> exact rfl
  · exact ref_town _
  apply W_pre [6, 7, 8, 9, 10] [11, 12, 13, 14, 15, 16, 17, 18, 19, 20, 21, 22, 23, 24, 25]
  · (simp only [go_sem, Try.ntmps9, hs, ok, hp, h5, h6, bne_self_eq_false, ep, kp]) <;> exact rfl
  apply W_call -- call 2 of function 14
  · (simp only [go_sem, Try.ntmps9, hs, ok, hp, h5, h6, bne_self_eq_false, ep, kp]) <;> exact rfl
  · (simp only [go_sem, Try.ntmps9, hs, ok, hp, h5, h6, bne_self_eq_false, ep, kp]) <;> exact rfl
  · exact rfl
  · (simp only [go_sem, Try.ntmps9, hs, ok, hp, h5, h6, bne_self_eq_false, ep, kp]) <;> exact rfl
  · (simp only [go_sem, Try.ntmps9, hs, ok, hp, h5, h6, bne_self_eq_false, ep, kp]) <;> exact rfl
  · exact ⟨_, Try.func14, rfl, rfl⟩
  · (simp only [go_sem, Try.ntmps9, hs, ok, hp, h5, h6, bne_self_eq_false, ep, kp]) <;> exact rfl
  · (simp only [go_sem, Try.ntmps9, hs, ok, hp, h5, h6, bne_self_eq_false, ep, kp]) <;> exact rfl
  · exact ref_plan _ _
  apply W_pre [12, 13, 14, 15] [16, 17, 18, 19, 20, 21, 22, 23, 24, 25]
  · (simp only [go_sem, Try.ntmps9, hs, ok, hp, h5, h6, bne_self_eq_false, ep, kp]) <;> exact rfl
  apply W_pre [16, 17, 18, 19] [20, 21, 22, 23, 24, 25]
  · (simp only [go_sem, Try.ntmps9, hs, ok, hp, h5, h6, bne_self_eq_false, ep, kp]) <;> exact rfl
  apply W_run
  · (simp only [go_sem, Try.ntmps9, hs, ok, hp, h5, h6, bne_self_eq_false, ep, kp]) <;> exact rfl
  apply W_nil
  apply K_seq
  apply T_ifF -- h0
  · (simp only [go_sem, Try.ntmps9, hs, ok, hp, h5, h6, bne_self_eq_false, ep, kp]) <;> exact rfl
  apply T_skip
  apply K_seq
  apply T_seq
  apply T_wL F [0, 1, 2, 3, 4, 5, 6, 7, 8] rfl
  apply W_pre [0] [1, 2, 3, 4, 5, 6, 7, 8]
  · (simp only [go_sem, Try.ntmps9, hs, ok, hp, h5, h6, bne_self_eq_false, ep, kp]) <;> exact rfl
  apply W_call -- call 3 of function 26
  · (simp only [go_sem, Try.ntmps9, hs, ok, hp, h5, h6, bne_self_eq_false, ep, kp]) <;> exact rfl
  · (simp only [go_sem, Try.ntmps9, hs, ok, hp, h5, h6, bne_self_eq_false, ep, kp]) <;> exact rfl
  · exact rfl
  · (simp only [go_sem, Try.ntmps9, hs, ok, hp, h5, h6, bne_self_eq_false, ep, kp]) <;> exact rfl
  · (simp only [go_sem, Try.ntmps9, hs, ok, hp, h5, h6, bne_self_eq_false, ep, kp]) <;> exact rfl
  · exact ⟨_, Try.func26, rfl, rfl⟩
  · (simp only [go_sem, Try.ntmps9, hs, ok, hp, h5, h6, bne_self_eq_false, ep, kp]) <;> exact rfl
  · (simp only [go_sem, Try.ntmps9, hs, ok, hp, h5, h6, bne_self_eq_false, ep, kp]) <;> exact rfl
  · exact mv_BestB t hh ok (by rw [hn]; rfl)
  apply W_pre [2, 3, 4, 5] [6, 7, 8]
  · (simp only [go_sem, Try.ntmps9, hs, ok, hp, h5, h6, bne_self_eq_false, ep, kp]) <;> exact rfl
  apply W_run
  · (simp only [go_sem, Try.ntmps9, hs, ok, hp, h5, h6, bne_self_eq_false, ep, kp]) <;> exact rfl
  apply W_nil
  apply K_seq
  apply T_seq
  apply T_wL F [0, 1, 2, 3, 4, 5, 6, 7, 8] rfl
  apply W_pre [0] [1, 2, 3, 4, 5, 6, 7, 8]
  · (simp only [go_sem, Try.ntmps9, hs, ok, hp, h5, h6, bne_self_eq_false, ep, kp]) <;> exact rfl
  apply W_call -- call 4 of function 27
  · (simp only [go_sem, Try.ntmps9, hs, ok, hp, h5, h6, bne_self_eq_false, ep, kp]) <;> exact rfl
  · (simp only [go_sem, Try.ntmps9, hs, ok, hp, h5, h6, bne_self_eq_false, ep, kp]) <;> exact rfl
  · exact rfl
  · (simp only [go_sem, Try.ntmps9, hs, ok, hp, h5, h6, bne_self_eq_false, ep, kp]) <;> exact rfl
  · (simp only [go_sem, Try.ntmps9, hs, ok, hp, h5, h6, bne_self_eq_false, ep, kp]) <;> exact rfl
  · exact ⟨_, Try.func27, rfl, rfl⟩
  · (simp only [go_sem, Try.ntmps9, hs, ok, hp, h5, h6, bne_self_eq_false, ep, kp]) <;> exact rfl
  · (simp only [go_sem, Try.ntmps9, hs, ok, hp, h5, h6, bne_self_eq_false, ep, kp]) <;> exact rfl
  · exact mv_FairestB t hh ok (by rw [hn]; rfl)
  apply W_pre [2, 3, 4, 5] [6, 7, 8]
  · (simp only [go_sem, Try.ntmps9, hs, ok, hp, h5, h6, bne_self_eq_false, ep, kp]) <;> exact rfl
  apply W_run
  · (simp only [go_sem, Try.ntmps9, hs, ok, hp, h5, h6, bne_self_eq_false, ep, kp]) <;> exact rfl
  apply W_nil
  apply K_seq
  apply T_seq
  apply T_seq
  apply T_wL F [0, 1, 2, 3, 4, 5, 6, 7, 8, 9, 10] rfl
  apply W_pre [0, 1, 2, 3] [4, 5, 6, 7, 8, 9, 10]
  · (simp only [go_sem, Try.ntmps9, hs, ok, hp, h5, h6, bne_self_eq_false, ep, kp]) <;> exact rfl
  apply W_pre [4, 5, 6, 7] [8, 9, 10]
  · (simp only [go_sem, Try.ntmps9, hs, ok, hp, h5, h6, bne_self_eq_false, ep, kp]) <;> exact rfl
  apply W_run
  · (simp only [go_sem, Try.ntmps9, hs, ok, hp, h5, h6, bne_self_eq_false, ep, kp]) <;> exact rfl
  apply W_nil
  apply K_seq
  apply T_ifF -- h1
  · (simp only [go_sem, Try.ntmps9, hs, ok, hp, h5, h6, bne_self_eq_false, ep, kp]) <;> exact rfl
  apply T_skip
  apply K_seq
  apply T_seq
  apply T_seq
  apply T_r F
  · (simp only [go_sem, Try.ntmps9, hs, ok, hp, h5, h6, bne_self_eq_false, ep, kp]) <;> exact rfl
  apply K_seq
  apply T_ifF -- h2
  · (simp only [go_sem, Try.ntmps9, hs, ok, hp, h5, h6, bne_self_eq_false, ep, kp]) <;> exact rfl
  apply T_skip
  apply K_seq
  apply T_seq
  apply T_wL F [0, 1, 2, 3, 4, 5, 6, 7] rfl
  apply W_pre [0, 1] [2, 3, 4, 5, 6, 7]
  · (simp only [go_sem, Try.ntmps9, hs, ok, hp, h5, h6, bne_self_eq_false, ep, kp]) <;> exact rfl
  apply W_call -- call 5 of function 34
  · (simp only [go_sem, Try.ntmps9, hs, ok, hp, h5, h6, bne_self_eq_false, ep, kp]) <;> exact rfl
  · (simp only [go_sem, Try.ntmps9, hs, ok, hp, h5, h6, bne_self_eq_false, ep, kp]) <;> exact rfl
  · exact rfl
  · (simp only [go_sem, Try.ntmps9, hs, ok, hp, h5, h6, bne_self_eq_false, ep, kp]) <;> exact rfl
  · (simp only [go_sem, Try.ntmps9, hs, ok, hp, h5, h6, bne_self_eq_false, ep, kp]) <;> exact rfl
  · exact ⟨_, Try.func34, rfl, rfl⟩
  · (simp only [go_sem, Try.ntmps9, hs, ok, hp, h5, h6, bne_self_eq_false, ep, kp]) <;> exact rfl
  · (simp only [go_sem, Try.ntmps9, hs, ok, hp, h5, h6, bne_self_eq_false, ep, kp]) <;> exact rfl
  · exact mv_RanksAll (by omega)
  apply W_run
  · (simp only [go_sem, Try.ntmps9, hs, ok, hp, h5, h6, bne_self_eq_false, ep, kp]) <;> exact rfl
  apply W_nil
  apply K_seq
  apply T_seq
  apply T_seq
  apply T_r F
  · (simp only [go_sem, Try.ntmps9, hs, ok, hp, h5, h6, bne_self_eq_false, ep, kp]) <;> exact rfl
  apply K_seq
  apply T_ifT -- h3
  · (simp only [go_sem, Try.ntmps9, hs, ok, hp, h5, h6, bne_self_eq_false, ep, kp]) <;> exact rfl
  apply T_seq
  apply T_wL F [0, 1, 2, 3, 4, 5] rfl
  apply W_pre [0, 1, 2] [3, 4, 5]
  · (simp only [go_sem, Try.ntmps9, hs, ok, hp, h5, h6, bne_self_eq_false, ep, kp]) <;> exact rfl
  apply W_call -- call 6 of function 16
  · (simp only [go_sem, Try.ntmps9, hs, ok, hp, h5, h6, bne_self_eq_false, ep, kp]) <;> exact rfl
  · (simp only [go_sem, Try.ntmps9, hs, ok, hp, h5, h6, bne_self_eq_false, ep, kp]) <;> exact rfl
  · exact rfl
  · (simp only [go_sem, Try.ntmps9, hs, ok, hp, h5, h6, bne_self_eq_false, ep, kp]) <;> exact rfl
  · (simp only [go_sem, Try.ntmps9, hs, ok, hp, h5, h6, bne_self_eq_false, ep, kp]) <;> exact rfl
  · exact ⟨_, Try.func16, rfl, rfl⟩
  · (simp only [go_sem, Try.ntmps9, hs, ok, hp, h5, h6, bne_self_eq_false, ep, kp]) <;> exact rfl
  · (simp only [go_sem, Try.ntmps9, hs, ok, hp, h5, h6, bne_self_eq_false, ep, kp]) <;> exact rfl
  · exact known_ok
  apply W_run
  · (simp only [go_sem, Try.ntmps9, hs, ok, hp, h5, h6, bne_self_eq_false, ep, kp]) <;> exact rfl
  apply W_nil
  apply K_seq
  apply T_ret
  apply K_seqR
  apply fin_ret
  · (simp only [go_sem, Try.ntmps9, hs, ok, hp, h5, h6, bne_self_eq_false, ep, kp, Try.f9]) <;> exact rfl
  -- leaf 0 (ret)
  
  all_goals rfl

theorem law_endsG (t : Town) (p : List Int) (hs : M.Short t) (ok : M.Ok t) (hp : M.plan t p = true) (h5 : ¬ (5 : Int) < (t.houses.length : Int)) (h6 : ¬ (6 : Int) < (t.walk.length : Int)) (hn : M.plans t ≠ []) (nap : M.allowed t p = false) : Ret Try.prog 9 [.agg (cT t), .sl 1 (rI p)] (.bool true) := by
  have hh : t.houses.length ≤ 1000 := by have := hs.2.2.2.2.2.1; omega
  obtain ⟨a, hBest, ha, aa, bB⟩ := M.best_of hn
  obtain ⟨b, hFair, hb, ab, bF⟩ := M.fair_of hn
  have xa := M.exch_best ha bB
  have xb := M.exch_fair hb bF
  have ea : M.err t a = 0 := by simp [M.err, ok, ha, aa]
  have ka : M.rk t a = M.ranks t a := by simp [M.rk, ea]
  have fa := M.fine_ranks ok ha aa
  have la : (M.ranks t a).length = t.houses.length := by rw [M.ranks_length]; exact (M.plan_iff.1 ha).1
  have eb : M.err t b = 0 := by simp [M.err, ok, hb, ab]
  have kb : M.rk t b = M.ranks t b := by simp [M.rk, eb]
  have fb := M.fine_ranks ok hb ab
  have lb : (M.ranks t b).length = t.houses.length := by rw [M.ranks_length]; exact (M.plan_iff.1 hb).1
  have ep : M.err t p = 7 := by simp [M.err, ok, hp, nap]
  have kp : M.rk t p = [] := by simp [M.rk, ep]
  apply Ret_fin (fn := Try.f9) Try.func9 rfl
  apply T_seq
  apply T_r F
  · (simp only [go_sem, Try.ntmps9, hs, ok, hp, h5, h6, bne_self_eq_false, ep, kp]) <;> exact rfl
  apply K_seq
  apply T_seq
  apply T_seq
  apply T_wL F [0, 1, 2, 3, 4, 5, 6, 7, 8, 9, 10, 11, 12, 13, 14, 15, 16, 17, 18, 19, 20, 21, 22, 23, 24, 25] rfl
  apply W_pre [0] [1, 2, 3, 4, 5, 6, 7, 8, 9, 10, 11, 12, 13, 14, 15, 16, 17, 18, 19, 20, 21, 22, 23, 24, 25]
  · (simp only [go_sem, Try.ntmps9, hs, ok, hp, h5, h6, bne_self_eq_false, ep, kp]) <;> exact rfl
  apply W_call -- call 0 of function 12
  · (simp only [go_sem, Try.ntmps9, hs, ok, hp, h5, h6, bne_self_eq_false, ep, kp]) <;> exact rfl
  · (simp only [go_sem, Try.ntmps9, hs, ok, hp, h5, h6, bne_self_eq_false, ep, kp]) <;> exact rfl
  · exact rfl
  · (simp only [go_sem, Try.ntmps9, hs, ok, hp, h5, h6, bne_self_eq_false, ep, kp]) <;> exact rfl
  · (simp only [go_sem, Try.ntmps9, hs, ok, hp, h5, h6, bne_self_eq_false, ep, kp]) <;> exact rfl
  · exact ⟨_, Try.func12, rfl, rfl⟩
  · (simp only [go_sem, Try.ntmps9, hs, ok, hp, h5, h6, bne_self_eq_false, ep, kp]) <;> exact rfl
  · (simp only [go_sem, Try.ntmps9, hs, ok, hp, h5, h6, bne_self_eq_false, ep, kp]) <;> exact rfl
  · exact law_short _
  apply W_pre [2, 3, 4] [5, 6, 7, 8, 9, 10, 11, 12, 13, 14, 15, 16, 17, 18, 19, 20, 21, 22, 23, 24, 25]
  · (simp only [go_sem, Try.ntmps9, hs, ok, hp, h5, h6, bne_self_eq_false, ep, kp]) <;> exact rfl
  apply W_call -- call 1 of function 13
  · (simp only [go_sem, Try.ntmps9, hs, ok, hp, h5, h6, bne_self_eq_false, ep, kp]) <;> exact rfl
  · (simp only [go_sem, Try.ntmps9, hs, ok, hp, h5, h6, bne_self_eq_false, ep, kp]) <;> exact rfl
  · exact rfl
  · (simp only [go_sem, Try.ntmps9, hs, ok, hp, h5, h6, bne_self_eq_false, ep, kp]) <;> exact rfl
  · (simp only [go_sem, Try.ntmps9, hs, ok, hp, h5, h6, bne_self_eq_false, ep, kp]) <;> exact rfl
  · exact ⟨_, Try.func13, rfl, rfl⟩
  · (simp only [go_sem, Try.ntmps9, hs, ok, hp, h5, h6, bne_self_eq_false, ep, kp]) <;> exact rfl
  · (simp only [go_sem, Try.ntmps9, hs, ok, hp, h5, h6, bne_self_eq_false, ep, kp]) <;> exact rfl
  · exact ref_town _
  apply W_pre [6, 7, 8, 9, 10] [11, 12, 13, 14, 15, 16, 17, 18, 19, 20, 21, 22, 23, 24, 25]
  · (simp only [go_sem, Try.ntmps9, hs, ok, hp, h5, h6, bne_self_eq_false, ep, kp]) <;> exact rfl
  apply W_call -- call 2 of function 14
  · (simp only [go_sem, Try.ntmps9, hs, ok, hp, h5, h6, bne_self_eq_false, ep, kp]) <;> exact rfl
  · (simp only [go_sem, Try.ntmps9, hs, ok, hp, h5, h6, bne_self_eq_false, ep, kp]) <;> exact rfl
  · exact rfl
  · (simp only [go_sem, Try.ntmps9, hs, ok, hp, h5, h6, bne_self_eq_false, ep, kp]) <;> exact rfl
  · (simp only [go_sem, Try.ntmps9, hs, ok, hp, h5, h6, bne_self_eq_false, ep, kp]) <;> exact rfl
  · exact ⟨_, Try.func14, rfl, rfl⟩
  · (simp only [go_sem, Try.ntmps9, hs, ok, hp, h5, h6, bne_self_eq_false, ep, kp]) <;> exact rfl
  · (simp only [go_sem, Try.ntmps9, hs, ok, hp, h5, h6, bne_self_eq_false, ep, kp]) <;> exact rfl
  · exact ref_plan _ _
  apply W_pre [12, 13, 14, 15] [16, 17, 18, 19, 20, 21, 22, 23, 24, 25]
  · (simp only [go_sem, Try.ntmps9, hs, ok, hp, h5, h6, bne_self_eq_false, ep, kp]) <;> exact rfl
  apply W_pre [16, 17, 18, 19] [20, 21, 22, 23, 24, 25]
  · (simp only [go_sem, Try.ntmps9, hs, ok, hp, h5, h6, bne_self_eq_false, ep, kp]) <;> exact rfl
  apply W_run
  · (simp only [go_sem, Try.ntmps9, hs, ok, hp, h5, h6, bne_self_eq_false, ep, kp]) <;> exact rfl
  apply W_nil
  apply K_seq
  apply T_ifF -- h0
  · (simp only [go_sem, Try.ntmps9, hs, ok, hp, h5, h6, bne_self_eq_false, ep, kp]) <;> exact rfl
  apply T_skip
  apply K_seq
  apply T_seq
  apply T_wL F [0, 1, 2, 3, 4, 5, 6, 7, 8] rfl
  apply W_pre [0] [1, 2, 3, 4, 5, 6, 7, 8]
  · (simp only [go_sem, Try.ntmps9, hs, ok, hp, h5, h6, bne_self_eq_false, ep, kp]) <;> exact rfl
  apply W_call -- call 3 of function 26
  · (simp only [go_sem, Try.ntmps9, hs, ok, hp, h5, h6, bne_self_eq_false, ep, kp]) <;> exact rfl
  · (simp only [go_sem, Try.ntmps9, hs, ok, hp, h5, h6, bne_self_eq_false, ep, kp]) <;> exact rfl
  · exact rfl
  · (simp only [go_sem, Try.ntmps9, hs, ok, hp, h5, h6, bne_self_eq_false, ep, kp]) <;> exact rfl
  · (simp only [go_sem, Try.ntmps9, hs, ok, hp, h5, h6, bne_self_eq_false, ep, kp]) <;> exact rfl
  · exact ⟨_, Try.func26, rfl, rfl⟩
  · (simp only [go_sem, Try.ntmps9, hs, ok, hp, h5, h6, bne_self_eq_false, ep, kp]) <;> exact rfl
  · (simp only [go_sem, Try.ntmps9, hs, ok, hp, h5, h6, bne_self_eq_false, ep, kp]) <;> exact rfl
  · exact mv_BestC t hh ok a _ hBest
  apply W_pre [2, 3, 4, 5] [6, 7, 8]
  · (simp only [go_sem, Try.ntmps9, hs, ok, hp, h5, h6, bne_self_eq_false, ep, kp]) <;> exact rfl
  apply W_run
  · (simp only [go_sem, Try.ntmps9, hs, ok, hp, h5, h6, bne_self_eq_false, ep, kp]) <;> exact rfl
  apply W_nil
  apply K_seq
  apply T_seq
  apply T_wL F [0, 1, 2, 3, 4, 5, 6, 7, 8] rfl
  apply W_pre [0] [1, 2, 3, 4, 5, 6, 7, 8]
  · (simp only [go_sem, Try.ntmps9, hs, ok, hp, h5, h6, bne_self_eq_false, ep, kp]) <;> exact rfl
  apply W_call -- call 4 of function 27
  · (simp only [go_sem, Try.ntmps9, hs, ok, hp, h5, h6, bne_self_eq_false, ep, kp]) <;> exact rfl
  · (simp only [go_sem, Try.ntmps9, hs, ok, hp, h5, h6, bne_self_eq_false, ep, kp]) <;> exact rfl
  · exact rfl
  · (simp only [go_sem, Try.ntmps9, hs, ok, hp, h5, h6, bne_self_eq_false, ep, kp]) <;> exact rfl
  · (simp only [go_sem, Try.ntmps9, hs, ok, hp, h5, h6, bne_self_eq_false, ep, kp]) <;> exact rfl
  · exact ⟨_, Try.func27, rfl, rfl⟩
  · (simp only [go_sem, Try.ntmps9, hs, ok, hp, h5, h6, bne_self_eq_false, ep, kp]) <;> exact rfl
  · (simp only [go_sem, Try.ntmps9, hs, ok, hp, h5, h6, bne_self_eq_false, ep, kp]) <;> exact rfl
  · exact mv_FairestC t hh ok b _ hFair
  apply W_pre [2, 3, 4, 5] [6, 7, 8]
  · (simp only [go_sem, Try.ntmps9, hs, ok, hp, h5, h6, bne_self_eq_false, ep, kp]) <;> exact rfl
  apply W_run
  · (simp only [go_sem, Try.ntmps9, hs, ok, hp, h5, h6, bne_self_eq_false, ep, kp]) <;> exact rfl
  apply W_nil
  apply K_seq
  apply T_seq
  apply T_seq
  apply T_wL F [0, 1, 2, 3, 4, 5, 6, 7, 8, 9, 10] rfl
  apply W_pre [0, 1, 2, 3] [4, 5, 6, 7, 8, 9, 10]
  · (simp only [go_sem, Try.ntmps9, hs, ok, hp, h5, h6, bne_self_eq_false, ep, kp]) <;> exact rfl
  apply W_pre [4, 5, 6, 7] [8, 9, 10]
  · (simp only [go_sem, Try.ntmps9, hs, ok, hp, h5, h6, bne_self_eq_false, ep, kp]) <;> exact rfl
  apply W_run
  · (simp only [go_sem, Try.ntmps9, hs, ok, hp, h5, h6, bne_self_eq_false, ep, kp]) <;> exact rfl
  apply W_nil
  apply K_seq
  apply T_ifF -- h1
  · (simp only [go_sem, Try.ntmps9, hs, ok, hp, h5, h6, bne_self_eq_false, ep, kp]) <;> exact rfl
  apply T_skip
  apply K_seq
  apply T_seq
  apply T_seq
  apply T_r F
  · (simp only [go_sem, Try.ntmps9, hs, ok, hp, h5, h6, bne_self_eq_false, ep, kp]) <;> exact rfl
  apply K_seq
  apply T_ifT -- h2
  · (simp only [go_sem, Try.ntmps9, hs, ok, hp, h5, h6, bne_self_eq_false, ep, kp]) <;> exact rfl
  apply T_seq
  apply T_wL F [0, 1, 2, 3, 4, 5, 6, 7] rfl
  apply W_pre [0, 1] [2, 3, 4, 5, 6, 7]
  · (simp only [go_sem, Try.ntmps9, hs, ok, hp, h5, h6, bne_self_eq_false, ep, kp]) <;> exact rfl
  apply W_call -- call 5 of function 20
  · (simp only [go_sem, Try.ntmps9, hs, ok, hp, h5, h6, bne_self_eq_false, ep, kp]) <;> exact rfl
  · (simp only [go_sem, Try.ntmps9, hs, ok, hp, h5, h6, bne_self_eq_false, ep, kp]) <;> exact rfl
  · exact rfl
  · (simp only [go_sem, Try.ntmps9, hs, ok, hp, h5, h6, bne_self_eq_false, ep, kp]) <;> exact rfl
  · (simp only [go_sem, Try.ntmps9, hs, ok, hp, h5, h6, bne_self_eq_false, ep, kp]) <;> exact rfl
  · exact ⟨_, Try.func20, rfl, rfl⟩
  · (simp only [go_sem, Try.ntmps9, hs, ok, hp, h5, h6, bne_self_eq_false, ep, kp]) <;> exact rfl
  · (simp only [go_sem, Try.ntmps9, hs, ok, hp, h5, h6, bne_self_eq_false, ep, kp]) <;> exact rfl
  · exact mv_ExchangeB t a hh ea xa
  apply W_run
  · (simp only [go_sem, Try.ntmps9, hs, ok, hp, h5, h6, bne_self_eq_false, ep, kp]) <;> exact rfl
  apply W_nil
  apply K_seq
  apply T_seq
  apply T_wL F [0, 1, 2, 3, 4, 5, 6, 7] rfl
  apply W_pre [0, 1] [2, 3, 4, 5, 6, 7]
  · (simp only [go_sem, Try.ntmps9, hs, ok, hp, h5, h6, bne_self_eq_false, ep, kp]) <;> exact rfl
  apply W_call -- call 6 of function 20
  · (simp only [go_sem, Try.ntmps9, hs, ok, hp, h5, h6, bne_self_eq_false, ep, kp]) <;> exact rfl
  · (simp only [go_sem, Try.ntmps9, hs, ok, hp, h5, h6, bne_self_eq_false, ep, kp]) <;> exact rfl
  · exact rfl
  · (simp only [go_sem, Try.ntmps9, hs, ok, hp, h5, h6, bne_self_eq_false, ep, kp]) <;> exact rfl
  · (simp only [go_sem, Try.ntmps9, hs, ok, hp, h5, h6, bne_self_eq_false, ep, kp]) <;> exact rfl
  · exact ⟨_, Try.func20, rfl, rfl⟩
  · (simp only [go_sem, Try.ntmps9, hs, ok, hp, h5, h6, bne_self_eq_false, ep, kp]) <;> exact rfl
  · (simp only [go_sem, Try.ntmps9, hs, ok, hp, h5, h6, bne_self_eq_false, ep, kp]) <;> exact rfl
  · exact mv_ExchangeB t b hh eb xb
  apply W_run
  · (simp only [go_sem, Try.ntmps9, hs, ok, hp, h5, h6, bne_self_eq_false, ep, kp]) <;> exact rfl
  apply W_nil
  apply K_seq
  apply T_seq
  apply T_wL F [0, 1, 2, 3, 4, 5] rfl
  apply W_run
  · (simp only [go_sem, Try.ntmps9, hs, ok, hp, h5, h6, bne_self_eq_false, ep, kp]) <;> exact rfl
  apply W_nil
  apply K_seq
  apply T_ifF -- h3
  · (simp only [go_sem, Try.ntmps9, hs, ok, hp, h5, h6, bne_self_eq_false, ep, kp]) <;> exact rfl
  apply T_skip
  apply K_seq
  apply T_seq
  apply T_wL F [0, 1, 2, 3, 4, 5, 6, 7] rfl
  apply W_pre [0, 1] [2, 3, 4, 5, 6, 7]
  · (simp only [go_sem, Try.ntmps9, hs, ok, hp, h5, h6, bne_self_eq_false, ep, kp]) <;> exact rfl
  apply W_call -- call 7 of function 34
  · (simp only [go_sem, Try.ntmps9, hs, ok, hp, h5, h6, bne_self_eq_false, ep, kp]) <;> exact rfl
  · (simp only [go_sem, Try.ntmps9, hs, ok, hp, h5, h6, bne_self_eq_false, ep, kp]) <;> exact rfl
  · exact rfl
  · (simp only [go_sem, Try.ntmps9, hs, ok, hp, h5, h6, bne_self_eq_false, ep, kp]) <;> exact rfl
  · (simp only [go_sem, Try.ntmps9, hs, ok, hp, h5, h6, bne_self_eq_false, ep, kp]) <;> exact rfl
  · exact ⟨_, Try.func34, rfl, rfl⟩
  · (simp only [go_sem, Try.ntmps9, hs, ok, hp, h5, h6, bne_self_eq_false, ep, kp]) <;> exact rfl
  · (simp only [go_sem, Try.ntmps9, hs, ok, hp, h5, h6, bne_self_eq_false, ep, kp]) <;> exact rfl
  · exact mv_RanksAll (by omega)
  apply W_run
  · (simp only [go_sem, Try.ntmps9, hs, ok, hp, h5, h6, bne_self_eq_false, ep, kp]) <;> exact rfl
  apply W_nil
  apply K_seq
  apply T_seq
  apply T_seq
  apply T_r F
  · (simp only [go_sem, Try.ntmps9, hs, ok, hp, h5, h6, bne_self_eq_false, ep, kp]) <;> exact rfl
  apply K_seq
  apply T_ifT -- h4
  · (simp only [go_sem, Try.ntmps9, hs, ok, hp, h5, h6, bne_self_eq_false, ep, kp]) <;> exact rfl
  apply T_seq
  apply T_wL F [0, 1, 2, 3, 4, 5] rfl
  apply W_pre [0, 1, 2] [3, 4, 5]
  · (simp only [go_sem, Try.ntmps9, hs, ok, hp, h5, h6, bne_self_eq_false, ep, kp]) <;> exact rfl
  apply W_call -- call 8 of function 16
  · (simp only [go_sem, Try.ntmps9, hs, ok, hp, h5, h6, bne_self_eq_false, ep, kp]) <;> exact rfl
  · (simp only [go_sem, Try.ntmps9, hs, ok, hp, h5, h6, bne_self_eq_false, ep, kp]) <;> exact rfl
  · exact rfl
  · (simp only [go_sem, Try.ntmps9, hs, ok, hp, h5, h6, bne_self_eq_false, ep, kp]) <;> exact rfl
  · (simp only [go_sem, Try.ntmps9, hs, ok, hp, h5, h6, bne_self_eq_false, ep, kp]) <;> exact rfl
  · exact ⟨_, Try.func16, rfl, rfl⟩
  · (simp only [go_sem, Try.ntmps9, hs, ok, hp, h5, h6, bne_self_eq_false, ep, kp]) <;> exact rfl
  · (simp only [go_sem, Try.ntmps9, hs, ok, hp, h5, h6, bne_self_eq_false, ep, kp]) <;> exact rfl
  · exact known_ok
  apply W_run
  · (simp only [go_sem, Try.ntmps9, hs, ok, hp, h5, h6, bne_self_eq_false, ep, kp]) <;> exact rfl
  apply W_nil
  apply K_seq
  apply T_ret
  apply K_seqR
  apply fin_ret
  · (simp only [go_sem, Try.ntmps9, hs, ok, hp, h5, h6, bne_self_eq_false, ep, kp, Try.f9]) <;> exact rfl
  -- leaf 0 (ret)
  
  all_goals rfl

theorem law_endsH (t : Town) (p : List Int) (hs : M.Short t) (ok : M.Ok t) (hp : M.plan t p = true) (h5 : ¬ (5 : Int) < (t.houses.length : Int)) (h6 : ¬ (6 : Int) < (t.walk.length : Int)) (hn : M.plans t ≠ []) (ap : M.allowed t p = true) : Ret Try.prog 9 [.agg (cT t), .sl 1 (rI p)] (.bool true) := by
  have hh : t.houses.length ≤ 1000 := by have := hs.2.2.2.2.2.1; omega
  obtain ⟨a, hBest, ha, aa, bB⟩ := M.best_of hn
  obtain ⟨b, hFair, hb, ab, bF⟩ := M.fair_of hn
  have xa := M.exch_best ha bB
  have xb := M.exch_fair hb bF
  have ea : M.err t a = 0 := by simp [M.err, ok, ha, aa]
  have ka : M.rk t a = M.ranks t a := by simp [M.rk, ea]
  have fa := M.fine_ranks ok ha aa
  have la : (M.ranks t a).length = t.houses.length := by rw [M.ranks_length]; exact (M.plan_iff.1 ha).1
  have eb : M.err t b = 0 := by simp [M.err, ok, hb, ab]
  have kb : M.rk t b = M.ranks t b := by simp [M.rk, eb]
  have fb := M.fine_ranks ok hb ab
  have lb : (M.ranks t b).length = t.houses.length := by rw [M.ranks_length]; exact (M.plan_iff.1 hb).1
  have ep : M.err t p = 0 := by simp [M.err, ok, hp, ap]
  have kp : M.rk t p = M.ranks t p := by simp [M.rk, ep]
  have fp := M.fine_ranks ok hp ap
  have lp : (M.ranks t p).length = t.houses.length := by rw [M.ranks_length]; exact (M.plan_iff.1 hp).1
  have hd0 : M.Down t p p 0 := ⟨hp, ap, fun i _ _ => Int.le_refl _, by omega⟩
  have hlp := (M.plan_iff.1 hp).1
  apply Ret_fin (fn := Try.f9) Try.func9 rfl
  apply T_seq
  apply T_r F
  · (simp only [go_sem, Try.ntmps9, hs, ok, hp, h5, h6, bne_self_eq_false, ep, kp, fp]) <;> exact rfl
  apply K_seq
  apply T_seq
  apply T_seq
  apply T_wL F [0, 1, 2, 3, 4, 5, 6, 7, 8, 9, 10, 11, 12, 13, 14, 15, 16, 17, 18, 19, 20, 21, 22, 23, 24, 25] rfl
  apply W_pre [0] [1, 2, 3, 4, 5, 6, 7, 8, 9, 10, 11, 12, 13, 14, 15, 16, 17, 18, 19, 20, 21, 22, 23, 24, 25]
  · (simp only [go_sem, Try.ntmps9, hs, ok, hp, h5, h6, bne_self_eq_false, ep, kp, fp]) <;> exact rfl
  apply W_call -- call 0 of function 12
  · (simp only [go_sem, Try.ntmps9, hs, ok, hp, h5, h6, bne_self_eq_false, ep, kp, fp]) <;> exact rfl
  · (simp only [go_sem, Try.ntmps9, hs, ok, hp, h5, h6, bne_self_eq_false, ep, kp, fp]) <;> exact rfl
  · exact rfl
  · (simp only [go_sem, Try.ntmps9, hs, ok, hp, h5, h6, bne_self_eq_false, ep, kp, fp]) <;> exact rfl
  · (simp only [go_sem, Try.ntmps9, hs, ok, hp, h5, h6, bne_self_eq_false, ep, kp, fp]) <;> exact rfl
  · exact ⟨_, Try.func12, rfl, rfl⟩
  · (simp only [go_sem, Try.ntmps9, hs, ok, hp, h5, h6, bne_self_eq_false, ep, kp, fp]) <;> exact rfl
  · (simp only [go_sem, Try.ntmps9, hs, ok, hp, h5, h6, bne_self_eq_false, ep, kp, fp]) <;> exact rfl
  · exact law_short _
  apply W_pre [2, 3, 4] [5, 6, 7, 8, 9, 10, 11, 12, 13, 14, 15, 16, 17, 18, 19, 20, 21, 22, 23, 24, 25]
  · (simp only [go_sem, Try.ntmps9, hs, ok, hp, h5, h6, bne_self_eq_false, ep, kp, fp]) <;> exact rfl
  apply W_call -- call 1 of function 13
  · (simp only [go_sem, Try.ntmps9, hs, ok, hp, h5, h6, bne_self_eq_false, ep, kp, fp]) <;> exact rfl
  · (simp only [go_sem, Try.ntmps9, hs, ok, hp, h5, h6, bne_self_eq_false, ep, kp, fp]) <;> exact rfl
  · exact rfl
  · (simp only [go_sem, Try.ntmps9, hs, ok, hp, h5, h6, bne_self_eq_false, ep, kp, fp]) <;> exact rfl
  · (simp only [go_sem, Try.ntmps9, hs, ok, hp, h5, h6, bne_self_eq_false, ep, kp, fp]) <;> exact rfl
  · exact ⟨_, Try.func13, rfl, rfl⟩
  · (simp only [go_sem, Try.ntmps9, hs, ok, hp, h5, h6, bne_self_eq_false, ep, kp, fp]) <;> exact rfl
  · (simp only [go_sem, Try.ntmps9, hs, ok, hp, h5, h6, bne_self_eq_false, ep, kp, fp]) <;> exact rfl
  · exact ref_town _
  apply W_pre [6, 7, 8, 9, 10] [11, 12, 13, 14, 15, 16, 17, 18, 19, 20, 21, 22, 23, 24, 25]
  · (simp only [go_sem, Try.ntmps9, hs, ok, hp, h5, h6, bne_self_eq_false, ep, kp, fp]) <;> exact rfl
  apply W_call -- call 2 of function 14
  · (simp only [go_sem, Try.ntmps9, hs, ok, hp, h5, h6, bne_self_eq_false, ep, kp, fp]) <;> exact rfl
  · (simp only [go_sem, Try.ntmps9, hs, ok, hp, h5, h6, bne_self_eq_false, ep, kp, fp]) <;> exact rfl
  · exact rfl
  · (simp only [go_sem, Try.ntmps9, hs, ok, hp, h5, h6, bne_self_eq_false, ep, kp, fp]) <;> exact rfl
  · (simp only [go_sem, Try.ntmps9, hs, ok, hp, h5, h6, bne_self_eq_false, ep, kp, fp]) <;> exact rfl
  · exact ⟨_, Try.func14, rfl, rfl⟩
  · (simp only [go_sem, Try.ntmps9, hs, ok, hp, h5, h6, bne_self_eq_false, ep, kp, fp]) <;> exact rfl
  · (simp only [go_sem, Try.ntmps9, hs, ok, hp, h5, h6, bne_self_eq_false, ep, kp, fp]) <;> exact rfl
  · exact ref_plan _ _
  apply W_pre [12, 13, 14, 15] [16, 17, 18, 19, 20, 21, 22, 23, 24, 25]
  · (simp only [go_sem, Try.ntmps9, hs, ok, hp, h5, h6, bne_self_eq_false, ep, kp, fp]) <;> exact rfl
  apply W_pre [16, 17, 18, 19] [20, 21, 22, 23, 24, 25]
  · (simp only [go_sem, Try.ntmps9, hs, ok, hp, h5, h6, bne_self_eq_false, ep, kp, fp]) <;> exact rfl
  apply W_run
  · (simp only [go_sem, Try.ntmps9, hs, ok, hp, h5, h6, bne_self_eq_false, ep, kp, fp]) <;> exact rfl
  apply W_nil
  apply K_seq
  apply T_ifF -- h0
  · (simp only [go_sem, Try.ntmps9, hs, ok, hp, h5, h6, bne_self_eq_false, ep, kp, fp]) <;> exact rfl
  apply T_skip
  apply K_seq
  apply T_seq
  apply T_wL F [0, 1, 2, 3, 4, 5, 6, 7, 8] rfl
  apply W_pre [0] [1, 2, 3, 4, 5, 6, 7, 8]
  · (simp only [go_sem, Try.ntmps9, hs, ok, hp, h5, h6, bne_self_eq_false, ep, kp, fp]) <;> exact rfl
  apply W_call -- call 3 of function 26
  · (simp only [go_sem, Try.ntmps9, hs, ok, hp, h5, h6, bne_self_eq_false, ep, kp, fp]) <;> exact rfl
  · (simp only [go_sem, Try.ntmps9, hs, ok, hp, h5, h6, bne_self_eq_false, ep, kp, fp]) <;> exact rfl
  · exact rfl
  · (simp only [go_sem, Try.ntmps9, hs, ok, hp, h5, h6, bne_self_eq_false, ep, kp, fp]) <;> exact rfl
  · (simp only [go_sem, Try.ntmps9, hs, ok, hp, h5, h6, bne_self_eq_false, ep, kp, fp]) <;> exact rfl
  · exact ⟨_, Try.func26, rfl, rfl⟩
  · (simp only [go_sem, Try.ntmps9, hs, ok, hp, h5, h6, bne_self_eq_false, ep, kp, fp]) <;> exact rfl
  · (simp only [go_sem, Try.ntmps9, hs, ok, hp, h5, h6, bne_self_eq_false, ep, kp, fp]) <;> exact rfl
  · exact mv_BestC t hh ok a _ hBest
  apply W_pre [2, 3, 4, 5] [6, 7, 8]
  · (simp only [go_sem, Try.ntmps9, hs, ok, hp, h5, h6, bne_self_eq_false, ep, kp, fp]) <;> exact rfl
  apply W_run
  · (simp only [go_sem, Try.ntmps9, hs, ok, hp, h5, h6, bne_self_eq_false, ep, kp, fp]) <;> exact rfl
  apply W_nil
  apply K_seq
  apply T_seq
  apply T_wL F [0, 1, 2, 3, 4, 5, 6, 7, 8] rfl
  apply W_pre [0] [1, 2, 3, 4, 5, 6, 7, 8]
  · (simp only [go_sem, Try.ntmps9, hs, ok, hp, h5, h6, bne_self_eq_false, ep, kp, fp]) <;> exact rfl
  apply W_call -- call 4 of function 27
  · (simp only [go_sem, Try.ntmps9, hs, ok, hp, h5, h6, bne_self_eq_false, ep, kp, fp]) <;> exact rfl
  · (simp only [go_sem, Try.ntmps9, hs, ok, hp, h5, h6, bne_self_eq_false, ep, kp, fp]) <;> exact rfl
  · exact rfl
  · (simp only [go_sem, Try.ntmps9, hs, ok, hp, h5, h6, bne_self_eq_false, ep, kp, fp]) <;> exact rfl
  · (simp only [go_sem, Try.ntmps9, hs, ok, hp, h5, h6, bne_self_eq_false, ep, kp, fp]) <;> exact rfl
  · exact ⟨_, Try.func27, rfl, rfl⟩
  · (simp only [go_sem, Try.ntmps9, hs, ok, hp, h5, h6, bne_self_eq_false, ep, kp, fp]) <;> exact rfl
  · (simp only [go_sem, Try.ntmps9, hs, ok, hp, h5, h6, bne_self_eq_false, ep, kp, fp]) <;> exact rfl
  · exact mv_FairestC t hh ok b _ hFair
  apply W_pre [2, 3, 4, 5] [6, 7, 8]
  · (simp only [go_sem, Try.ntmps9, hs, ok, hp, h5, h6, bne_self_eq_false, ep, kp, fp]) <;> exact rfl
  apply W_run
  · (simp only [go_sem, Try.ntmps9, hs, ok, hp, h5, h6, bne_self_eq_false, ep, kp, fp]) <;> exact rfl
  apply W_nil
  apply K_seq
  apply T_seq
  apply T_seq
  apply T_wL F [0, 1, 2, 3, 4, 5, 6, 7, 8, 9, 10] rfl
  apply W_pre [0, 1, 2, 3] [4, 5, 6, 7, 8, 9, 10]
  · (simp only [go_sem, Try.ntmps9, hs, ok, hp, h5, h6, bne_self_eq_false, ep, kp, fp]) <;> exact rfl
  apply W_pre [4, 5, 6, 7] [8, 9, 10]
  · (simp only [go_sem, Try.ntmps9, hs, ok, hp, h5, h6, bne_self_eq_false, ep, kp, fp]) <;> exact rfl
  apply W_run
  · (simp only [go_sem, Try.ntmps9, hs, ok, hp, h5, h6, bne_self_eq_false, ep, kp, fp]) <;> exact rfl
  apply W_nil
  apply K_seq
  apply T_ifF -- h1
  · (simp only [go_sem, Try.ntmps9, hs, ok, hp, h5, h6, bne_self_eq_false, ep, kp, fp]) <;> exact rfl
  apply T_skip
  apply K_seq
  apply T_seq
  apply T_seq
  apply T_r F
  · (simp only [go_sem, Try.ntmps9, hs, ok, hp, h5, h6, bne_self_eq_false, ep, kp, fp]) <;> exact rfl
  apply K_seq
  apply T_ifT -- h2
  · (simp only [go_sem, Try.ntmps9, hs, ok, hp, h5, h6, bne_self_eq_false, ep, kp, fp]) <;> exact rfl
  apply T_seq
  apply T_wL F [0, 1, 2, 3, 4, 5, 6, 7] rfl
  apply W_pre [0, 1] [2, 3, 4, 5, 6, 7]
  · (simp only [go_sem, Try.ntmps9, hs, ok, hp, h5, h6, bne_self_eq_false, ep, kp, fp]) <;> exact rfl
  apply W_call -- call 5 of function 20
  · (simp only [go_sem, Try.ntmps9, hs, ok, hp, h5, h6, bne_self_eq_false, ep, kp, fp]) <;> exact rfl
  · (simp only [go_sem, Try.ntmps9, hs, ok, hp, h5, h6, bne_self_eq_false, ep, kp, fp]) <;> exact rfl
  · exact rfl
  · (simp only [go_sem, Try.ntmps9, hs, ok, hp, h5, h6, bne_self_eq_false, ep, kp, fp]) <;> exact rfl
  · (simp only [go_sem, Try.ntmps9, hs, ok, hp, h5, h6, bne_self_eq_false, ep, kp, fp]) <;> exact rfl
  · exact ⟨_, Try.func20, rfl, rfl⟩
  · (simp only [go_sem, Try.ntmps9, hs, ok, hp, h5, h6, bne_self_eq_false, ep, kp, fp]) <;> exact rfl
  · (simp only [go_sem, Try.ntmps9, hs, ok, hp, h5, h6, bne_self_eq_false, ep, kp, fp]) <;> exact rfl
  · exact mv_ExchangeB t a hh ea xa
  apply W_run
  · (simp only [go_sem, Try.ntmps9, hs, ok, hp, h5, h6, bne_self_eq_false, ep, kp, fp]) <;> exact rfl
  apply W_nil
  apply K_seq
  apply T_seq
  apply T_wL F [0, 1, 2, 3, 4, 5, 6, 7] rfl
  apply W_pre [0, 1] [2, 3, 4, 5, 6, 7]
  · (simp only [go_sem, Try.ntmps9, hs, ok, hp, h5, h6, bne_self_eq_false, ep, kp, fp]) <;> exact rfl
  apply W_call -- call 6 of function 20
  · (simp only [go_sem, Try.ntmps9, hs, ok, hp, h5, h6, bne_self_eq_false, ep, kp, fp]) <;> exact rfl
  · (simp only [go_sem, Try.ntmps9, hs, ok, hp, h5, h6, bne_self_eq_false, ep, kp, fp]) <;> exact rfl
  · exact rfl
  · (simp only [go_sem, Try.ntmps9, hs, ok, hp, h5, h6, bne_self_eq_false, ep, kp, fp]) <;> exact rfl
  · (simp only [go_sem, Try.ntmps9, hs, ok, hp, h5, h6, bne_self_eq_false, ep, kp, fp]) <;> exact rfl
  · exact ⟨_, Try.func20, rfl, rfl⟩
  · (simp only [go_sem, Try.ntmps9, hs, ok, hp, h5, h6, bne_self_eq_false, ep, kp, fp]) <;> exact rfl
  · (simp only [go_sem, Try.ntmps9, hs, ok, hp, h5, h6, bne_self_eq_false, ep, kp, fp]) <;> exact rfl
  · exact mv_ExchangeB t b hh eb xb
  apply W_run
  · (simp only [go_sem, Try.ntmps9, hs, ok, hp, h5, h6, bne_self_eq_false, ep, kp, fp]) <;> exact rfl
  apply W_nil
  apply K_seq
  apply T_seq
  apply T_wL F [0, 1, 2, 3, 4, 5] rfl
  apply W_run
  · (simp only [go_sem, Try.ntmps9, hs, ok, hp, h5, h6, bne_self_eq_false, ep, kp, fp]) <;> exact rfl
  apply W_nil
  apply K_seq
  apply T_ifF -- h3
  · (simp only [go_sem, Try.ntmps9, hs, ok, hp, h5, h6, bne_self_eq_false, ep, kp, fp]) <;> exact rfl
  apply T_skip
  apply K_seq
  apply T_seq
  apply T_wL F [0, 1, 2, 3, 4, 5, 6, 7] rfl
  apply W_pre [0, 1] [2, 3, 4, 5, 6, 7]
  · (simp only [go_sem, Try.ntmps9, hs, ok, hp, h5, h6, bne_self_eq_false, ep, kp, fp]) <;> exact rfl
  apply W_call -- call 7 of function 34
  · (simp only [go_sem, Try.ntmps9, hs, ok, hp, h5, h6, bne_self_eq_false, ep, kp, fp]) <;> exact rfl
  · (simp only [go_sem, Try.ntmps9, hs, ok, hp, h5, h6, bne_self_eq_false, ep, kp, fp]) <;> exact rfl
  · exact rfl
  · (simp only [go_sem, Try.ntmps9, hs, ok, hp, h5, h6, bne_self_eq_false, ep, kp, fp]) <;> exact rfl
  · (simp only [go_sem, Try.ntmps9, hs, ok, hp, h5, h6, bne_self_eq_false, ep, kp, fp]) <;> exact rfl
  · exact ⟨_, Try.func34, rfl, rfl⟩
  · (simp only [go_sem, Try.ntmps9, hs, ok, hp, h5, h6, bne_self_eq_false, ep, kp, fp]) <;> exact rfl
  · (simp only [go_sem, Try.ntmps9, hs, ok, hp, h5, h6, bne_self_eq_false, ep, kp, fp]) <;> exact rfl
  · exact mv_RanksAll (by omega)
  apply W_run
  · (simp only [go_sem, Try.ntmps9, hs, ok, hp, h5, h6, bne_self_eq_false, ep, kp, fp]) <;> exact rfl
  apply W_nil
  apply K_seq
  apply T_seq
  apply T_seq
  apply T_r F
  · (simp only [go_sem, Try.ntmps9, hs, ok, hp, h5, h6, bne_self_eq_false, ep, kp, fp]) <;> exact rfl
  apply K_seq
  apply T_ifF -- h4
  · (simp only [go_sem, Try.ntmps9, hs, ok, hp, h5, h6, bne_self_eq_false, ep, kp, fp]) <;> exact rfl
  apply T_skip
  apply K_seq
  apply T_seq
  apply T_seq
  apply T_wL F [0, 1, 2, 3] rfl
  apply W_pre [0, 1] [2, 3]
  · (simp only [go_sem, Try.ntmps9, hs, ok, hp, h5, h6, bne_self_eq_false, ep, kp, fp]) <;> exact rfl
  apply W_call -- call 8 of function 35
  · (simp only [go_sem, Try.ntmps9, hs, ok, hp, h5, h6, bne_self_eq_false, ep, kp, fp]) <;> exact rfl
  · (simp only [go_sem, Try.ntmps9, hs, ok, hp, h5, h6, bne_self_eq_false, ep, kp, fp]) <;> exact rfl
  · exact rfl
  · (simp only [go_sem, Try.ntmps9, hs, ok, hp, h5, h6, bne_self_eq_false, ep, kp, fp]) <;> exact rfl
  · (simp only [go_sem, Try.ntmps9, hs, ok, hp, h5, h6, bne_self_eq_false, ep, kp, fp]) <;> exact rfl
  · exact ⟨_, Try.func35, rfl, rfl⟩
  · (simp only [go_sem, Try.ntmps9, hs, ok, hp, h5, h6, bne_self_eq_false, ep, kp, fp]) <;> exact rfl
  · (simp only [go_sem, Try.ntmps9, hs, ok, hp, h5, h6, bne_self_eq_false, ep, kp, fp]) <;> exact rfl
  · exact law_fine _ _
  apply W_run
  · (simp only [go_sem, Try.ntmps9, hs, ok, hp, h5, h6, bne_self_eq_false, ep, kp, fp]) <;> exact rfl
  apply W_nil
  apply K_seq
  apply T_ifF -- h5
  · (simp only [go_sem, Try.ntmps9, hs, ok, hp, h5, h6, bne_self_eq_false, ep, kp, fp]) <;> exact rfl
  apply T_skip
  apply K_seq
  apply T_seq
  apply T_wL F [0, 1, 2, 3, 4] rfl
  apply W_pre [0, 1] [2, 3, 4]
  · (simp only [go_sem, Try.ntmps9, hs, ok, hp, h5, h6, bne_self_eq_false, ep, kp, fp]) <;> exact rfl
  apply W_call -- call 9 of function 30
  · (simp only [go_sem, Try.ntmps9, hs, ok, hp, h5, h6, bne_self_eq_false, ep, kp, fp]) <;> exact rfl
  · (simp only [go_sem, Try.ntmps9, hs, ok, hp, h5, h6, bne_self_eq_false, ep, kp, fp]) <;> exact rfl
  · exact rfl
  · (simp only [go_sem, Try.ntmps9, hs, ok, hp, h5, h6, bne_self_eq_false, ep, kp, fp]) <;> exact rfl
  · (simp only [go_sem, Try.ntmps9, hs, ok, hp, h5, h6, bne_self_eq_false, ep, kp, fp]) <;> exact rfl
  · exact ⟨_, Try.func30, rfl, rfl⟩
  · (simp only [go_sem, Try.ntmps9, hs, ok, hp, h5, h6, bne_self_eq_false, ep, kp, fp]) <;> exact rfl
  · (simp only [go_sem, Try.ntmps9, hs, ok, hp, h5, h6, bne_self_eq_false, ep, kp, fp]) <;> exact rfl
  · exact ref_sum _ (M.ranks_wide ok) (by omega)
  apply W_run
  · (simp only [go_sem, Try.ntmps9, hs, ok, hp, h5, h6, bne_self_eq_false, ep, kp, fp]) <;> exact rfl
  apply W_nil
  apply K_seq
  apply T_seq
  apply T_seq
  apply T_r F
  · (simp only [go_sem, Try.ntmps9, hs, ok, hp, h5, h6, bne_self_eq_false, ep, kp, fp]) <;> exact rfl
  apply K_seq
  apply T_block
  apply T_lp (α := Nat × List Int) [false, false, true, false, false, false, false, false, false, false, false, false, false, false, false, true, false, true, true, true, false, false, false, false, false, false, false, false, false, false, false, false, false, false, false, false, false, false, false, false, false, false, false, false, false, false, false, false, false, false, false, false, false, false, false, false, false, false, false, false, false, false, false, false, false, false, false, false, false, false, false, false, false, false, false, false, false, false, false, false, false, false, false, false, false, false, false, false, false, false, false, false, false, false, false, false, false, false, false, false, false, false, false, false, false, false, false, false, false, false, false, false, false, false, false, false, false, false, false, false, false, false, false, false, false, false, false, false, false, false, false, false, false, false, false, false, false, false, false, false, false, false, false, false, false, false, false, false, false, false, false, false, false, false, false, false, false, false, false, false, false, false, false, false, false, false, false] (fun ⟨n, q⟩ => (⟨[.undef, .undef, .ptr 0 0, .undef, .undef, .undef, .undef, .undef, .undef, .undef, .undef, .undef, .undef, .undef, .undef, .sl 1 (rI (M.ranks t p)), .undef, .sl 1 (rI q), .int .i64 (M.sum (M.ranks t p)), .int .i64 (n : Int), .undef, .undef, .undef, .undef, .undef, .undef, .undef, .undef, .undef, .undef, .undef, .undef, .undef, .undef, .undef, .undef, .undef, .undef, .undef, .undef, .undef, .undef, .undef, .undef, .undef, .undef, .undef, .undef, .undef, .undef, .undef, .undef, .undef, .undef, .undef, .undef, .undef, .undef, .undef, .undef, .undef, .undef, .undef, .undef, .undef, .undef, .undef, .undef, .undef, .undef, .undef, .undef, .undef, .undef, .undef, .undef, .undef, .undef, .undef, .undef, .undef, .undef, .undef, .undef, .undef, .undef, .undef, .undef, .undef, .undef, .undef, .undef, .undef, .undef, .undef, .undef, .undef, .undef, .undef, .undef, .undef, .undef, .undef, .undef, .undef, .undef, .undef, .undef, .undef, .undef, .undef, .undef, .undef, .undef, .undef, .undef, .undef, .undef, .undef, .undef, .undef, .undef, .undef, .undef, .undef, .undef, .undef, .undef, .undef, .undef, .undef, .undef, .undef, .undef, .undef, .undef, .undef, .undef, .undef, .undef, .undef, .undef, .undef, .undef, .undef, .undef, .undef, .undef, .undef, .undef, .undef, .undef, .undef, .undef, .undef, .undef, .undef, .undef, .undef, .undef, .undef, .undef, .undef, .undef, .undef, .undef, .undef], [.box 28 (cT t)]⟩ : St)) (fun ⟨n, q⟩ => M.Down t p q n) (fun ⟨n, q⟩ => (M.sum (M.ranks t p)).toNat + 1 - n) ((0, p))
  · (simp only [go_sem, Try.ntmps9, hs, ok, hp, h5, h6, bne_self_eq_false, ep, kp, fp]) <;> exact rfl
  · exact hd0
  · rintro ⟨n, q⟩ hd
    have hle := hd.le
    have hle1 : (n : Int) ≤ M.sum (M.ranks t p) := hle
    have hsb := M.sum_bound (l := M.ranks t p) (b := 1000) (M.ranks_wide ok)
    have hnb : n < 9223372036854775807 := by omega
    obtain ⟨hq, aq, hrq, hsq⟩ := hd
    obtain ⟨eq, kq⟩ := M.down_err ⟨hq, aq, hrq, hsq⟩ ok
    have fq := M.fine_ranks ok hq aq
    have hlq := (M.plan_iff.1 hq).1
    have lrq := M.ranks_length t q
    have lrp := M.ranks_length t p
    apply T_seq
    apply T_seq
    apply T_r F
    · (simp only [go_sem, Try.ntmps9, hs, ok, hp, h5, h6, bne_self_eq_false, ep, kp, fp, hle1, hnb]) <;> exact rfl
    apply K_seq
    apply T_ifT -- h6
    · (simp only [go_sem, Try.ntmps9, hs, ok, hp, h5, h6, bne_self_eq_false, ep, kp, fp, hle1, hnb]) <;> exact rfl
    apply T_skip
    apply K_seq
    apply T_seq
    apply T_block
    apply T_seq
    rcases hx : M.exch t q with _ | r
    · skip
      apply T_wL F [0, 1, 2, 3, 4, 5, 6, 7] rfl
      apply W_pre [0, 1] [2, 3, 4, 5, 6, 7]
      · (simp only [go_sem, Try.ntmps9, hs, ok, hp, h5, h6, bne_self_eq_false, ep, kp, fp, hle1, hnb, eq, kq, fq]) <;> exact rfl
      apply W_call -- call 10 of function 20
      · (simp only [go_sem, Try.ntmps9, hs, ok, hp, h5, h6, bne_self_eq_false, ep, kp, fp, hle1, hnb, eq, kq, fq]) <;> exact rfl
      · (simp only [go_sem, Try.ntmps9, hs, ok, hp, h5, h6, bne_self_eq_false, ep, kp, fp, hle1, hnb, eq, kq, fq]) <;> exact rfl
      · exact rfl
      · (simp only [go_sem, Try.ntmps9, hs, ok, hp, h5, h6, bne_self_eq_false, ep, kp, fp, hle1, hnb, eq, kq, fq]) <;> exact rfl
      · (simp only [go_sem, Try.ntmps9, hs, ok, hp, h5, h6, bne_self_eq_false, ep, kp, fp, hle1, hnb, eq, kq, fq]) <;> exact rfl
      · exact ⟨_, Try.func20, rfl, rfl⟩
      · (simp only [go_sem, Try.ntmps9, hs, ok, hp, h5, h6, bne_self_eq_false, ep, kp, fp, hle1, hnb, eq, kq, fq]) <;> exact rfl
      · (simp only [go_sem, Try.ntmps9, hs, ok, hp, h5, h6, bne_self_eq_false, ep, kp, fp, hle1, hnb, eq, kq, fq]) <;> exact rfl
      · exact mv_ExchangeB t q hh eq hx
      apply W_run
      · (simp only [go_sem, Try.ntmps9, hs, ok, hp, h5, h6, bne_self_eq_false, ep, kp, fp, hle1, hnb, eq, kq, fq]) <;> exact rfl
      apply W_nil
      apply K_seq
      apply T_seq
      apply T_seq
      apply T_r F
      · (simp only [go_sem, Try.ntmps9, hs, ok, hp, h5, h6, bne_self_eq_false, ep, kp, fp, hle1, hnb, eq, kq, fq]) <;> exact rfl
      apply K_seq
      apply T_ifT -- h7
      · (simp only [go_sem, Try.ntmps9, hs, ok, hp, h5, h6, bne_self_eq_false, ep, kp, fp, hle1, hnb, eq, kq, fq]) <;> exact rfl
      apply T_seq
      apply T_wL F [0, 1, 2, 3, 4, 5, 6, 7] rfl
      apply W_pre [0, 1] [2, 3, 4, 5, 6, 7]
      · (simp only [go_sem, Try.ntmps9, hs, ok, hp, h5, h6, bne_self_eq_false, ep, kp, fp, hle1, hnb, eq, kq, fq]) <;> exact rfl
      apply W_call -- call 11 of function 34
      · (simp only [go_sem, Try.ntmps9, hs, ok, hp, h5, h6, bne_self_eq_false, ep, kp, fp, hle1, hnb, eq, kq, fq]) <;> exact rfl
      · (simp only [go_sem, Try.ntmps9, hs, ok, hp, h5, h6, bne_self_eq_false, ep, kp, fp, hle1, hnb, eq, kq, fq]) <;> exact rfl
      · exact rfl
      · (simp only [go_sem, Try.ntmps9, hs, ok, hp, h5, h6, bne_self_eq_false, ep, kp, fp, hle1, hnb, eq, kq, fq]) <;> exact rfl
      · (simp only [go_sem, Try.ntmps9, hs, ok, hp, h5, h6, bne_self_eq_false, ep, kp, fp, hle1, hnb, eq, kq, fq]) <;> exact rfl
      · exact ⟨_, Try.func34, rfl, rfl⟩
      · (simp only [go_sem, Try.ntmps9, hs, ok, hp, h5, h6, bne_self_eq_false, ep, kp, fp, hle1, hnb, eq, kq, fq]) <;> exact rfl
      · (simp only [go_sem, Try.ntmps9, hs, ok, hp, h5, h6, bne_self_eq_false, ep, kp, fp, hle1, hnb, eq, kq, fq]) <;> exact rfl
      · exact mv_RanksAll (by omega)
      apply W_run
      · (simp only [go_sem, Try.ntmps9, hs, ok, hp, h5, h6, bne_self_eq_false, ep, kp, fp, hle1, hnb, eq, kq, fq]) <;> exact rfl
      apply W_nil
      apply K_seq
      apply T_seq
      apply T_seq
      apply T_wL F [0, 1, 2, 3, 4, 5, 6, 7] rfl
      apply W_pre [0, 1, 2, 3, 4] [5, 6, 7]
      · (simp only [go_sem, Try.ntmps9, hs, ok, hp, h5, h6, bne_self_eq_false, ep, kp, fp, hle1, hnb, eq, kq, fq]) <;> exact rfl
      apply W_call -- call 12 of function 35
      · (simp only [go_sem, Try.ntmps9, hs, ok, hp, h5, h6, bne_self_eq_false, ep, kp, fp, hle1, hnb, eq, kq, fq]) <;> exact rfl
      · (simp only [go_sem, Try.ntmps9, hs, ok, hp, h5, h6, bne_self_eq_false, ep, kp, fp, hle1, hnb, eq, kq, fq]) <;> exact rfl
      · exact rfl
      · (simp only [go_sem, Try.ntmps9, hs, ok, hp, h5, h6, bne_self_eq_false, ep, kp, fp, hle1, hnb, eq, kq, fq]) <;> exact rfl
      · (simp only [go_sem, Try.ntmps9, hs, ok, hp, h5, h6, bne_self_eq_false, ep, kp, fp, hle1, hnb, eq, kq, fq]) <;> exact rfl
      · exact ⟨_, Try.func35, rfl, rfl⟩
      · (simp only [go_sem, Try.ntmps9, hs, ok, hp, h5, h6, bne_self_eq_false, ep, kp, fp, hle1, hnb, eq, kq, fq]) <;> exact rfl
      · (simp only [go_sem, Try.ntmps9, hs, ok, hp, h5, h6, bne_self_eq_false, ep, kp, fp, hle1, hnb, eq, kq, fq]) <;> exact rfl
      · exact law_fine _ _
      apply W_run
      · (simp only [go_sem, Try.ntmps9, hs, ok, hp, h5, h6, bne_self_eq_false, ep, kp, fp, hle1, hnb, eq, kq, fq]) <;> exact rfl
      apply W_nil
      apply K_seq
      apply T_ifF -- h8
      · (simp only [go_sem, Try.ntmps9, hs, ok, hp, h5, h6, bne_self_eq_false, ep, kp, fp, hle1, hnb, eq, kq, fq]) <;> exact rfl
      apply T_skip
      apply K_seq
      apply T_seq
      apply T_seq
      apply T_r F
      · (simp only [go_sem, Try.ntmps9, hs, ok, hp, h5, h6, bne_self_eq_false, ep, kp, fp, hle1, hnb, eq, kq, fq]) <;> exact rfl
      apply K_seq
      apply T_block
      apply T_lp (α := Nat) [false, false, false, false, false, false, false, false, false, false, false, false, false, false, false, true, false, false, false, false, false, false, true, false, true, false, false, false, false, false, false, false, false, false, false, false, false, false, false, false, false, false, false, false, false, false, false, false, false, false, false, false, false, false, false, false, false, false, false, false, false, false, false, false, false, false, false, false, false, false, false, false, false, false, false, false, false, false, false, false, false, false, false, false, false, false, false, false, false, false, false, false, false, false, false, false, false, false, false, false, false, false, false, false, false, false, false, false, false, false, false, false, false, false, false, false, false, false, false, false, false, false, false, false, false, false, false, false, false, false, false, false, false, false, false, false, false, false, false, false, false, false, false, false, false, false, false, false, false, false, false, false, false, false, false, false, false, false, false, false, false, false, false, false, false, false, false] (fun k => (⟨[.undef, .undef, .undef, .undef, .undef, .undef, .undef, .undef, .undef, .undef, .undef, .undef, .undef, .undef, .undef, .sl 1 (rI (M.ranks t p)), .undef, .undef, .undef, .undef, .undef, .undef, .sl 1 (rI (M.ranks t q)), .undef, .int .i64 (k : Int), .undef, .undef, .undef, .undef, .undef, .undef, .undef, .undef, .undef, .undef, .undef, .undef, .undef, .undef, .undef, .undef, .undef, .undef, .undef, .undef, .undef, .undef, .undef, .undef, .undef, .undef, .undef, .undef, .undef, .undef, .undef, .undef, .undef, .undef, .undef, .undef, .undef, .undef, .undef, .undef, .undef, .undef, .undef, .undef, .undef, .undef, .undef, .undef, .undef, .undef, .undef, .undef, .undef, .undef, .undef, .undef, .undef, .undef, .undef, .undef, .undef, .undef, .undef, .undef, .undef, .undef, .undef, .undef, .undef, .undef, .undef, .undef, .undef, .undef, .undef, .undef, .undef, .undef, .undef, .undef, .undef, .undef, .undef, .undef, .undef, .undef, .undef, .undef, .undef, .undef, .undef, .undef, .undef, .undef, .undef, .undef, .undef, .undef, .undef, .undef, .undef, .undef, .undef, .undef, .undef, .undef, .undef, .undef, .undef, .undef, .undef, .undef, .undef, .undef, .undef, .undef, .undef, .undef, .undef, .undef, .undef, .undef, .undef, .undef, .undef, .undef, .undef, .undef, .undef, .undef, .undef, .undef, .undef, .undef, .undef, .undef, .undef, .undef, .undef, .undef, .undef, .undef], [.box 28 (cT t)]⟩ : St)) (fun k => k ≤ (M.ranks t q).length) (fun k => (M.ranks t q).length - k) (0)
      · (simp only [go_sem, Try.ntmps9, hs, ok, hp, h5, h6, bne_self_eq_false, ep, kp, fp, hle1, hnb, eq, kq, fq]) <;> exact rfl
      · exact Nat.zero_le _
      · rintro k hk
        apply T_seq
        apply T_seq
        apply T_r F
        · (simp only [go_sem, Try.ntmps9, hs, ok, hp, h5, h6, bne_self_eq_false, ep, kp, fp, hle1, hnb, eq, kq, fq]) <;> exact rfl
        apply K_seq
        apply T_if
        · (simp only [go_sem, Try.ntmps9, hs, ok, hp, h5, h6, bne_self_eq_false, ep, kp, fp, hle1, hnb, eq, kq, fq]) <;> exact rfl
        · intro bh9t
          have h9t := bh9t
          try simp only [CS] at h9t
          try simp only [BS] at bh9t
          try exact absurd bh9t (by decide)
          all_goals (
  have hkb : k < 9223372036854775807 := by omega
  have hkp : k < (M.ranks t p).length := by omega
  have hno : ¬ (M.ranks t p)[k] < (M.ranks t q)[k] := by have := hrq k h9t hkp; omega
  apply T_skip
  apply K_seq
  apply T_seq
  apply T_block
  apply T_seq
  apply T_qL F [0, 1, 2, 3, 4, 5, 6, 7, 8] rfl (by kernel_rfl)
  apply Q_pre [0, 1, 2, 3] [4, 5, 6, 7, 8]
  · (simp only [go_sem, Try.ntmps9, hs, ok, hp, h5, h6, bne_self_eq_false, ep, kp, fp, hle1, hnb, eq, kq, fq, bh9t, h9t, hkb, hkp, rI_get h9t, rI_get hkp, hno]) <;> exact rfl
  apply Q_run
  · (simp only [go_sem, Try.ntmps9, hs, ok, hp, h5, h6, bne_self_eq_false, ep, kp, fp, hle1, hnb, eq, kq, fq, bh9t, h9t, hkb, hkp, rI_get h9t, rI_get hkp, hno]) <;> exact rfl
  apply Q_nil
  apply K_seq
  apply T_ifF -- h10
  · (simp only [go_sem, Try.ntmps9, hs, ok, hp, h5, h6, bne_self_eq_false, ep, kp, fp, hle1, hnb, eq, kq, fq, bh9t, h9t, hkb, hkp, rI_get h9t, rI_get hkp, hno]) <;> exact rfl
  apply T_skip
  apply K_blk
  apply K_seq
  apply T_r F
  · (simp only [go_sem, Try.ntmps9, hs, ok, hp, h5, h6, bne_self_eq_false, ep, kp, fp, hle1, hnb, eq, kq, fq, bh9t, h9t, hkb, hkp, rI_get h9t, rI_get hkp, hno]) <;> exact rfl
  refine K_lp (k + 1) ?_ ?_
  · (simp only [go_sem, Try.ntmps9, hs, ok, hp, h5, h6, bne_self_eq_false, ep, kp, fp, hle1, hnb, eq, kq, fq, bh9t, h9t, hkb, hkp, rI_get h9t, rI_get hkp, hno]) <;> exact rfl
  -- leaf 0 (loop1)
  omega)
        · intro bh9f
          have h9f := bh9f
          try simp only [CS] at h9f
          try simp only [BS] at bh9f
          try exact absurd bh9f (by decide)
          all_goals (
  apply T_exit
  apply K_seqE
  apply K_lpE
  apply K_blkE
  apply K_seq
  apply T_seq
  apply T_wL F [0, 1] rfl
  apply W_call -- call 13 of function 16
  · (simp only [go_sem, Try.ntmps9, hs, ok, hp, h5, h6, bne_self_eq_false, ep, kp, fp, hle1, hnb, eq, kq, fq, bh9f]) <;> exact rfl
  · (simp only [go_sem, Try.ntmps9, hs, ok, hp, h5, h6, bne_self_eq_false, ep, kp, fp, hle1, hnb, eq, kq, fq, bh9f]) <;> exact rfl
  · exact rfl
  · (simp only [go_sem, Try.ntmps9, hs, ok, hp, h5, h6, bne_self_eq_false, ep, kp, fp, hle1, hnb, eq, kq, fq, bh9f]) <;> exact rfl
  · (simp only [go_sem, Try.ntmps9, hs, ok, hp, h5, h6, bne_self_eq_false, ep, kp, fp, hle1, hnb, eq, kq, fq, bh9f]) <;> exact rfl
  · exact ⟨_, Try.func16, rfl, rfl⟩
  · (simp only [go_sem, Try.ntmps9, hs, ok, hp, h5, h6, bne_self_eq_false, ep, kp, fp, hle1, hnb, eq, kq, fq, bh9f]) <;> exact rfl
  · (simp only [go_sem, Try.ntmps9, hs, ok, hp, h5, h6, bne_self_eq_false, ep, kp, fp, hle1, hnb, eq, kq, fq, bh9f]) <;> exact rfl
  · exact known_ok
  apply W_run
  · (simp only [go_sem, Try.ntmps9, hs, ok, hp, h5, h6, bne_self_eq_false, ep, kp, fp, hle1, hnb, eq, kq, fq, bh9f]) <;> exact rfl
  apply W_nil
  apply K_seq
  apply T_ret
  apply K_seqR
  apply K_blkR
  apply K_seqR
  apply K_lpR
  apply K_blkR
  apply K_seqR
  apply fin_ret
  · (simp only [go_sem, Try.ntmps9, hs, ok, hp, h5, h6, bne_self_eq_false, ep, kp, fp, hle1, hnb, eq, kq, fq, bh9f, Try.f9]) <;> exact rfl
  -- leaf 1 (ret)
  
  all_goals rfl)
    · skip
      have hpr := (M.exch_some hx).1
      have hdn := M.Down.next ⟨hq, aq, hrq, hsq⟩ hp hx
      apply T_wL F [0, 1, 2, 3, 4, 5, 6, 7] rfl
      apply W_pre [0, 1] [2, 3, 4, 5, 6, 7]
      · (simp only [go_sem, Try.ntmps9, hs, ok, hp, h5, h6, bne_self_eq_false, ep, kp, fp, hle1, hnb, eq, kq, fq, hpr]) <;> exact rfl
      apply W_call -- call 10 of function 20
      · (simp only [go_sem, Try.ntmps9, hs, ok, hp, h5, h6, bne_self_eq_false, ep, kp, fp, hle1, hnb, eq, kq, fq, hpr]) <;> exact rfl
      · (simp only [go_sem, Try.ntmps9, hs, ok, hp, h5, h6, bne_self_eq_false, ep, kp, fp, hle1, hnb, eq, kq, fq, hpr]) <;> exact rfl
      · exact rfl
      · (simp only [go_sem, Try.ntmps9, hs, ok, hp, h5, h6, bne_self_eq_false, ep, kp, fp, hle1, hnb, eq, kq, fq, hpr]) <;> exact rfl
      · (simp only [go_sem, Try.ntmps9, hs, ok, hp, h5, h6, bne_self_eq_false, ep, kp, fp, hle1, hnb, eq, kq, fq, hpr]) <;> exact rfl
      · exact ⟨_, Try.func20, rfl, rfl⟩
      · (simp only [go_sem, Try.ntmps9, hs, ok, hp, h5, h6, bne_self_eq_false, ep, kp, fp, hle1, hnb, eq, kq, fq, hpr]) <;> exact rfl
      · (simp only [go_sem, Try.ntmps9, hs, ok, hp, h5, h6, bne_self_eq_false, ep, kp, fp, hle1, hnb, eq, kq, fq, hpr]) <;> exact rfl
      · exact mv_ExchangeC t q hh eq r hx
      apply W_run
      · (simp only [go_sem, Try.ntmps9, hs, ok, hp, h5, h6, bne_self_eq_false, ep, kp, fp, hle1, hnb, eq, kq, fq, hpr]) <;> exact rfl
      apply W_nil
      apply K_seq
      apply T_seq
      apply T_seq
      apply T_r F
      · (simp only [go_sem, Try.ntmps9, hs, ok, hp, h5, h6, bne_self_eq_false, ep, kp, fp, hle1, hnb, eq, kq, fq, hpr]) <;> exact rfl
      apply K_seq
      apply T_ifF -- h7
      · (simp only [go_sem, Try.ntmps9, hs, ok, hp, h5, h6, bne_self_eq_false, ep, kp, fp, hle1, hnb, eq, kq, fq, hpr]) <;> exact rfl
      apply T_skip
      apply K_seq
      apply T_seq
      apply T_seq
      apply T_wL F [0, 1, 2, 3, 4, 5, 6, 7] rfl
      apply W_pre [0, 1, 2, 3, 4] [5, 6, 7]
      · (simp only [go_sem, Try.ntmps9, hs, ok, hp, h5, h6, bne_self_eq_false, ep, kp, fp, hle1, hnb, eq, kq, fq, hpr]) <;> exact rfl
      apply W_call -- call 11 of function 14
      · (simp only [go_sem, Try.ntmps9, hs, ok, hp, h5, h6, bne_self_eq_false, ep, kp, fp, hle1, hnb, eq, kq, fq, hpr]) <;> exact rfl
      · (simp only [go_sem, Try.ntmps9, hs, ok, hp, h5, h6, bne_self_eq_false, ep, kp, fp, hle1, hnb, eq, kq, fq, hpr]) <;> exact rfl
      · exact rfl
      · (simp only [go_sem, Try.ntmps9, hs, ok, hp, h5, h6, bne_self_eq_false, ep, kp, fp, hle1, hnb, eq, kq, fq, hpr]) <;> exact rfl
      · (simp only [go_sem, Try.ntmps9, hs, ok, hp, h5, h6, bne_self_eq_false, ep, kp, fp, hle1, hnb, eq, kq, fq, hpr]) <;> exact rfl
      · exact ⟨_, Try.func14, rfl, rfl⟩
      · (simp only [go_sem, Try.ntmps9, hs, ok, hp, h5, h6, bne_self_eq_false, ep, kp, fp, hle1, hnb, eq, kq, fq, hpr]) <;> exact rfl
      · (simp only [go_sem, Try.ntmps9, hs, ok, hp, h5, h6, bne_self_eq_false, ep, kp, fp, hle1, hnb, eq, kq, fq, hpr]) <;> exact rfl
      · exact ref_plan _ _
      apply W_run
      · (simp only [go_sem, Try.ntmps9, hs, ok, hp, h5, h6, bne_self_eq_false, ep, kp, fp, hle1, hnb, eq, kq, fq, hpr]) <;> exact rfl
      apply W_nil
      apply K_seq
      apply T_ifF -- h8
      · (simp only [go_sem, Try.ntmps9, hs, ok, hp, h5, h6, bne_self_eq_false, ep, kp, fp, hle1, hnb, eq, kq, fq, hpr]) <;> exact rfl
      apply T_skip
      apply K_seq
      apply T_r F
      · (simp only [go_sem, Try.ntmps9, hs, ok, hp, h5, h6, bne_self_eq_false, ep, kp, fp, hle1, hnb, eq, kq, fq, hpr]) <;> exact rfl
      apply K_blk
      apply K_seq
      apply T_r F
      · (simp only [go_sem, Try.ntmps9, hs, ok, hp, h5, h6, bne_self_eq_false, ep, kp, fp, hle1, hnb, eq, kq, fq, hpr]) <;> exact rfl
      refine K_lp ((n + 1, r)) ?_ ?_
      · (simp only [go_sem, Try.ntmps9, hs, ok, hp, h5, h6, bne_self_eq_false, ep, kp, fp, hle1, hnb, eq, kq, fq, hpr]) <;> exact rfl
      -- leaf 2 (loop0)
      refine ⟨hdn, ?_⟩
      simp only
      omega


theorem law_ends (t : Town) (p : List Int) : Ret Try.prog 9 [.agg (cT t), .sl 1 (rI p)] (.bool true) := by
  by_cases hs : M.Short t
  · by_cases ok : M.Ok t
    · cases hp : M.plan t p
      · exact law_endsC t p hs ok hp
      · by_cases h5 : (5 : Int) < (t.houses.length : Int)
        · exact law_endsD t p hs ok hp h5
        · by_cases h6 : (6 : Int) < (t.walk.length : Int)
          · exact law_endsE t p hs ok hp h5 h6
          · by_cases hn : M.plans t = []
            · exact law_endsF t p hs ok hp h5 h6 hn
            · cases ap : M.allowed t p
              · exact law_endsG t p hs ok hp h5 h6 hn ap
              · exact law_endsH t p hs ok hp h5 h6 hn ap
    · exact law_endsB t p hs ok
  · exact law_endsA t p hs
end Go.Ab
namespace Go.Proofs.Ytahflobpopclpaa.movePleased
open Go.ChangeShapes Go.WideShapes Go.ChangeAt Go.RowKit Go.Ab
set_option linter.unusedVariables false
theorem own : ownKnob Try.prog.godebug = none := by kernel_rfl
theorem laidOut : laidOutB Try.prog = true := by kernel_rfl
set_option maxRecDepth 100000 in
theorem lifted (os : Os) (started : os.Started) (H : Type) (enc : TypeId × Value → H) :
    ReturnsInHanded {} Try.checked os 9 .any (Rows.movePleasedSpec.pre6 enc Try.prog Try.f9 Rows.movePleasedRow.domain false) (Rows.movePleasedSpec.post enc Try.prog Try.f9 false true false false) := by
  refine returnsInHanded_of_change_sized (C := Try.checked) own started (by kernel_rfl) Try.func9
    (ChangeSpec.witness6 (enc := enc) (C := Try.checked) false ⟨#[], #[.agg #[.slice none 0 0, .int .i64 0, .slice none 0 0, .slice none 0 0, .slice none 0 0, .slice none 0 0], .slice none 0 0], []⟩ 8 (by kernel_rfl) (by kernel_rfl) (by kernel_rfl) (by kernel_rfl)) ?_
  intro W base args ds gs before hval0 hW hcnd hsz0 _
  have hval : ∀ (j : Nat) t v, Try.f9.params[j]? = some t → args[j]? = some v → Value.okWide Try.prog W .any base t v := hval0
  have hW' := hW
  obtain ⟨p, q, hA0, hV, rfl, hfz, hnd⟩ := hW
  have hA : DataW.TrodAll enc Try.prog W 0 (fun _ => true) true Try.f9.params.toList args.toList ds p := hA0
  rw [Try.params9] at hA hval
  obtain ⟨v0, vs0, d0, ds0, p0, q0, hargs, rfl, rfl, h0, r0⟩ := trodAll_cons hA
  obtain ⟨v1, vs1, d1, ds1, p1, q1, rfl, rfl, rfl, h1, r1⟩ := trodAll_cons r0
  obtain ⟨rfl, rfl, rfl⟩ := trodAll_nil r1
  obtain rfl : args = #[v0, v1] := by cases args; simp_all
  obtain ⟨rfl, rfl⟩ := trodVars_none hV
  have lt0 : ∀ x ∈ p0, x.block < W.heap.size := by obtain ⟨m, hm⟩ := h0; exact DataW.trod_lt m _ _ _ hm
  have lt1 : ∀ x ∈ p1, x.block < W.heap.size := by obtain ⟨m, hm⟩ := h1; exact DataW.trod_lt m _ _ _ hm
  obtain ⟨t0, ht0⟩ := town_in h0
  obtain ⟨l1, hl1⟩ := ints_in h1 (let ⟨a, n, c, e⟩ := okWide_slice Try.underlying23 (hval 1 23 v1 rfl rfl); ⟨a, n, c, e⟩)
  clear hA0 hval0 hsz0
  have hargsR : RelL ⟨fun _ => False, [], [], W⟩ [.agg (cT t0), .sl 1 (rI l1)] (#[v0, v1] : Array Value).toList := by
    simp only [RelL]
    exact ⟨_, _, rfl, ht0, _, _, rfl, hl1, rfl⟩
  refine (law_ends t0 l1 (fun _ => False) W _ (fun _ h => h.elim) hargsR).mono fun e W' ⟨v, he, hr, bel⟩ => ?_
  simp only [Rel] at hr
  subst hr
  subst he
  exact ⟨_, rfl, _, _, _, [], _, [], hW', trodAll_mk1 (shut_bool Try.underlying4 _), (trodAll_cons_mk (Below.trod laidOut (by kernel_rfl) (of_decide_eq_true (by kernel_rfl)) h0 bel lt0) (trodAll_cons_mk (Below.trod laidOut (by kernel_rfl) (of_decide_eq_true (by kernel_rfl)) h1 bel lt1) trodAll_mk0)), rfl, bel.frame _, fun h => by cases h⟩
theorem over : Rows.movePleasedRow.holds Try.pinned (OpenSpec.ofChange Rows.movePleasedSpec) :=
  OpenClaim.holds_of_wide 9 Try.f9 rfl rfl rfl rfl rfl rfl rfl ⟨rfl, rfl, rfl, rfl, rfl⟩ rfl rfl rfl rfl rfl (by kernel_rfl) Try.func9 (by kernel_rfl)
    (of_decide_eq_true (by kernel_rfl)) (by unfold Func.isWrapper; first | (rw [if_pos (by decide +kernel)]; kernel_rfl) | (rw [if_neg (by decide +kernel)]; exact ⟨rfl, rfl⟩))
    (fun os started H enc _ => lifted os started H enc)
end Go.Proofs.Ytahflobpopclpaa.movePleased
namespace Go.Proofs.Ytahflobpopclpaa
theorem movePleased_holds : Rows.MovePleasedSaid := movePleased.over
end Go.Proofs.Ytahflobpopclpaa
