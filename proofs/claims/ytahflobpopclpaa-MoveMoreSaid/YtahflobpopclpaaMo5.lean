/- The law MoveMore holds of the given program for every input: it returns true, and the input reads as it did. -/
import Derived.Test.YtahflobpopclpaaMo4
import Derived.Test.YtahflobpopclpaaRows
import Derived.WalkKit
import Derived.ProofKit
import Derived.OpenShut
import Derived.ShutString
import Derived.ChangeOld
import Derived.Below
import Derived.SizedLaws
set_option linter.unusedVariables false
set_option linter.unusedSimpArgs false
namespace Go.Ab
open Go Go.RowKit Go.Proofs Fac
set_option linter.unusedVariables false
set_option linter.unusedSimpArgs false
set_option maxRecDepth 4000
set_option maxHeartbeats 1000000





theorem sl_equal (l m : List Int) : Ret Try.prog 52 [.sl 1 (rI l), .sl 1 (rI m)] (.bool (l == m)) := by
  refine Ret.of_fits fun hfits => ?_
  simp only [V.fits, V.fitsL, V.fitsR, rI_length] at hfits
  have hl := hfits.1.1
  have hlm := hfits.2.1.1
  apply Ret_fin (fn := Try.f52) Try.func52 rfl
  apply T_seq
  apply T_r F
  · (simp only [go_sem, Try.ntmps52]) <;> exact rfl
  apply K_seq
  apply T_seq
  apply T_seq
  apply T_r F
  · (simp only [go_sem, Try.ntmps52]) <;> exact rfl
  apply K_seq
  apply T_if
  · (simp only [go_sem, Try.ntmps52]) <;> exact rfl
  · intro bh0t
    have h0t := bh0t
    try simp only [CS] at h0t
    try simp only [BS] at bh0t
    try exact absurd bh0t (by decide)
    all_goals (
  apply T_seq
  apply T_r F
  · (simp only [go_sem, Try.ntmps52, bh0t]) <;> exact rfl
  apply K_seq
  apply T_ret
  apply K_seqR
  apply fin_ret
  · (simp only [go_sem, Try.ntmps52, bh0t, Try.f52]) <;> exact rfl
  -- leaf 0 (ret)
  simp only [go_sem, Try.ntmps52, bh0t, V.bool.injEq, V.int.injEq, true_and]
  grind)
  · intro bh0f
    have h0f := bh0f
    try simp only [CS] at h0f
    try simp only [BS] at bh0f
    try exact absurd bh0f (by decide)
    all_goals (
  apply T_skip
  apply K_seq
  apply T_seq
  apply T_seq
  apply T_r F
  · (simp only [go_sem, Try.ntmps52, bh0f]) <;> exact rfl
  apply K_seq
  apply T_block
  apply T_lp (α := Nat) [true, true, false, false, false, false, false, false, false, false, false, false, true, true, false, false, false, false, false, false, false, false, false, false, false, false] (fun k => (⟨[.sl 1 (rI l), .sl 1 (rI m), .undef, .undef, .undef, .undef, .undef, .undef, .undef, .undef, .undef, .undef, .int .i64 (l.length : Int), .int .i64 (k : Int), .undef, .undef, .undef, .undef, .undef, .undef, .undef, .undef, .undef, .undef, .undef, .undef], []⟩ : St)) (fun k => k ≤ l.length ∧ (l.drop k == m.drop k) = (l == m)) (fun k => l.length - k) (0)
  · (simp only [go_sem, Try.ntmps52, bh0f]) <;> exact rfl
  · simp
  · rintro k ⟨hk, hj⟩
    apply T_seq
    apply T_r F
    · (simp only [go_sem, Try.ntmps52, bh0f]) <;> exact rfl
    apply K_seq
    apply T_seq
    apply T_if
    · (simp only [go_sem, Try.ntmps52, bh0f]) <;> exact rfl
    · intro bh1t
      have h1t := bh1t
      try simp only [CS] at h1t
      try simp only [BS] at bh1t
      try exact absurd bh1t (by decide)
      all_goals (
  have hb : k < 9223372036854775807 := by omega
  have hm : k < m.length := by omega
  have hd := List.drop_eq_getElem_cons h1t
  have he := List.drop_eq_getElem_cons hm
  apply T_skip
  apply K_seq
  apply T_seq
  apply T_block
  apply T_seq
  apply T_r F
  · (simp only [go_sem, Try.ntmps52, bh0f, bh1t, h1t, rI_get h1t, hb, hm, rI_get hm]) <;> exact rfl
  apply K_seq
  apply T_seq
  apply T_qL F [0, 1, 2, 3, 4, 5, 6, 7, 8] rfl (by kernel_rfl)
  apply Q_pre [0, 1, 2, 3] [4, 5, 6, 7, 8]
  · (simp only [go_sem, Try.ntmps52, bh0f, bh1t, h1t, rI_get h1t, hb, hm, rI_get hm]) <;> exact rfl
  apply Q_run
  · (simp only [go_sem, Try.ntmps52, bh0f, bh1t, h1t, rI_get h1t, hb, hm, rI_get hm]) <;> exact rfl
  apply Q_nil
  apply K_seq
  apply T_if
  · (simp only [go_sem, Try.ntmps52, bh0f, bh1t, h1t, rI_get h1t, hb, hm, rI_get hm]) <;> exact rfl
  · intro bh2t
    have h2t := bh2t
    try simp only [CS] at h2t
    try simp only [BS] at bh2t
    try exact absurd bh2t (by decide)
    all_goals (
  apply T_seq
  apply T_r F
  · (simp only [go_sem, Try.ntmps52, bh0f, bh1t, h1t, rI_get h1t, hb, hm, rI_get hm, bh2t]) <;> exact rfl
  apply K_seq
  apply T_ret
  apply K_blkR
  apply K_seqR
  apply K_lpR
  apply K_blkR
  apply K_seqR
  apply fin_ret
  · (simp only [go_sem, Try.ntmps52, bh0f, bh1t, h1t, rI_get h1t, hb, hm, rI_get hm, bh2t, Try.f52]) <;> exact rfl
  -- leaf 1 (ret)
  simp only [go_sem, Try.ntmps52, bh0f, bh1t, h1t, rI_get h1t, hb, hm, rI_get hm, bh2t, V.bool.injEq, V.int.injEq, true_and]
  grind)
  · intro bh2f
    have h2f := bh2f
    try simp only [CS] at h2f
    try simp only [BS] at bh2f
    try exact absurd bh2f (by decide)
    all_goals (
  apply T_skip
  apply K_blk
  apply K_seq
  apply T_r F
  · (simp only [go_sem, Try.ntmps52, bh0f, bh1t, h1t, rI_get h1t, hb, hm, rI_get hm, bh2f]) <;> exact rfl
  refine K_lp (k + 1) ?_ ?_
  · (simp only [go_sem, Try.ntmps52, bh0f, bh1t, h1t, rI_get h1t, hb, hm, rI_get hm, bh2f]) <;> exact rfl
  -- leaf 2 (loop0)
  grind))
    · intro bh1f
      have h1f := bh1f
      try simp only [CS] at h1f
      try simp only [BS] at bh1f
      try exact absurd bh1f (by decide)
      all_goals (
  apply T_exit
  apply K_seqE
  apply K_lpE
  apply K_blkE
  apply K_seq
  apply T_seq
  apply T_r F
  · (simp only [go_sem, Try.ntmps52, bh0f, bh1f]) <;> exact rfl
  apply K_seq
  apply T_ret
  apply fin_ret
  · (simp only [go_sem, Try.ntmps52, bh0f, bh1f, Try.f52]) <;> exact rfl
  -- leaf 3 (ret)
  simp only [go_sem, Try.ntmps52, bh0f, bh1f, V.bool.injEq, V.int.injEq, true_and]
  grind))

theorem mv_exchY (t : Town) (p q : List Int) (o : V) (ok : M.Ok t) (hp : M.plan t p = true) (hq : M.plan t q = true) (ho : ∀ q, o.all q = true) : RetY Try.prog 6 [.sl 1 (rI q)] (hpE t p o .ready none ++ extP t (.sl 1 (rI p)) 6 7) (.bool (!M.pleases t p q)) (if M.pleases t p q = true then hpE t p (.sl 1 (rI q)) .done (some .ret) ++ extP t (.sl 1 (rI p)) 6 7 else hpE t p o .ready none ++ extP t (.sl 1 (rI p)) 6 7) := by
  have hpl := (M.plan_iff.1 hp).1
  have hql := (M.plan_iff.1 hq).1
  have h6 := M.houses_le ok
  have hlpq : p.length = q.length := by omega
  have hpi := M.pleases_iff (t := t) hlpq
  have hrp : (M.ranks t p).length = p.length := M.ranks_length t p
  have hrq : (M.ranks t q).length = q.length := M.ranks_length t q
  refine RetY_intro (pe := none) (tm := tmE t p) (ps := #[24]) (asg := asOf Try.f20) (bd := bdOf Try.f20) rfl rfl fun ro => ?_
  apply T_r F
  · (simp only [go_sem, hpE, extP, tmE, zipSet, cX_eq, cW_eq, hrp, hrq]) <;> exact rfl
  apply yas_next
  · (simp only [go_sem, hpE, extP, tmE, zipSet, cX_eq, cW_eq, hrp, hrq]) <;> exact rfl
  apply T_block
  apply T_seq
  apply T_seq
  apply T_wL F [0, 1, 2] rfl
  apply W_pre [0, 1] [2]
  · (simp only [go_sem, hpE, extP, tmE, zipSet, cX_eq, cW_eq, hrp, hrq]) <;> exact rfl
  apply W_call -- call 0 of function 52
  · (simp only [go_sem, hpE, extP, tmE, zipSet, cX_eq, cW_eq, hrp, hrq]) <;> exact rfl
  · (simp only [go_sem, hpE, extP, tmE, zipSet, cX_eq, cW_eq, hrp, hrq]) <;> exact rfl
  · exact rfl
  · (simp only [go_sem, hpE, extP, tmE, zipSet, cX_eq, cW_eq, hrp, hrq]) <;> exact rfl
  · (simp only [go_sem, hpE, extP, tmE, zipSet, cX_eq, cW_eq, hrp, hrq]) <;> exact rfl
  · exact ⟨_, Try.func52, rfl, rfl⟩
  · (simp only [go_sem, hpE, extP, tmE, zipSet, cX_eq, cW_eq, hrp, hrq]) <;> exact rfl
  · (simp only [go_sem, hpE, extP, tmE, zipSet, cX_eq, cW_eq, hrp, hrq]) <;> exact rfl
  · exact sl_equal _ _
  apply W_run
  · (simp only [go_sem, hpE, extP, tmE, zipSet, cX_eq, cW_eq, hrp, hrq]) <;> exact rfl
  apply W_nil
  apply K_seq
  apply T_if
  · (simp only [go_sem, hpE, extP, tmE, zipSet, cX_eq, cW_eq, hrp, hrq]) <;> exact rfl
  · intro bh0t
    have h0t := bh0t
    try simp only [CS] at h0t
    try simp only [BS] at bh0t
    try exact absurd bh0t (by decide)
    all_goals (
  have hpv : M.pleases t p q = false := by
    rw [← Bool.not_eq_true, hpi]
    intro h
    exact h.1 h0t.symm
  apply T_exit
  apply K_seqE
  apply K_blkE
  apply round_normal
  · (simp only [go_sem, hpE, extP, tmE, zipSet, cX_eq, cW_eq, hrp, hrq, bh0t, hpv]) <;> exact rfl
  · simp only [go_sem, hpE, extP, tmE, zipSet, cX_eq, cW_eq, hrp, hrq, bh0t, hpv]
  · simp only [go_sem, hpE, extP, tmE, zipSet, cX_eq, cW_eq, hrp, hrq, bh0t, hpv]
  · simp only [go_sem, hpE, extP, tmE, zipSet, cX_eq, cW_eq, hrp, hrq, bh0t, hpv]
  · rw [hpv]
    first | exact cloE ho | exact cloE (sl_all q))
  · intro bh0f
    have h0f := bh0f
    try simp only [CS] at h0f
    try simp only [BS] at bh0f
    try exact absurd bh0f (by decide)
    all_goals (
  apply T_skip
  apply K_seq
  apply T_seq
  apply T_seq
  apply T_wL F [0, 1, 2, 3, 4, 5] rfl
  apply W_pre [0, 1, 2] [3, 4, 5]
  · (simp only [go_sem, hpE, extP, tmE, zipSet, cX_eq, cW_eq, hrp, hrq, bh0f]) <;> exact rfl
  apply W_call -- call 1 of function 50
  · (simp only [go_sem, hpE, extP, tmE, zipSet, cX_eq, cW_eq, hrp, hrq, bh0f]) <;> exact rfl
  · (simp only [go_sem, hpE, extP, tmE, zipSet, cX_eq, cW_eq, hrp, hrq, bh0f]) <;> exact rfl
  · exact rfl
  · (simp only [go_sem, hpE, extP, tmE, zipSet, cX_eq, cW_eq, hrp, hrq, bh0f]) <;> exact rfl
  · (simp only [go_sem, hpE, extP, tmE, zipSet, cX_eq, cW_eq, hrp, hrq, bh0f]) <;> exact rfl
  · exact ⟨_, Try.func50, rfl, rfl⟩
  · (simp only [go_sem, hpE, extP, tmE, zipSet, cX_eq, cW_eq, hrp, hrq, bh0f]) <;> exact rfl
  · (simp only [go_sem, hpE, extP, tmE, zipSet, cX_eq, cW_eq, hrp, hrq, bh0f]) <;> exact rfl
  · exact mv_ranks _ _ (by omega) (by omega)
  apply W_run
  · (simp only [go_sem, hpE, extP, tmE, zipSet, cX_eq, cW_eq, hrp, hrq, bh0f]) <;> exact rfl
  apply W_nil
  apply K_seq
  apply T_block
  apply T_lp (α := Nat) [false, false, false, true, true, true, false, false, true, true, false, false, false, false, false, false, false, false, false, false, false, false, false, false, false, false, false, false, false, false, false, true, true, true, false, false, false, false, false, false, false, false, false, false, false, false, false, false, false, false, false, false, false, false, false, false, false] (fun k => (⟨[.undef, .undef, .undef, .ptr 1 0, .ptr 2 0, .ptr 3 0, .undef, .undef, .ptr 5 0, .sl 1 (rI q), .undef, .undef, .undef, .undef, .undef, .undef, .undef, .undef, .undef, .undef, .undef, .undef, .undef, .undef, .undef, .undef, .undef, .undef, .undef, .undef, .undef, .sl 1 (rI (M.ranks t q)), .int .i64 (q.length : Int), .int .i64 (k : Int), .undef, .undef, .undef, .undef, .undef, .undef, .undef, .undef, .undef, .undef, .undef, .undef, .undef, .undef, .undef, .undef, .undef, .undef, .undef, .undef, .undef, .undef, .undef], hpE t p o .busy none ++ extP t (.sl 1 (rI p)) 6 7⟩ : St)) (fun k => k ≤ q.length ∧ ∀ j (h1 : j < p.length) (h2 : j < q.length), j < k → p[j] = q[j] ∨ M.rank t j q[j] < M.rank t j p[j]) (fun k => q.length - k) (0)
  · (simp only [go_sem, hpE, extP, tmE, zipSet, cX_eq, cW_eq, hrp, hrq, bh0f]) <;> exact rfl
  · simp
  · rintro k ⟨hk, hj⟩
    apply T_seq
    apply T_r F
    · (simp only [go_sem, hpE, extP, tmE, zipSet, cX_eq, cW_eq, hrp, hrq, bh0f]) <;> exact rfl
    apply K_seq
    apply T_seq
    apply T_if
    · (simp only [go_sem, hpE, extP, tmE, zipSet, cX_eq, cW_eq, hrp, hrq, bh0f]) <;> exact rfl
    · intro bh1t
      have h1t := bh1t
      try simp only [CS] at h1t
      try simp only [BS] at bh1t
      try exact absurd bh1t (by decide)
      all_goals (
  have hb : k < 9223372036854775807 := by omega
  have hkp : k < p.length := by omega
  have hr1 : k < (M.ranks t q).length := by omega
  have hr2 : k < (M.ranks t p).length := by omega
  have hg1 := M.rank_len (t := t) h1t
  have hg2 := M.rank_len (t := t) hkp
  apply T_skip
  apply K_seq
  apply T_seq
  apply T_block
  apply T_seq
  apply T_r F
  · (simp only [go_sem, hpE, extP, tmE, zipSet, cX_eq, cW_eq, hrp, hrq, bh0f, bh1t, h1t, hb, rI_get hr1, hr1, rI_get hr2, hr2, rI_get h1t, rI_get hkp, hkp, hg1, hg2]) <;> exact rfl
  apply K_seq
  apply T_seq
  apply T_qL F [0, 1, 2, 3, 4, 5, 6, 7, 8, 9, 10, 11, 12, 13, 14, 15, 16] rfl (by kernel_rfl)
  apply Q_pre [0, 1, 2, 3] [4, 5, 6, 7, 8, 9, 10, 11, 12, 13, 14, 15, 16]
  · (simp only [go_sem, hpE, extP, tmE, zipSet, cX_eq, cW_eq, hrp, hrq, bh0f, bh1t, h1t, hb, rI_get hr1, hr1, rI_get hr2, hr2, rI_get h1t, rI_get hkp, hkp, hg1, hg2]) <;> exact rfl
  apply Q_pre [4, 5, 6, 7, 8, 9] [10, 11, 12, 13, 14, 15, 16]
  · (simp only [go_sem, hpE, extP, tmE, zipSet, cX_eq, cW_eq, hrp, hrq, bh0f, bh1t, h1t, hb, rI_get hr1, hr1, rI_get hr2, hr2, rI_get h1t, rI_get hkp, hkp, hg1, hg2]) <;> exact rfl
  apply Q_guard
  · (simp only [go_sem, hpE, extP, tmE, zipSet, cX_eq, cW_eq, hrp, hrq, bh0f, bh1t, h1t, hb, rI_get hr1, hr1, rI_get hr2, hr2, rI_get h1t, rI_get hkp, hkp, hg1, hg2]) <;> exact rfl
  · (simp only [go_sem, hpE, extP, tmE, zipSet, cX_eq, cW_eq, hrp, hrq, bh0f, bh1t, h1t, hb, rI_get hr1, hr1, rI_get hr2, hr2, rI_get h1t, rI_get hkp, hkp, hg1, hg2]) <;> exact rfl
  · intro bg0t
    have g0t := bg0t
    try simp only [CS] at g0t
    try simp only [BS] at bg0t
    try exact absurd bg0t (by decide)
    all_goals (
  apply Q_pre [10, 11, 12, 13] [14, 15, 16]
  · (simp only [go_sem, hpE, extP, tmE, zipSet, cX_eq, cW_eq, hrp, hrq, bh0f, bh1t, h1t, hb, rI_get hr1, hr1, rI_get hr2, hr2, rI_get h1t, rI_get hkp, hkp, hg1, hg2, bg0t]) <;> exact rfl
  apply Q_run
  · (simp only [go_sem, hpE, extP, tmE, zipSet, cX_eq, cW_eq, hrp, hrq, bh0f, bh1t, h1t, hb, rI_get hr1, hr1, rI_get hr2, hr2, rI_get h1t, rI_get hkp, hkp, hg1, hg2, bg0t]) <;> exact rfl
  apply Q_nil
  apply K_seq
  apply T_if
  · (simp only [go_sem, hpE, extP, tmE, zipSet, cX_eq, cW_eq, hrp, hrq, bh0f, bh1t, h1t, hb, rI_get hr1, hr1, rI_get hr2, hr2, rI_get h1t, rI_get hkp, hkp, hg1, hg2, bg0t]) <;> exact rfl
  · intro bh2t
    have h2t := bh2t
    try simp only [CS] at h2t
    try simp only [BS] at bh2t
    try exact absurd bh2t (by decide)
    all_goals (
  have hpv : M.pleases t p q = false := by
    rw [← Bool.not_eq_true, hpi]
    intro h
    have := h.2 k hkp h1t
    grind
  apply T_exit
  apply K_blkX rfl
  apply K_seqE
  apply K_lpE
  apply K_blkX rfl
  apply K_seqE
  apply K_blkE
  apply round_normal
  · (simp only [go_sem, hpE, extP, tmE, zipSet, cX_eq, cW_eq, hrp, hrq, bh0f, bh1t, h1t, hb, rI_get hr1, hr1, rI_get hr2, hr2, rI_get h1t, rI_get hkp, hkp, hg1, hg2, bg0t, bh2t, hpv]) <;> exact rfl
  · simp only [go_sem, hpE, extP, tmE, zipSet, cX_eq, cW_eq, hrp, hrq, bh0f, bh1t, h1t, hb, rI_get hr1, hr1, rI_get hr2, hr2, rI_get h1t, rI_get hkp, hkp, hg1, hg2, bg0t, bh2t, hpv]
  · simp only [go_sem, hpE, extP, tmE, zipSet, cX_eq, cW_eq, hrp, hrq, bh0f, bh1t, h1t, hb, rI_get hr1, hr1, rI_get hr2, hr2, rI_get h1t, rI_get hkp, hkp, hg1, hg2, bg0t, bh2t, hpv]
  · simp only [go_sem, hpE, extP, tmE, zipSet, cX_eq, cW_eq, hrp, hrq, bh0f, bh1t, h1t, hb, rI_get hr1, hr1, rI_get hr2, hr2, rI_get h1t, rI_get hkp, hkp, hg1, hg2, bg0t, bh2t, hpv]
  · rw [hpv]
    first | exact cloE ho | exact cloE (sl_all q))
  · intro bh2f
    have h2f := bh2f
    try simp only [CS] at h2f
    try simp only [BS] at bh2f
    try exact absurd bh2f (by decide)
    all_goals (
  apply T_skip
  apply K_blk
  apply K_seq
  apply T_r F
  · (simp only [go_sem, hpE, extP, tmE, zipSet, cX_eq, cW_eq, hrp, hrq, bh0f, bh1t, h1t, hb, rI_get hr1, hr1, rI_get hr2, hr2, rI_get h1t, rI_get hkp, hkp, hg1, hg2, bg0t, bh2f]) <;> exact rfl
  refine K_lp (k + 1) ?_ ?_
  · (simp only [go_sem, hpE, extP, tmE, zipSet, cX_eq, cW_eq, hrp, hrq, bh0f, bh1t, h1t, hb, rI_get hr1, hr1, rI_get hr2, hr2, rI_get h1t, rI_get hkp, hkp, hg1, hg2, bg0t, bh2f]) <;> exact rfl
  -- leaf 0 (loop0)
  grind))
  · intro bg0f
    have g0f := bg0f
    try simp only [CS] at g0f
    try simp only [BS] at bg0f
    try exact absurd bg0f (by decide)
    all_goals (
  apply Q_pre [10, 11, 12, 13] [14, 15, 16]
  · (simp only [go_sem, hpE, extP, tmE, zipSet, cX_eq, cW_eq, hrp, hrq, bh0f, bh1t, h1t, hb, rI_get hr1, hr1, rI_get hr2, hr2, rI_get h1t, rI_get hkp, hkp, hg1, hg2, bg0f]) <;> exact rfl
  apply Q_run
  · (simp only [go_sem, hpE, extP, tmE, zipSet, cX_eq, cW_eq, hrp, hrq, bh0f, bh1t, h1t, hb, rI_get hr1, hr1, rI_get hr2, hr2, rI_get h1t, rI_get hkp, hkp, hg1, hg2, bg0f]) <;> exact rfl
  apply Q_nil
  apply K_seq
  apply T_if
  · (simp only [go_sem, hpE, extP, tmE, zipSet, cX_eq, cW_eq, hrp, hrq, bh0f, bh1t, h1t, hb, rI_get hr1, hr1, rI_get hr2, hr2, rI_get h1t, rI_get hkp, hkp, hg1, hg2, bg0f]) <;> exact rfl
  · intro bh3t
    exact absurd bh3t (by simp)
  · intro bh3f
    have h3f := bh3f
    try simp only [CS] at h3f
    try simp only [BS] at bh3f
    try exact absurd bh3f (by decide)
    all_goals (
  apply T_skip
  apply K_blk
  apply K_seq
  apply T_r F
  · (simp only [go_sem, hpE, extP, tmE, zipSet, cX_eq, cW_eq, hrp, hrq, bh0f, bh1t, h1t, hb, rI_get hr1, hr1, rI_get hr2, hr2, rI_get h1t, rI_get hkp, hkp, hg1, hg2, bg0f, bh3f]) <;> exact rfl
  refine K_lp (k + 1) ?_ ?_
  · (simp only [go_sem, hpE, extP, tmE, zipSet, cX_eq, cW_eq, hrp, hrq, bh0f, bh1t, h1t, hb, rI_get hr1, hr1, rI_get hr2, hr2, rI_get h1t, rI_get hkp, hkp, hg1, hg2, bg0f, bh3f]) <;> exact rfl
  -- leaf 1 (loop0)
  grind)))
    · intro bh1f
      have h1f := bh1f
      try simp only [CS] at h1f
      try simp only [BS] at bh1f
      try exact absurd bh1f (by decide)
      all_goals (
  have hpv : M.pleases t p q = true := by
    rw [hpi]
    exact ⟨fun e => h0f e.symm, fun j h1 h2 => hj j h1 h2 (by omega)⟩
  apply T_exit
  apply K_seqE
  apply K_lpE
  apply K_blkE
  apply K_seq
  apply T_seq
  apply T_r F
  · (simp only [go_sem, hpE, extP, tmE, zipSet, cX_eq, cW_eq, hrp, hrq, bh0f, bh1f, hpv]) <;> exact rfl
  apply K_seq
  apply T_ret
  apply K_blkR
  apply round_ret
  · (simp only [go_sem, hpE, extP, tmE, zipSet, cX_eq, cW_eq, hrp, hrq, bh0f, bh1f, hpv]) <;> exact rfl
  · simp only [go_sem, hpE, extP, tmE, zipSet, cX_eq, cW_eq, hrp, hrq, bh0f, bh1f, hpv]
  · simp only [go_sem, hpE, extP, tmE, zipSet, cX_eq, cW_eq, hrp, hrq, bh0f, bh1f, hpv]
  · simp only [go_sem, hpE, extP, tmE, zipSet, cX_eq, cW_eq, hrp, hrq, bh0f, bh1f, hpv]
  · rw [hpv]
    first | exact cloE ho | exact cloE (sl_all q)))


theorem feedE {t : Town} {p : List Int} (ok : M.Ok t) (hp : M.plan t p = true) : ∀ (l : List (List Int)), (∀ q ∈ l, q ∈ M.plans t) →
    (l.find? (M.pleases t p) = none → FeedP t (.sl 1 (rI p)) 6 7 8 9 10 l (hpE t p .nil .ready none ++ extP t (.sl 1 (rI p)) 6 7) true (hpE t p .nil .ready none ++ extP t (.sl 1 (rI p)) 6 7)) ∧
    (∀ q, l.find? (M.pleases t p) = some q → FeedP t (.sl 1 (rI p)) 6 7 8 9 10 l (hpE t p .nil .ready none ++ extP t (.sl 1 (rI p)) 6 7) false (hpE t p (.sl 1 (rI q)) .done (some .ret) ++ extP t (.sl 1 (rI p)) 6 7))
  | [], _ => ⟨fun _ => .nil ⟨cloE (fun _ => rfl), rfl, rfl, rfl, rfl⟩, fun q h => by simp at h⟩
  | x :: l, hl => by
    have hx := mv_exchY t p x .nil ok hp (M.mem_plans.1 (hl x (by simp))).1 (fun _ => rfl)
    have ih := feedE ok hp l (fun q hq => hl q (by simp [hq]))
    rw [List.find?_cons]
    cases hpv : M.pleases t p x with
    | true =>
      refine ⟨fun h => by simp at h, fun q h => ?_⟩
      simp only [Option.some.injEq] at h; subst h
      rw [hpv, if_pos rfl] at hx
      exact .stop ⟨cloE (fun _ => rfl), rfl, rfl, rfl, rfl⟩ ⟨cloE (sl_all x), rfl, rfl, rfl, rfl⟩ hx
    | false =>
      rw [hpv, if_neg (by simp)] at hx
      exact ⟨fun h => .go ⟨cloE (fun _ => rfl), rfl, rfl, rfl, rfl⟩ hx (ih.1 h), fun q h => .go ⟨cloE (fun _ => rfl), rfl, rfl, rfl, rfl⟩ hx (ih.2 q h)⟩
def M.exch (t : Town) (p : List Int) : Option (List Int) := (M.plans t).find? (M.pleases t p)

theorem mv_ExchangeA (t : Town) (p : List Int) (hh : t.houses.length ≤ 1000) (he : (M.err t p != 0) = true) : Ret Try.prog 20 [.agg (cT t), .sl 1 (rI p)] (.tup [.nil, .int .i64 (M.err t p)]) := by
  refine Ret.of_fits fun hfits => ?_
  simp only [V.fits, V.fitsL, V.fitsR, cT_fits] at hfits
  have hsl := hfits.1.schools
  apply Ret_fin (fn := Try.f20) Try.func20 rfl
  apply T_seq
  apply T_r F
  · (simp only [go_sem, Try.ntmps20, cX_eq, cW_eq, he]) <;> exact rfl
  apply K_seq
  apply T_scope
  apply T_seq
  apply T_r F
  · (simp only [go_sem, Try.ntmps20, cX_eq, cW_eq, he]) <;> exact rfl
  apply K_seq
  apply T_seq
  apply T_seq
  apply T_wL F [0, 1, 2] rfl
  apply W_pre [0] [1, 2]
  · (simp only [go_sem, Try.ntmps20, cX_eq, cW_eq, he]) <;> exact rfl
  apply W_call -- call 0 of function 49
  · (simp only [go_sem, Try.ntmps20, cX_eq, cW_eq, he]) <;> exact rfl
  · (simp only [go_sem, Try.ntmps20, cX_eq, cW_eq, he]) <;> exact rfl
  · exact rfl
  · (simp only [go_sem, Try.ntmps20, cX_eq, cW_eq, he]) <;> exact rfl
  · (simp only [go_sem, Try.ntmps20, cX_eq, cW_eq, he]) <;> exact rfl
  · exact ⟨_, Try.func49, rfl, rfl⟩
  · (simp only [go_sem, Try.ntmps20, cX_eq, cW_eq, he]) <;> exact rfl
  · (simp only [go_sem, Try.ntmps20, cX_eq, cW_eq, he]) <;> exact rfl
  · exact mv_allowed _ _ (by omega)
  apply W_run
  · (simp only [go_sem, Try.ntmps20, cX_eq, cW_eq, he]) <;> exact rfl
  apply W_nil
  apply K_seq
  apply T_seq
  apply T_r F
  · (simp only [go_sem, Try.ntmps20, cX_eq, cW_eq, he]) <;> exact rfl
  apply K_seq
  apply T_ifT -- h0
  · (simp only [go_sem, Try.ntmps20, cX_eq, cW_eq, he]) <;> exact rfl
  apply T_seq
  apply T_r F
  · (simp only [go_sem, Try.ntmps20, cX_eq, cW_eq, he]) <;> exact rfl
  apply K_seq
  apply T_ret
  apply K_seqR
  apply K_scopeR
  apply fin_ret
  · (simp only [go_sem, Try.ntmps20, cX_eq, cW_eq, he, Try.f20]) <;> exact rfl
  -- leaf 0 (ret)
  
  all_goals rfl

theorem mv_ExchangeB (t : Town) (p : List Int) (hh : t.houses.length ≤ 1000) (he : M.err t p = 0) (hf : M.exch t p = none) : Ret Try.prog 20 [.agg (cT t), .sl 1 (rI p)] (.tup [.nil, .int .i64 5]) := by
  refine Ret.of_fits fun hfits => ?_
  simp only [V.fits, V.fitsL, V.fitsR, cT_fits] at hfits
  have hsl := hfits.1.schools
  have hop : M.Ok t ∧ M.plan t p = true := by
    unfold M.err at he
    split at he
    · assumption
    · exact absurd he (by decide)
  have ok := hop.1
  have hp := hop.2
  have hpl := (M.plan_iff.1 hp).1
  have h6 := M.houses_le ok
  apply Ret_fin (fn := Try.f20) Try.func20 rfl
  apply T_seq
  apply T_r F
  · (simp only [go_sem, Try.ntmps20, cX_eq, cW_eq, he, hpE, tmE]) <;> exact rfl
  apply K_seq
  apply T_scope
  apply T_seq
  apply T_r F
  · (simp only [go_sem, Try.ntmps20, cX_eq, cW_eq, he, hpE, tmE]) <;> exact rfl
  apply K_seq
  apply T_seq
  apply T_seq
  apply T_wL F [0, 1, 2] rfl
  apply W_pre [0] [1, 2]
  · (simp only [go_sem, Try.ntmps20, cX_eq, cW_eq, he, hpE, tmE]) <;> exact rfl
  apply W_call -- call 0 of function 49
  · (simp only [go_sem, Try.ntmps20, cX_eq, cW_eq, he, hpE, tmE]) <;> exact rfl
  · (simp only [go_sem, Try.ntmps20, cX_eq, cW_eq, he, hpE, tmE]) <;> exact rfl
  · exact rfl
  · (simp only [go_sem, Try.ntmps20, cX_eq, cW_eq, he, hpE, tmE]) <;> exact rfl
  · (simp only [go_sem, Try.ntmps20, cX_eq, cW_eq, he, hpE, tmE]) <;> exact rfl
  · exact ⟨_, Try.func49, rfl, rfl⟩
  · (simp only [go_sem, Try.ntmps20, cX_eq, cW_eq, he, hpE, tmE]) <;> exact rfl
  · (simp only [go_sem, Try.ntmps20, cX_eq, cW_eq, he, hpE, tmE]) <;> exact rfl
  · exact mv_allowed _ _ (by omega)
  apply W_run
  · (simp only [go_sem, Try.ntmps20, cX_eq, cW_eq, he, hpE, tmE]) <;> exact rfl
  apply W_nil
  apply K_seq
  apply T_seq
  apply T_r F
  · (simp only [go_sem, Try.ntmps20, cX_eq, cW_eq, he, hpE, tmE]) <;> exact rfl
  apply K_seq
  apply T_ifF -- h0
  · (simp only [go_sem, Try.ntmps20, cX_eq, cW_eq, he, hpE, tmE]) <;> exact rfl
  apply T_skip
  apply K_seq
  apply T_seq
  apply T_wL F [0, 1, 2, 3] rfl
  apply W_pre [0] [1, 2, 3]
  · (simp only [go_sem, Try.ntmps20, cX_eq, cW_eq, he, hpE, tmE]) <;> exact rfl
  apply W_call -- call 1 of function 50
  · (simp only [go_sem, Try.ntmps20, cX_eq, cW_eq, he, hpE, tmE]) <;> exact rfl
  · (simp only [go_sem, Try.ntmps20, cX_eq, cW_eq, he, hpE, tmE]) <;> exact rfl
  · exact rfl
  · (simp only [go_sem, Try.ntmps20, cX_eq, cW_eq, he, hpE, tmE]) <;> exact rfl
  · (simp only [go_sem, Try.ntmps20, cX_eq, cW_eq, he, hpE, tmE]) <;> exact rfl
  · exact ⟨_, Try.func50, rfl, rfl⟩
  · (simp only [go_sem, Try.ntmps20, cX_eq, cW_eq, he, hpE, tmE]) <;> exact rfl
  · (simp only [go_sem, Try.ntmps20, cX_eq, cW_eq, he, hpE, tmE]) <;> exact rfl
  · exact mv_ranks _ _ (by omega) (by omega)
  apply W_run
  · (simp only [go_sem, Try.ntmps20, cX_eq, cW_eq, he, hpE, tmE]) <;> exact rfl
  apply W_nil
  apply K_seq
  apply T_seq
  apply T_label
  apply K_seq
  apply T_seq
  apply T_seq
  apply T_r F
  · (simp only [go_sem, Try.ntmps20, cX_eq, cW_eq, he, hpE, tmE]) <;> exact rfl
  apply K_seq
  apply T_block
  apply T_rangeFunc -- range 0
  · (simp only [go_sem, Try.ntmps20, cX_eq, cW_eq, he, hpE, tmE]) <;> exact rfl
  · exact ⟨_, Try.func51, rfl, rfl⟩
  · exact (mv_plans (h := hpE t p .nil .ready none) (h1 := hpE t p (.nil) .ready (none)) (b := true) (PlV.sl p) ok hh hsl (hpE_closed (fun _ => rfl)) rfl ((feedE ok hp (M.plans t) (fun q hq => hq)).1 hf) : RetS Try.prog 51 [.agg (cX t (.sl 1 (rI p))), .yield 6] (hpE t p .nil .ready none) (.tup []) (hpE t p (.nil) .ready (none)))
  · (simp only [go_sem, Try.ntmps20, cX_eq, cW_eq, he, hpE, tmE]) <;> exact rfl
  · simp
  simp only [contK]
  apply K_blk
  apply K_seq
  apply T_seq
  apply T_r F
  · (simp only [go_sem, Try.ntmps20, cX_eq, cW_eq, he, hpE, tmE]) <;> exact rfl
  apply K_seq
  apply T_ret
  apply K_scopeR
  apply fin_ret
  · (simp only [go_sem, Try.ntmps20, cX_eq, cW_eq, he, hpE, tmE, Try.f20]) <;> exact rfl
  -- leaf 0 (ret)
  
  all_goals rfl

theorem mv_ExchangeC (t : Town) (p : List Int) (hh : t.houses.length ≤ 1000) (he : M.err t p = 0) (q : List Int) (hf : M.exch t p = some q) : Ret Try.prog 20 [.agg (cT t), .sl 1 (rI p)] (.tup [.sl 1 (rI q), .int .i64 0]) := by
  refine Ret.of_fits fun hfits => ?_
  simp only [V.fits, V.fitsL, V.fitsR, cT_fits] at hfits
  have hsl := hfits.1.schools
  have hop : M.Ok t ∧ M.plan t p = true := by
    unfold M.err at he
    split at he
    · assumption
    · exact absurd he (by decide)
  have ok := hop.1
  have hp := hop.2
  have hpl := (M.plan_iff.1 hp).1
  have h6 := M.houses_le ok
  apply Ret_fin (fn := Try.f20) Try.func20 rfl
  apply T_seq
  apply T_r F
  · (simp only [go_sem, Try.ntmps20, cX_eq, cW_eq, he, hpE, tmE]) <;> exact rfl
  apply K_seq
  apply T_scope
  apply T_seq
  apply T_r F
  · (simp only [go_sem, Try.ntmps20, cX_eq, cW_eq, he, hpE, tmE]) <;> exact rfl
  apply K_seq
  apply T_seq
  apply T_seq
  apply T_wL F [0, 1, 2] rfl
  apply W_pre [0] [1, 2]
  · (simp only [go_sem, Try.ntmps20, cX_eq, cW_eq, he, hpE, tmE]) <;> exact rfl
  apply W_call -- call 0 of function 49
  · (simp only [go_sem, Try.ntmps20, cX_eq, cW_eq, he, hpE, tmE]) <;> exact rfl
  · (simp only [go_sem, Try.ntmps20, cX_eq, cW_eq, he, hpE, tmE]) <;> exact rfl
  · exact rfl
  · (simp only [go_sem, Try.ntmps20, cX_eq, cW_eq, he, hpE, tmE]) <;> exact rfl
  · (simp only [go_sem, Try.ntmps20, cX_eq, cW_eq, he, hpE, tmE]) <;> exact rfl
  · exact ⟨_, Try.func49, rfl, rfl⟩
  · (simp only [go_sem, Try.ntmps20, cX_eq, cW_eq, he, hpE, tmE]) <;> exact rfl
  · (simp only [go_sem, Try.ntmps20, cX_eq, cW_eq, he, hpE, tmE]) <;> exact rfl
  · exact mv_allowed _ _ (by omega)
  apply W_run
  · (simp only [go_sem, Try.ntmps20, cX_eq, cW_eq, he, hpE, tmE]) <;> exact rfl
  apply W_nil
  apply K_seq
  apply T_seq
  apply T_r F
  · (simp only [go_sem, Try.ntmps20, cX_eq, cW_eq, he, hpE, tmE]) <;> exact rfl
  apply K_seq
  apply T_ifF -- h0
  · (simp only [go_sem, Try.ntmps20, cX_eq, cW_eq, he, hpE, tmE]) <;> exact rfl
  apply T_skip
  apply K_seq
  apply T_seq
  apply T_wL F [0, 1, 2, 3] rfl
  apply W_pre [0] [1, 2, 3]
  · (simp only [go_sem, Try.ntmps20, cX_eq, cW_eq, he, hpE, tmE]) <;> exact rfl
  apply W_call -- call 1 of function 50
  · (simp only [go_sem, Try.ntmps20, cX_eq, cW_eq, he, hpE, tmE]) <;> exact rfl
  · (simp only [go_sem, Try.ntmps20, cX_eq, cW_eq, he, hpE, tmE]) <;> exact rfl
  · exact rfl
  · (simp only [go_sem, Try.ntmps20, cX_eq, cW_eq, he, hpE, tmE]) <;> exact rfl
  · (simp only [go_sem, Try.ntmps20, cX_eq, cW_eq, he, hpE, tmE]) <;> exact rfl
  · exact ⟨_, Try.func50, rfl, rfl⟩
  · (simp only [go_sem, Try.ntmps20, cX_eq, cW_eq, he, hpE, tmE]) <;> exact rfl
  · (simp only [go_sem, Try.ntmps20, cX_eq, cW_eq, he, hpE, tmE]) <;> exact rfl
  · exact mv_ranks _ _ (by omega) (by omega)
  apply W_run
  · (simp only [go_sem, Try.ntmps20, cX_eq, cW_eq, he, hpE, tmE]) <;> exact rfl
  apply W_nil
  apply K_seq
  apply T_seq
  apply T_label
  apply K_seq
  apply T_seq
  apply T_seq
  apply T_r F
  · (simp only [go_sem, Try.ntmps20, cX_eq, cW_eq, he, hpE, tmE]) <;> exact rfl
  apply K_seq
  apply T_block
  apply T_rangeFunc -- range 0
  · (simp only [go_sem, Try.ntmps20, cX_eq, cW_eq, he, hpE, tmE]) <;> exact rfl
  · exact ⟨_, Try.func51, rfl, rfl⟩
  · exact (mv_plans (h := hpE t p .nil .ready none) (h1 := hpE t p (.sl 1 (rI q)) .done (some .ret)) (b := false) (PlV.sl p) ok hh hsl (hpE_closed (sl_all q)) rfl ((feedE ok hp (M.plans t) (fun q hq => hq)).2 q hf) : RetS Try.prog 51 [.agg (cX t (.sl 1 (rI p))), .yield 6] (hpE t p .nil .ready none) (.tup []) (hpE t p (.sl 1 (rI q)) .done (some .ret)))
  · (simp only [go_sem, Try.ntmps20, cX_eq, cW_eq, he, hpE, tmE]) <;> exact rfl
  · simp
  apply T_ret
  apply K_blkR
  apply K_seqR
  apply K_scopeR
  apply fin_ret
  · (simp only [go_sem, Try.ntmps20, cX_eq, cW_eq, he, hpE, tmE, Try.f20]) <;> exact rfl
  -- leaf 0 (ret)
  simp only [go_sem, Try.ntmps20, cX_eq, cW_eq, he, hpE, tmE, V.bool.injEq, V.int.injEq, true_and]
  all_goals rfl

end Go.Ab
namespace Go.Ab
open Go Go.RowKit Go.Proofs
set_option linter.unusedVariables false
namespace M
/-! ### pleased, as the law reads it -/
def betterL (w : List Int) (x y : Int) : Bool := (w.takeWhile (fun z => !(z == x))).contains y
def plAt (t : Town) (p q : List Int) (i : Nat) : Bool := at' p i == at' q i || betterL (hs t i).wishes (at' p i) (at' q i)
def pleasedL (t : Town) (p q : List Int) : Bool := (List.range p.length).all (plAt t p q) && differ p q
theorem pleasedL_no {t : Town} {p q : List Int} {k : Nat} (hk : k < p.length) (h : plAt t p q k = false) : pleasedL t p q = false := by
  unfold pleasedL
  rw [Bool.and_eq_false_iff]
  left
  rw [List.all_eq_false]
  exact ⟨k, List.mem_range.2 hk, by simp [h]⟩
theorem betterL_eq {x y : Int} : ∀ {j : Nat} {w : List Int}, (∀ i, i < j → w[i]? ≠ some x) → j ≤ w.length → (w.length ≤ j ∨ w[j]? = some x) → betterL w x y = (w.take j).contains y
  | 0, w, _, _, he => by
    cases w with
    | nil => rfl
    | cons a w =>
      rcases he with he | he
      · simp at he
      · simp only [List.getElem?_cons_zero, Option.some.injEq] at he; subst he
        simp [betterL]
  | j + 1, w, h, hj, he => by
    cases w with
    | nil => simp at hj
    | cons a w =>
      have ha : a ≠ x := fun e => h 0 (by omega) (by simp [e])
      have ih := betterL_eq (x := x) (y := y) (j := j) (w := w) (fun i hi => by simpa using h (i + 1) (by omega)) (by simpa using hj) (by simpa using he)
      unfold betterL at ih ⊢
      rw [List.takeWhile_cons]
      simp only [ha, Bool.not_eq_true', beq_eq_false_iff_ne, ne_eq, not_false_eq_true, if_true, List.take_succ_cons, List.contains_cons]
      rw [ih]
theorem contains_take {w : List Int} {y : Int} {j : Nat} (h : j < w.length) : (w.take (j + 1)).contains y = ((w.take j).contains y || w[j] == y) := by
  rw [List.take_succ_eq_append_getElem h, Bool.eq_iff_iff]
  simp only [List.contains_iff_mem, List.mem_append, List.mem_singleton, Bool.or_eq_true, beq_iff_eq]
  constructor
  · rintro (h | h)
    · exact .inl h
    · exact .inr h.symm
  · rintro (h | h)
    · exact .inl h
    · exact .inr h.symm
theorem pos_some {w : List Int} {y : Int} {k : Nat} : pos w y = some k ↔ ∃ h : k < w.length, w[k] = y ∧ ∀ j (hj : j < k), w[j] ≠ y := by
  unfold pos
  rw [List.findIdx?_eq_some_iff_getElem]
  simp
theorem contains_pos {w : List Int} {y : Int} {k ky : Nat} (h : pos w y = some ky) : (w.take k).contains y = decide (ky < k) := by
  obtain ⟨h1, h2, h3⟩ := pos_some.1 h
  rw [Bool.eq_iff_iff, List.contains_iff_mem, decide_eq_true_eq, List.mem_take_iff_getElem]
  constructor
  · rintro ⟨i, hi, rfl⟩
    rcases Nat.lt_or_ge i ky with h' | h'
    · exact absurd rfl (h3 i h')
    · omega
  · intro hlt
    exact ⟨ky, by omega, h2⟩
theorem contains_none {w : List Int} {y : Int} (h : pos w y = none) (k : Nat) : (w.take k).contains y = false := by
  rw [← Bool.not_eq_true, List.contains_iff_mem]
  intro hm
  unfold pos at h
  rw [List.findIdx?_eq_none_iff] at h
  have := h y (List.mem_of_mem_take hm)
  simp at this
theorem betterL_rank {t : Town} {i : Nat} {x y : Int} (hx : 0 ≤ rank t i x) (hy : 0 ≤ rank t i y) : betterL (hs t i).wishes x y = decide (rank t i y < rank t i x) := by
  rw [Bool.eq_iff_iff, decide_eq_true_eq]
  unfold rank hs at *
  cases hh : t.houses[i]? with
  | none => simp [hh] at hx
  | some h =>
    simp only [hh, Option.getD_some] at hx hy ⊢
    have key : ∀ j, (∀ i, i < j → h.wishes[i]? ≠ some x) → j ≤ h.wishes.length → (h.wishes.length ≤ j ∨ h.wishes[j]? = some x) → betterL h.wishes x y = (h.wishes.take j).contains y := fun j => betterL_eq
    cases px : pos h.wishes x with
    | some kx =>
      obtain ⟨h1, h2, h3⟩ := pos_some.1 px
      rw [key kx (fun i hi => by rw [List.getElem?_eq_getElem (by omega)]; simpa using h3 i hi) (by omega) (.inr (by rw [List.getElem?_eq_getElem h1, h2]))]
      cases py : pos h.wishes y with
      | some ky => rw [contains_pos py]; simp
      | none =>
        rw [contains_none py]
        rw [py] at hy
        simp only at hy ⊢
        split at hy
        · rename_i hl
          simp only [hl, if_true]; simp; omega
        · omega
    | none =>
      have hn : ∀ i, i < h.wishes.length → h.wishes[i]? ≠ some x := fun i hi e => by
        unfold pos at px
        rw [List.findIdx?_eq_none_iff] at px
        have := px x (List.mem_of_getElem? e)
        simp at this
      rw [key h.wishes.length hn (Nat.le_refl _) (.inl (Nat.le_refl _))]
      rw [px] at hx
      simp only at hx ⊢
      split at hx
      · rename_i hl
        cases py : pos h.wishes y with
        | some ky =>
          obtain ⟨h1, _⟩ := pos_some.1 py
          rw [contains_pos py]; simp [hl]
        | none =>
          rw [contains_none py]
          rw [py] at hy
          simp only at hy ⊢
          split at hy
          · rename_i hl'; rw [if_pos hl, if_pos hl']; simp
          · omega
      · omega
theorem allowed_rank {t : Town} {p : List Int} (ha : allowed t p = true) {i : Nat} (hi : i < p.length) : 0 ≤ rank t i (at' p i) := by
  have := ((allowed_iff.1 ha).1 i hi).2.2.1
  unfold unwished at this
  simpa using this
theorem pleasedL_eq {t : Town} {p q : List Int} (hl : p.length = q.length) (hp : allowed t p = true) (hq : allowed t q = true) : pleasedL t p q = pleases t p q := by
  unfold pleasedL pleases
  congr 1
  rw [Bool.eq_iff_iff, List.all_eq_true, List.all_eq_true]
  have key : ∀ i, i < p.length → plAt t p q i = pleaseAt t p q i := fun i hi => by
    unfold plAt pleaseAt
    rw [betterL_rank (allowed_rank hp hi) (allowed_rank hq (by omega))]
  constructor
  · intro h x hx; rw [← key x (List.mem_range.1 hx)]; exact h x hx
  · intro h x hx; rw [key x (List.mem_range.1 hx)]; exact h x hx
/-! ### exchanges -/
theorem exch_none {t : Town} {p q : List Int} (h : exch t p = none) (hq : plan t q = true) (ha : allowed t q = true) : pleases t p q = false := by
  unfold exch at h
  rw [List.find?_eq_none] at h
  simpa using h q (mem_plans.2 ⟨hq, ha⟩)
theorem find_sorted {l : List (List Int)} {f : List Int → Bool} {q : List Int} (hs : l.Pairwise fun a b => before a b = true) (h : l.find? f = some q) : q ∈ l ∧ f q = true ∧ ∀ o ∈ l, f o = true → before o q = false := by
  refine ⟨List.mem_of_find?_eq_some h, List.find?_some h, fun o ho hf => ?_⟩
  induction l with
  | nil => simp at ho
  | cons x l ih =>
    rw [List.pairwise_cons] at hs
    rw [List.find?_cons] at h
    cases hx : f x with
    | true =>
      rw [hx] at h; simp only [Option.some.injEq] at h; subst h
      rcases List.mem_cons.1 ho with rfl | ho
      · exact before_irrefl _
      · exact before_asymm (hs.1 o ho)
    | false =>
      rw [hx] at h
      rcases List.mem_cons.1 ho with rfl | ho
      · rw [hx] at hf; cases hf
      · exact ih hs.2 h ho
theorem exch_some {t : Town} {p q : List Int} (h : exch t p = some q) : plan t q = true ∧ allowed t q = true ∧ pleases t p q = true ∧ ∀ o, plan t o = true → allowed t o = true → pleases t p o = true → before o q = false := by
  obtain ⟨h1, h2, h3⟩ := find_sorted (plans_sorted t) h
  obtain ⟨a, b⟩ := mem_plans.1 h1
  exact ⟨a, b, h2, fun o ho ha hp => h3 o (mem_plans.2 ⟨ho, ha⟩) hp⟩
end M
theorem mv_FaultK {t : Town} {p : List Int} (hh : t.houses.length ≤ 1000) (ok : M.Ok t) (hp : M.plan t p = true) : Ret Try.prog 17 [.agg (cT t), .sl 1 (rI p)] (.tup [.agg [.int .i64 (M.fault t p).1, .int .i64 (M.fault t p).2], .int .i64 0]) := by
  have := mv_Fault t p hh
  rw [if_pos ⟨ok, hp⟩] at this
  exact this
end Go.Ab
namespace Go.Ab
open Go Go.RowKit Go.Proofs
set_option linter.unusedVariables false
namespace M
/-! ### the best plan and the fairest one -/
def fB (t : Town) (p : List Int) : Int × Int := (sum (ranks t p), 0)
def fF (t : Town) (p : List Int) : Int × Int := (most (ranks t p), sum (ranks t p))
theorem fine_ranks {t : Town} {p : List Int} (ok : Ok t) (hp : plan t p = true) (ha : allowed t p = true) : fine t (ranks t p) = true := by
  unfold fine
  rw [Bool.and_eq_true, List.all_eq_true, beq_iff_eq, ranks_length]
  refine ⟨fun x hx => ?_, (plan_iff.1 hp).1⟩
  have h1 := ranks_nonneg ha x hx
  have h2 := ranks_mem ok hx
  simp; omega
theorem plans_nil {t : Town} (h : plans t = []) {q : List Int} (hq : plan t q = true) : allowed t q = false := by
  rw [← Bool.not_eq_true]
  intro ha
  have := mem_plans.2 ⟨hq, ha⟩
  rw [h] at this; cases this
theorem best_of {t : Town} (h : plans t ≠ []) : ∃ a, least (fun p => (sum (ranks t p), 0)) (plans t) = some (a, (sum (ranks t a), 0)) ∧ plan t a = true ∧ allowed t a = true ∧
    ∀ q, plan t q = true → allowed t q = true → ¬ sum (ranks t q) < sum (ranks t a) ∧ (sum (ranks t q) = sum (ranks t a) → before q a = false) := by
  obtain ⟨a, h1, h2, h3⟩ := least_some (f := fun p => (sum (ranks t p), 0)) (plans_sorted t) h
  obtain ⟨h4, h5⟩ := mem_plans.1 h2
  refine ⟨a, h1, h4, h5, fun q hq ha => ?_⟩
  obtain ⟨h6, h7⟩ := h3 q (mem_plans.2 ⟨hq, ha⟩)
  refine ⟨by simp [lt2] at h6; omega, fun e => ?_⟩
  rcases h7 (by simp [e]) with h | h
  · rw [h]; exact before_irrefl _
  · exact before_asymm h
theorem fair_of {t : Town} (h : plans t ≠ []) : ∃ b, least (fun p => (most (ranks t p), sum (ranks t p))) (plans t) = some (b, (most (ranks t b), sum (ranks t b))) ∧ plan t b = true ∧ allowed t b = true ∧
    ∀ q, plan t q = true → allowed t q = true → most (ranks t b) ≤ most (ranks t q) ∧ (most (ranks t q) = most (ranks t b) → sum (ranks t b) ≤ sum (ranks t q) ∧ (sum (ranks t q) = sum (ranks t b) → before q b = false)) := by
  obtain ⟨b, h1, h2, h3⟩ := least_some (f := fun p => (most (ranks t p), sum (ranks t p))) (plans_sorted t) h
  obtain ⟨h4, h5⟩ := mem_plans.1 h2
  refine ⟨b, h1, h4, h5, fun q hq ha => ?_⟩
  obtain ⟨h6, h7⟩ := h3 q (mem_plans.2 ⟨hq, ha⟩)
  simp [lt2] at h6
  refine ⟨by omega, fun e => ⟨by omega, fun e2 => ?_⟩⟩
  rcases h7 (by simp [e, e2]) with h | h
  · rw [h]; exact before_irrefl _
  · exact before_asymm h
end M
end Go.Ab
namespace Go.Ab
open Go Go.RowKit
set_option linter.unusedVariables false
section
variable {P : Program} {b : Nat} {ro : Option Nat} {s : St} {K : Exit → St → Prop} {x : Code}
/-- A nil slice within a box may be read as a row of one's own that is still empty. -/
theorem T_ghostB (i c T0 : Nat) (cs : List V) (T sz : Nat) (ho : s.h[i]? = some (.box T0 cs)) (hc : cs[c]? = some .nil)
    (k : Ab.T P b ro x ⟨s.t, (s.h ++ [AObj.arr T sz [] false]).set i (AObj.box T0 (cs.set c (.arr s.h.length 0)))⟩ K) : Ab.T P b ro x s K := by
  intro C E0 m a w hb L S
  have hl := S.len
  have hlt : i < s.h.length := (List.getElem?_eq_some_iff.1 ho).1
  obtain ⟨S1, U1⟩ := S.add (o := .arr T sz [] false) (v := .slice none 0 0) (w' := w) (Below.refl _ w) (fun b hb => by cases hb) (fun _ => by
    refine ⟨[], ⟨by simp, .inl ⟨rfl, rfl⟩⟩, ?_, fun r hr => by cases hr⟩
    simp only [List.flatten_nil, RelL])
  have hi1 : (s.h ++ [AObj.arr T sz [] false])[i]? = some (.box T0 cs) := by rw [List.getElem?_append_left hlt]; exact ho
  have hmlt : i < m.length := by omega
  have hm1 : (m ++ [Value.slice none 0 0])[i]? = some m[i] := by rw [List.getElem?_append_left hmlt]; exact List.getElem?_eq_getElem hmlt
  obtain ⟨b', vs, hv, hb0, hheap, hR⟩ := S1.objs i _ _ hi1 hm1
  obtain ⟨S2, U2⟩ := S1.turn (o' := .box T0 (cs.set c (.arr s.h.length 0))) (v' := m[i]) hi1 hm1 rfl (.inl ⟨T0, cs, _, rfl, rfl, rfl⟩) (grownBy_refl w _) (.inl rfl) (fun L => by
    refine ⟨b', vs, hv, hb0, hheap, ?_⟩
    have hR' := hR.le L
    obtain ⟨u, hu, hr⟩ := RelL.get c hR' hc
    simp only [Rel] at hr; subst hr
    have h1 := RelL.set c (x := .arr s.h.length 0) (u := .slice none 0 0) hR' (by
      simp only [Rel, env]
      refine ⟨by simp, fun T' sz' rows fr ho' => ?_⟩
      rw [List.getElem?_set_ne (by omega)] at ho'
      simp only [List.getElem?_concat_length, Option.some.injEq, AObj.arr.injEq] at ho'
      obtain ⟨_, _, rfl, _⟩ := ho'
      exact ⟨by simp, fun _ => by rw [List.getElem?_set_ne (by omega), ← hl]; simp⟩)
    have h2 : vs.toList.set c (.slice none 0 0) = vs.toList := by
      obtain ⟨hlt, he⟩ := List.getElem?_eq_some_iff.1 hu
      rw [← he]
      exact List.set_getElem_self hlt
    rw [h2] at h1
    exact h1)
  exact k C E0 _ a w hb (L.trans (U1.trans U2).leN) S2
end
end Go.Ab
namespace Go.Ab
open Go Go.RowKit Go.Proofs
set_option linter.unusedVariables false
theorem rP_take (l : List (Int × Int)) (k : Nat) : (rP l).take k = rP (l.take k) := by simp [rP]
namespace M
/-! ### a school more, kin less, a longer reach -/
def moreS (t : Town) (n : Int) (k : Nat) : List Int := ((List.range k).filter fun (i : Nat) => ((i : Int) == n || t.schools.contains (i : Int))).map fun (i : Nat) => (i : Int)
def more (t : Town) (n k c : Int) : Town := ⟨t.walk, if t.reach + c < 1000 then t.reach + c else 1000, moreS t n t.walk.length, t.gone, t.houses, t.kin.take k.toNat⟩
theorem moreS_zero (t : Town) (n : Int) : moreS t n 0 = [] := rfl
theorem moreS_yes {t : Town} {n : Int} {k : Nat} (h : ((k : Int) == n || t.schools.contains (k : Int)) = true) : moreS t n (k + 1) = moreS t n k ++ [(k : Int)] := by
  unfold moreS
  rw [List.range_succ, List.filter_append, List.map_append]
  simp only [List.filter_cons, h, if_true, List.filter_nil, List.map_cons, List.map_nil]
theorem moreS_no {t : Town} {n : Int} {k : Nat} (h : ((k : Int) == n || t.schools.contains (k : Int)) = false) : moreS t n (k + 1) = moreS t n k := by
  unfold moreS
  rw [List.range_succ, List.filter_append, List.map_append]
  simp only [List.filter_cons, h, Bool.false_eq_true, if_false, List.filter_nil, List.map_nil, List.append_nil]
theorem moreS_len (t : Town) (n : Int) (k : Nat) : (moreS t n k).length ≤ k := by
  unfold moreS
  rw [List.length_map]
  exact Nat.le_trans (List.length_filter_le _ _) (by simp)
theorem moreS_mem {t : Town} {n s : Int} {k : Nat} : s ∈ moreS t n k ↔ (0 ≤ s ∧ s < k) ∧ (s = n ∨ s ∈ t.schools) := by
  unfold moreS
  simp only [List.mem_map, List.mem_filter, List.mem_range, Bool.or_eq_true, beq_iff_eq, List.contains_iff_mem]
  constructor
  · rintro ⟨a, ⟨h1, h2⟩, rfl⟩
    exact ⟨⟨by omega, by omega⟩, h2⟩
  · rintro ⟨⟨h1, h2⟩, h3⟩
    refine ⟨s.toNat, ⟨by omega, ?_⟩, by omega⟩
    rw [show ((s.toNat : Nat) : Int) = s by omega]
    exact h3
theorem moreS_sorted (t : Town) (n : Int) (k : Nat) : (moreS t n k).Pairwise (· < ·) := by
  unfold moreS
  rw [List.pairwise_map]
  refine List.Pairwise.imp (fun h => ?_) (List.pairwise_lt_range.filter _)
  omega
theorem more_ok {t : Town} {n k c : Int} (ok : Ok t) (hc : 0 ≤ c) : Ok (more t n k c) where
  walks := ok.walks
  houses := ok.houses
  reach := by
    have := inr_iff.1 ok.reach
    rw [inr_iff]
    unfold more
    simp only
    split <;> omega
  gone := ok.gone
  kin := by
    have := ok.kin
    simp only [more, List.length_take]; omega
  schools := fun i hi => by
    simp only [more] at hi
    have hs := moreS_sorted t n t.walk.length
    unfold SchoolOk
    simp only [more]
    rw [at_get hi]
    have hm := moreS_mem.1 (List.getElem_mem hi)
    refine ⟨lot_iff.2 hm.1, ?_⟩
    rintro ⟨h1, h2⟩
    rw [at_get (show i - 1 < (moreS t n t.walk.length).length by omega)] at h2
    have := List.pairwise_iff_getElem.1 hs (i - 1) i (by omega) hi (by omega)
    omega
  kins := fun i hi => by
    simp only [more, List.length_take] at hi
    have := ok.kins i (by omega)
    have e : kn (more t n k c) i = kn t i := by
      simp only [kn, more]
      rw [List.getElem?_take_of_lt (by omega)]
    unfold KinOk at *
    rw [e]
    exact this
theorem more_near {t : Town} {n k c : Int} (ok : Ok t) (hc : 0 ≤ c) {a b : Int} (h : near t a b = true) : near (more t n k c) a b = true := by
  unfold near at *
  rw [decide_eq_true_eq] at *
  have e : dist (more t n k c) a b = dist t a b := rfl
  have hr := inr_iff.1 ok.reach
  rw [e]
  refine Int.le_trans h ?_
  unfold more
  simp only
  split <;> omega
theorem more_taught {t : Town} {n k c : Int} (ok : Ok t) (hc : 0 ≤ c) {x : Int} (h : taught t x = true) : taught (more t n k c) x = true := by
  unfold taught at *
  rw [List.any_eq_true] at *
  obtain ⟨s, hs, hn⟩ := h
  exact ⟨s, moreS_mem.2 ⟨lot_iff.1 (ok.school hs), .inr hs⟩, more_near ok hc hn⟩
theorem more_allowed {t : Town} {n k c : Int} (ok : Ok t) (hc : 0 ≤ c) {p : List Int} (h : allowed t p = true) : allowed (more t n k c) p = true := by
  rw [allowed_iff] at *
  obtain ⟨h1, h2⟩ := h
  refine ⟨fun i hi => ?_, fun j hj => ?_⟩
  · obtain ⟨a, b, d, e⟩ := h1 i hi
    refine ⟨a, b, d, ?_⟩
    unfold untaught at *
    have hh : hs (more t n k c) i = hs t i := rfl
    rw [hh]
    cases hsc : (hs t i).school with
    | false => rfl
    | true =>
      rw [hsc] at e
      have ht : taught t (at' p i) = true := by simpa using e
      rw [more_taught ok hc ht]; rfl
  · simp only [more, List.length_take] at hj
    have := h2 j (by omega)
    unfold apart at *
    have e : kn (more t n k c) j = kn t j := by
      simp only [kn, more]
      rw [List.getElem?_take_of_lt (by omega)]
    rw [e]
    have hn : near t (at' p (kn t j).1.toNat) (at' p (kn t j).2.toNat) = true := by simpa using this
    rw [more_near ok hc hn]; rfl
/-! ### answers of Best and Fairest, whether there are plans or not -/
def bO (t : Town) := least (fun p => (sum (ranks t p), 0)) (plans t)
def fO (t : Town) := least (fun p => (most (ranks t p), sum (ranks t p))) (plans t)
def pE (t : Town) : Int := if plans t = [] then 5 else 0
theorem more_plans {t : Town} {n k c : Int} (ok : Ok t) (hc : 0 ≤ c) {p : List Int} (h : p ∈ plans t) : p ∈ plans (more t n k c) := by
  rw [mem_plans] at *
  exact ⟨h.1, more_allowed ok hc h.2⟩
theorem more_best {t : Town} {n k c : Int} (ok : Ok t) (hc : 0 ≤ c) (hn : plans t ≠ []) : plans (more t n k c) ≠ [] ∧ (oM (bO (more t n k c))).1 ≤ (oM (bO t)).1 ∧ (oM (fO (more t n k c))).1 ≤ (oM (fO t)).1 := by
  obtain ⟨a, h1, h2, h3, _⟩ := best_of hn
  obtain ⟨b, h4, h5, h6, _⟩ := fair_of hn
  have hx : plans (more t n k c) ≠ [] := fun e => by
    have := more_plans (n := n) (k := k) ok hc (mem_plans.2 ⟨h2, h3⟩)
    rw [e] at this; cases this
  obtain ⟨a', g1, g2, g3, g4⟩ := best_of hx
  obtain ⟨b', g5, g6, g7, g8⟩ := fair_of hx
  refine ⟨hx, ?_, ?_⟩
  · unfold bO
    rw [h1, g1]
    have := (g4 a h2 (more_allowed ok hc h3)).1
    have e : ranks (more t n k c) a = ranks t a := rfl
    rw [e] at this
    simp only [oM]; omega
  · unfold fO
    rw [h4, g5]
    have := (g8 b h5 (more_allowed ok hc h6)).1
    have e : ranks (more t n k c) b = ranks t b := rfl
    rw [e] at this
    simp only [oM]; exact this
theorem more_cases {t : Town} {n k c : Int} (ok : Ok t) (hc : 0 ≤ c) : (pE t = 5 ∧ pE (more t n k c) = 5) ∨ (pE t = 5 ∧ pE (more t n k c) = 0) ∨ (pE t = 0 ∧ pE (more t n k c) = 0 ∧ ¬ (oM (bO t)).1 < (oM (bO (more t n k c))).1 ∧ ¬ (oM (fO t)).1 < (oM (fO (more t n k c))).1) := by
  unfold pE
  by_cases hn : plans t = []
  · rw [if_pos hn]
    by_cases hx : plans (more t n k c) = []
    · rw [if_pos hx]; exact .inl ⟨rfl, rfl⟩
    · rw [if_neg hx]; exact .inr (.inl ⟨rfl, rfl⟩)
  · obtain ⟨hx, h1, h2⟩ := more_best (n := n) (k := k) ok hc hn
    rw [if_neg hn, if_neg hx]
    exact .inr (.inr ⟨rfl, rfl, by omega, by omega⟩)
theorem more_fault {t : Town} {n k c : Int} (ok : Ok t) (hc : 0 ≤ c) (p : List Int) : ((fault t p).1 == 1) = false ∨ ((fault t p).1 = 1 ∧ (fault (more t n k c) p).1 = 1) := by
  cases ha : allowed t p with
  | false => left; simpa [allowed] using ha
  | true =>
    right
    have hx := more_allowed (n := n) (k := k) ok hc ha
    exact ⟨by simpa [allowed] using ha, by simpa [allowed] using hx⟩
end M
theorem mv_BestU {t : Town} (hh : t.houses.length ≤ 1000) (ok : M.Ok t) : Ret Try.prog 26 [.agg (cT t)] (.tup [oV (M.bO t), .int .i64 (oM (M.bO t)).1, .int .i64 (M.pE t)]) := by
  unfold M.pE
  by_cases hn : M.plans t = []
  · have e : M.bO t = none := by unfold M.bO; rw [hn]; rfl
    rw [if_pos hn, e]
    exact mv_BestB t hh ok e
  · obtain ⟨a, h1, _⟩ := M.best_of hn
    have e : M.bO t = some (a, (M.sum (M.ranks t a), 0)) := h1
    rw [if_neg hn, e]
    exact mv_BestC t hh ok a _ h1
theorem mv_FairU {t : Town} (hh : t.houses.length ≤ 1000) (ok : M.Ok t) : Ret Try.prog 27 [.agg (cT t)] (.tup [oV (M.fO t), .int .i64 (oM (M.fO t)).1, .int .i64 (M.pE t)]) := by
  unfold M.pE
  by_cases hn : M.plans t = []
  · have e : M.fO t = none := by unfold M.fO; rw [hn]; rfl
    rw [if_pos hn, e]
    exact mv_FairestB t hh ok e
  · obtain ⟨a, h1, _⟩ := M.fair_of hn
    have e : M.fO t = some (a, (M.most (M.ranks t a), M.sum (M.ranks t a))) := h1
    rw [if_neg hn, e]
    exact mv_FairestC t hh ok a _ h1
end Go.Ab
namespace Go.Ab
open Go Go.RowKit Go.Proofs Fac
set_option linter.unusedVariables false
set_option linter.unusedSimpArgs false
set_option maxRecDepth 4000
set_option maxHeartbeats 1000000





theorem law_moreA (t : Town) (p : List Int) (n k c : Int) (hs : ¬ M.Short t) : Ret Try.prog 7 [.agg (cT t), .sl 1 (rI p), .int .i64 n, .int .i64 k, .int .i64 c] (.bool true) := by
  apply Ret_fin (fn := Try.f7) Try.func7 rfl
  apply T_seq
  apply T_r F
  · (simp only [go_sem, Try.ntmps7, hs]) <;> exact rfl
  apply K_seq
  apply T_seq
  apply T_seq
  apply T_wL F [0, 1, 2, 3, 4, 5, 6, 7, 8, 9, 10, 11, 12, 13, 14, 15, 16, 17, 18, 19, 20, 21, 22, 23, 24, 25, 26, 27, 28, 29, 30, 31, 32, 33, 34, 35, 36, 37, 38] rfl
  apply W_pre [0] [1, 2, 3, 4, 5, 6, 7, 8, 9, 10, 11, 12, 13, 14, 15, 16, 17, 18, 19, 20, 21, 22, 23, 24, 25, 26, 27, 28, 29, 30, 31, 32, 33, 34, 35, 36, 37, 38]
  · (simp only [go_sem, Try.ntmps7, hs]) <;> exact rfl
  apply W_call -- call 0 of function 12
  · (simp only [go_sem, Try.ntmps7, hs]) <;> exact rfl
  · (simp only [go_sem, Try.ntmps7, hs]) <;> exact rfl
  · exact rfl
  · (simp only [go_sem, Try.ntmps7, hs]) <;> exact rfl
  · (simp only [go_sem, Try.ntmps7, hs]) <;> exact rfl
  · exact ⟨_, Try.func12, rfl, rfl⟩
  · (simp only [go_sem, Try.ntmps7, hs]) <;> exact rfl
  · (simp only [go_sem, Try.ntmps7, hs]) <;> exact rfl
  · exact law_short _
  apply W_pre [2, 3, 4, 5] [6, 7, 8, 9, 10, 11, 12, 13, 14, 15, 16, 17, 18, 19, 20, 21, 22, 23, 24, 25, 26, 27, 28, 29, 30, 31, 32, 33, 34, 35, 36, 37, 38]
  · (simp only [go_sem, Try.ntmps7, hs]) <;> exact rfl
  apply W_pre [6, 7, 8, 9] [10, 11, 12, 13, 14, 15, 16, 17, 18, 19, 20, 21, 22, 23, 24, 25, 26, 27, 28, 29, 30, 31, 32, 33, 34, 35, 36, 37, 38]
  · (simp only [go_sem, Try.ntmps7, hs]) <;> exact rfl
  apply W_pre [10, 11, 12, 13] [14, 15, 16, 17, 18, 19, 20, 21, 22, 23, 24, 25, 26, 27, 28, 29, 30, 31, 32, 33, 34, 35, 36, 37, 38]
  · (simp only [go_sem, Try.ntmps7, hs]) <;> exact rfl
  apply W_pre [14, 15, 16, 17] [18, 19, 20, 21, 22, 23, 24, 25, 26, 27, 28, 29, 30, 31, 32, 33, 34, 35, 36, 37, 38]
  · (simp only [go_sem, Try.ntmps7, hs]) <;> exact rfl
  apply W_pre [18, 19, 20, 21] [22, 23, 24, 25, 26, 27, 28, 29, 30, 31, 32, 33, 34, 35, 36, 37, 38]
  · (simp only [go_sem, Try.ntmps7, hs]) <;> exact rfl
  apply W_pre [22, 23, 24, 25] [26, 27, 28, 29, 30, 31, 32, 33, 34, 35, 36, 37, 38]
  · (simp only [go_sem, Try.ntmps7, hs]) <;> exact rfl
  apply W_pre [26, 27, 28, 29] [30, 31, 32, 33, 34, 35, 36, 37, 38]
  · (simp only [go_sem, Try.ntmps7, hs]) <;> exact rfl
  apply W_pre [30, 31, 32, 33] [34, 35, 36, 37, 38]
  · (simp only [go_sem, Try.ntmps7, hs]) <;> exact rfl
  apply W_run
  · (simp only [go_sem, Try.ntmps7, hs]) <;> exact rfl
  apply W_nil
  apply K_seq
  apply T_ifT -- h0
  · (simp only [go_sem, Try.ntmps7, hs]) <;> exact rfl
  apply T_seq
  apply T_wL F [0, 1] rfl
  apply W_call -- call 1 of function 16
  · (simp only [go_sem, Try.ntmps7, hs]) <;> exact rfl
  · (simp only [go_sem, Try.ntmps7, hs]) <;> exact rfl
  · exact rfl
  · (simp only [go_sem, Try.ntmps7, hs]) <;> exact rfl
  · (simp only [go_sem, Try.ntmps7, hs]) <;> exact rfl
  · exact ⟨_, Try.func16, rfl, rfl⟩
  · (simp only [go_sem, Try.ntmps7, hs]) <;> exact rfl
  · (simp only [go_sem, Try.ntmps7, hs]) <;> exact rfl
  · exact known_ok
  apply W_run
  · (simp only [go_sem, Try.ntmps7, hs]) <;> exact rfl
  apply W_nil
  apply K_seq
  apply T_ret
  apply K_seqR
  apply fin_ret
  · (simp only [go_sem, Try.ntmps7, hs, Try.f7]) <;> exact rfl
  -- leaf 0 (ret)
  
  all_goals rfl

theorem law_moreB (t : Town) (p : List Int) (n k c : Int) (hs : M.Short t) (ok : ¬ M.Ok t) : Ret Try.prog 7 [.agg (cT t), .sl 1 (rI p), .int .i64 n, .int .i64 k, .int .i64 c] (.bool true) := by
  apply Ret_fin (fn := Try.f7) Try.func7 rfl
  apply T_seq
  apply T_r F
  · (simp only [go_sem, Try.ntmps7, hs, ok]) <;> exact rfl
  apply K_seq
  apply T_seq
  apply T_seq
  apply T_wL F [0, 1, 2, 3, 4, 5, 6, 7, 8, 9, 10, 11, 12, 13, 14, 15, 16, 17, 18, 19, 20, 21, 22, 23, 24, 25, 26, 27, 28, 29, 30, 31, 32, 33, 34, 35, 36, 37, 38] rfl
  apply W_pre [0] [1, 2, 3, 4, 5, 6, 7, 8, 9, 10, 11, 12, 13, 14, 15, 16, 17, 18, 19, 20, 21, 22, 23, 24, 25, 26, 27, 28, 29, 30, 31, 32, 33, 34, 35, 36, 37, 38]
  · (simp only [go_sem, Try.ntmps7, hs, ok]) <;> exact rfl
  apply W_call -- call 0 of function 12
  · (simp only [go_sem, Try.ntmps7, hs, ok]) <;> exact rfl
  · (simp only [go_sem, Try.ntmps7, hs, ok]) <;> exact rfl
  · exact rfl
  · (simp only [go_sem, Try.ntmps7, hs, ok]) <;> exact rfl
  · (simp only [go_sem, Try.ntmps7, hs, ok]) <;> exact rfl
  · exact ⟨_, Try.func12, rfl, rfl⟩
  · (simp only [go_sem, Try.ntmps7, hs, ok]) <;> exact rfl
  · (simp only [go_sem, Try.ntmps7, hs, ok]) <;> exact rfl
  · exact law_short _
  apply W_pre [2, 3, 4] [5, 6, 7, 8, 9, 10, 11, 12, 13, 14, 15, 16, 17, 18, 19, 20, 21, 22, 23, 24, 25, 26, 27, 28, 29, 30, 31, 32, 33, 34, 35, 36, 37, 38]
  · (simp only [go_sem, Try.ntmps7, hs, ok]) <;> exact rfl
  apply W_call -- call 1 of function 13
  · (simp only [go_sem, Try.ntmps7, hs, ok]) <;> exact rfl
  · (simp only [go_sem, Try.ntmps7, hs, ok]) <;> exact rfl
  · exact rfl
  · (simp only [go_sem, Try.ntmps7, hs, ok]) <;> exact rfl
  · (simp only [go_sem, Try.ntmps7, hs, ok]) <;> exact rfl
  · exact ⟨_, Try.func13, rfl, rfl⟩
  · (simp only [go_sem, Try.ntmps7, hs, ok]) <;> exact rfl
  · (simp only [go_sem, Try.ntmps7, hs, ok]) <;> exact rfl
  · exact ref_town _
  apply W_pre [6, 7, 8, 9] [10, 11, 12, 13, 14, 15, 16, 17, 18, 19, 20, 21, 22, 23, 24, 25, 26, 27, 28, 29, 30, 31, 32, 33, 34, 35, 36, 37, 38]
  · (simp only [go_sem, Try.ntmps7, hs, ok]) <;> exact rfl
  apply W_pre [10, 11, 12, 13] [14, 15, 16, 17, 18, 19, 20, 21, 22, 23, 24, 25, 26, 27, 28, 29, 30, 31, 32, 33, 34, 35, 36, 37, 38]
  · (simp only [go_sem, Try.ntmps7, hs, ok]) <;> exact rfl
  apply W_pre [14, 15, 16, 17] [18, 19, 20, 21, 22, 23, 24, 25, 26, 27, 28, 29, 30, 31, 32, 33, 34, 35, 36, 37, 38]
  · (simp only [go_sem, Try.ntmps7, hs, ok]) <;> exact rfl
  apply W_pre [18, 19, 20, 21] [22, 23, 24, 25, 26, 27, 28, 29, 30, 31, 32, 33, 34, 35, 36, 37, 38]
  · (simp only [go_sem, Try.ntmps7, hs, ok]) <;> exact rfl
  apply W_pre [22, 23, 24, 25] [26, 27, 28, 29, 30, 31, 32, 33, 34, 35, 36, 37, 38]
  · (simp only [go_sem, Try.ntmps7, hs, ok]) <;> exact rfl
  apply W_pre [26, 27, 28, 29] [30, 31, 32, 33, 34, 35, 36, 37, 38]
  · (simp only [go_sem, Try.ntmps7, hs, ok]) <;> exact rfl
  apply W_pre [30, 31, 32, 33] [34, 35, 36, 37, 38]
  · (simp only [go_sem, Try.ntmps7, hs, ok]) <;> exact rfl
  apply W_run
  · (simp only [go_sem, Try.ntmps7, hs, ok]) <;> exact rfl
  apply W_nil
  apply K_seq
  apply T_ifT -- h0
  · (simp only [go_sem, Try.ntmps7, hs, ok]) <;> exact rfl
  apply T_seq
  apply T_wL F [0, 1] rfl
  apply W_call -- call 2 of function 16
  · (simp only [go_sem, Try.ntmps7, hs, ok]) <;> exact rfl
  · (simp only [go_sem, Try.ntmps7, hs, ok]) <;> exact rfl
  · exact rfl
  · (simp only [go_sem, Try.ntmps7, hs, ok]) <;> exact rfl
  · (simp only [go_sem, Try.ntmps7, hs, ok]) <;> exact rfl
  · exact ⟨_, Try.func16, rfl, rfl⟩
  · (simp only [go_sem, Try.ntmps7, hs, ok]) <;> exact rfl
  · (simp only [go_sem, Try.ntmps7, hs, ok]) <;> exact rfl
  · exact known_ok
  apply W_run
  · (simp only [go_sem, Try.ntmps7, hs, ok]) <;> exact rfl
  apply W_nil
  apply K_seq
  apply T_ret
  apply K_seqR
  apply fin_ret
  · (simp only [go_sem, Try.ntmps7, hs, ok, Try.f7]) <;> exact rfl
  -- leaf 0 (ret)
  
  all_goals rfl

theorem law_moreC (t : Town) (p : List Int) (n k c : Int) (hs : M.Short t) (ok : M.Ok t) (hp : M.plan t p = false) : Ret Try.prog 7 [.agg (cT t), .sl 1 (rI p), .int .i64 n, .int .i64 k, .int .i64 c] (.bool true) := by
  apply Ret_fin (fn := Try.f7) Try.func7 rfl
  apply T_seq
  apply T_r F
  · (simp only [go_sem, Try.ntmps7, hs, ok, hp]) <;> exact rfl
  apply K_seq
  apply T_seq
  apply T_seq
  apply T_wL F [0, 1, 2, 3, 4, 5, 6, 7, 8, 9, 10, 11, 12, 13, 14, 15, 16, 17, 18, 19, 20, 21, 22, 23, 24, 25, 26, 27, 28, 29, 30, 31, 32, 33, 34, 35, 36, 37, 38] rfl
  apply W_pre [0] [1, 2, 3, 4, 5, 6, 7, 8, 9, 10, 11, 12, 13, 14, 15, 16, 17, 18, 19, 20, 21, 22, 23, 24, 25, 26, 27, 28, 29, 30, 31, 32, 33, 34, 35, 36, 37, 38]
  · (simp only [go_sem, Try.ntmps7, hs, ok, hp]) <;> exact rfl
  apply W_call -- call 0 of function 12
  · (simp only [go_sem, Try.ntmps7, hs, ok, hp]) <;> exact rfl
  · (simp only [go_sem, Try.ntmps7, hs, ok, hp]) <;> exact rfl
  · exact rfl
  · (simp only [go_sem, Try.ntmps7, hs, ok, hp]) <;> exact rfl
  · (simp only [go_sem, Try.ntmps7, hs, ok, hp]) <;> exact rfl
  · exact ⟨_, Try.func12, rfl, rfl⟩
  · (simp only [go_sem, Try.ntmps7, hs, ok, hp]) <;> exact rfl
  · (simp only [go_sem, Try.ntmps7, hs, ok, hp]) <;> exact rfl
  · exact law_short _
  apply W_pre [2, 3, 4] [5, 6, 7, 8, 9, 10, 11, 12, 13, 14, 15, 16, 17, 18, 19, 20, 21, 22, 23, 24, 25, 26, 27, 28, 29, 30, 31, 32, 33, 34, 35, 36, 37, 38]
  · (simp only [go_sem, Try.ntmps7, hs, ok, hp]) <;> exact rfl
  apply W_call -- call 1 of function 13
  · (simp only [go_sem, Try.ntmps7, hs, ok, hp]) <;> exact rfl
  · (simp only [go_sem, Try.ntmps7, hs, ok, hp]) <;> exact rfl
  · exact rfl
  · (simp only [go_sem, Try.ntmps7, hs, ok, hp]) <;> exact rfl
  · (simp only [go_sem, Try.ntmps7, hs, ok, hp]) <;> exact rfl
  · exact ⟨_, Try.func13, rfl, rfl⟩
  · (simp only [go_sem, Try.ntmps7, hs, ok, hp]) <;> exact rfl
  · (simp only [go_sem, Try.ntmps7, hs, ok, hp]) <;> exact rfl
  · exact ref_town _
  apply W_pre [6, 7, 8, 9, 10] [11, 12, 13, 14, 15, 16, 17, 18, 19, 20, 21, 22, 23, 24, 25, 26, 27, 28, 29, 30, 31, 32, 33, 34, 35, 36, 37, 38]
  · (simp only [go_sem, Try.ntmps7, hs, ok, hp]) <;> exact rfl
  apply W_call -- call 2 of function 14
  · (simp only [go_sem, Try.ntmps7, hs, ok, hp]) <;> exact rfl
  · (simp only [go_sem, Try.ntmps7, hs, ok, hp]) <;> exact rfl
  · exact rfl
  · (simp only [go_sem, Try.ntmps7, hs, ok, hp]) <;> exact rfl
  · (simp only [go_sem, Try.ntmps7, hs, ok, hp]) <;> exact rfl
  · exact ⟨_, Try.func14, rfl, rfl⟩
  · (simp only [go_sem, Try.ntmps7, hs, ok, hp]) <;> exact rfl
  · (simp only [go_sem, Try.ntmps7, hs, ok, hp]) <;> exact rfl
  · exact ref_plan _ _
  apply W_pre [12, 13, 14, 15] [16, 17, 18, 19, 20, 21, 22, 23, 24, 25, 26, 27, 28, 29, 30, 31, 32, 33, 34, 35, 36, 37, 38]
  · (simp only [go_sem, Try.ntmps7, hs, ok, hp]) <;> exact rfl
  apply W_pre [16, 17, 18, 19] [20, 21, 22, 23, 24, 25, 26, 27, 28, 29, 30, 31, 32, 33, 34, 35, 36, 37, 38]
  · (simp only [go_sem, Try.ntmps7, hs, ok, hp]) <;> exact rfl
  apply W_pre [20, 21, 22, 23] [24, 25, 26, 27, 28, 29, 30, 31, 32, 33, 34, 35, 36, 37, 38]
  · (simp only [go_sem, Try.ntmps7, hs, ok, hp]) <;> exact rfl
  apply W_pre [24, 25, 26, 27] [28, 29, 30, 31, 32, 33, 34, 35, 36, 37, 38]
  · (simp only [go_sem, Try.ntmps7, hs, ok, hp]) <;> exact rfl
  apply W_pre [28, 29, 30, 31] [32, 33, 34, 35, 36, 37, 38]
  · (simp only [go_sem, Try.ntmps7, hs, ok, hp]) <;> exact rfl
  apply W_pre [32, 33, 34, 35] [36, 37, 38]
  · (simp only [go_sem, Try.ntmps7, hs, ok, hp]) <;> exact rfl
  apply W_run
  · (simp only [go_sem, Try.ntmps7, hs, ok, hp]) <;> exact rfl
  apply W_nil
  apply K_seq
  apply T_ifT -- h0
  · (simp only [go_sem, Try.ntmps7, hs, ok, hp]) <;> exact rfl
  apply T_seq
  apply T_wL F [0, 1] rfl
  apply W_call -- call 3 of function 16
  · (simp only [go_sem, Try.ntmps7, hs, ok, hp]) <;> exact rfl
  · (simp only [go_sem, Try.ntmps7, hs, ok, hp]) <;> exact rfl
  · exact rfl
  · (simp only [go_sem, Try.ntmps7, hs, ok, hp]) <;> exact rfl
  · (simp only [go_sem, Try.ntmps7, hs, ok, hp]) <;> exact rfl
  · exact ⟨_, Try.func16, rfl, rfl⟩
  · (simp only [go_sem, Try.ntmps7, hs, ok, hp]) <;> exact rfl
  · (simp only [go_sem, Try.ntmps7, hs, ok, hp]) <;> exact rfl
  · exact known_ok
  apply W_run
  · (simp only [go_sem, Try.ntmps7, hs, ok, hp]) <;> exact rfl
  apply W_nil
  apply K_seq
  apply T_ret
  apply K_seqR
  apply fin_ret
  · (simp only [go_sem, Try.ntmps7, hs, ok, hp, Try.f7]) <;> exact rfl
  -- leaf 0 (ret)
  
  all_goals rfl

theorem law_moreD (t : Town) (p : List Int) (n k c : Int) (hs : M.Short t) (ok : M.Ok t) (hp : M.plan t p = true) (hn : M.lot t n = false) : Ret Try.prog 7 [.agg (cT t), .sl 1 (rI p), .int .i64 n, .int .i64 k, .int .i64 c] (.bool true) := by
  apply Ret_fin (fn := Try.f7) Try.func7 rfl
  apply T_seq
  apply T_r F
  · (simp only [go_sem, Try.ntmps7, hs, ok, hp, hn]) <;> exact rfl
  apply K_seq
  apply T_seq
  apply T_seq
  apply T_wL F [0, 1, 2, 3, 4, 5, 6, 7, 8, 9, 10, 11, 12, 13, 14, 15, 16, 17, 18, 19, 20, 21, 22, 23, 24, 25, 26, 27, 28, 29, 30, 31, 32, 33, 34, 35, 36, 37, 38] rfl
  apply W_pre [0] [1, 2, 3, 4, 5, 6, 7, 8, 9, 10, 11, 12, 13, 14, 15, 16, 17, 18, 19, 20, 21, 22, 23, 24, 25, 26, 27, 28, 29, 30, 31, 32, 33, 34, 35, 36, 37, 38]
  · (simp only [go_sem, Try.ntmps7, hs, ok, hp, hn]) <;> exact rfl
  apply W_call -- call 0 of function 12
  · (simp only [go_sem, Try.ntmps7, hs, ok, hp, hn]) <;> exact rfl
  · (simp only [go_sem, Try.ntmps7, hs, ok, hp, hn]) <;> exact rfl
  · exact rfl
  · (simp only [go_sem, Try.ntmps7, hs, ok, hp, hn]) <;> exact rfl
  · (simp only [go_sem, Try.ntmps7, hs, ok, hp, hn]) <;> exact rfl
  · exact ⟨_, Try.func12, rfl, rfl⟩
  · (simp only [go_sem, Try.ntmps7, hs, ok, hp, hn]) <;> exact rfl
  · (simp only [go_sem, Try.ntmps7, hs, ok, hp, hn]) <;> exact rfl
  · exact law_short _
  apply W_pre [2, 3, 4] [5, 6, 7, 8, 9, 10, 11, 12, 13, 14, 15, 16, 17, 18, 19, 20, 21, 22, 23, 24, 25, 26, 27, 28, 29, 30, 31, 32, 33, 34, 35, 36, 37, 38]
  · (simp only [go_sem, Try.ntmps7, hs, ok, hp, hn]) <;> exact rfl
  apply W_call -- call 1 of function 13
  · (simp only [go_sem, Try.ntmps7, hs, ok, hp, hn]) <;> exact rfl
  · (simp only [go_sem, Try.ntmps7, hs, ok, hp, hn]) <;> exact rfl
  · exact rfl
  · (simp only [go_sem, Try.ntmps7, hs, ok, hp, hn]) <;> exact rfl
  · (simp only [go_sem, Try.ntmps7, hs, ok, hp, hn]) <;> exact rfl
  · exact ⟨_, Try.func13, rfl, rfl⟩
  · (simp only [go_sem, Try.ntmps7, hs, ok, hp, hn]) <;> exact rfl
  · (simp only [go_sem, Try.ntmps7, hs, ok, hp, hn]) <;> exact rfl
  · exact ref_town _
  apply W_pre [6, 7, 8, 9, 10] [11, 12, 13, 14, 15, 16, 17, 18, 19, 20, 21, 22, 23, 24, 25, 26, 27, 28, 29, 30, 31, 32, 33, 34, 35, 36, 37, 38]
  · (simp only [go_sem, Try.ntmps7, hs, ok, hp, hn]) <;> exact rfl
  apply W_call -- call 2 of function 14
  · (simp only [go_sem, Try.ntmps7, hs, ok, hp, hn]) <;> exact rfl
  · (simp only [go_sem, Try.ntmps7, hs, ok, hp, hn]) <;> exact rfl
  · exact rfl
  · (simp only [go_sem, Try.ntmps7, hs, ok, hp, hn]) <;> exact rfl
  · (simp only [go_sem, Try.ntmps7, hs, ok, hp, hn]) <;> exact rfl
  · exact ⟨_, Try.func14, rfl, rfl⟩
  · (simp only [go_sem, Try.ntmps7, hs, ok, hp, hn]) <;> exact rfl
  · (simp only [go_sem, Try.ntmps7, hs, ok, hp, hn]) <;> exact rfl
  · exact ref_plan _ _
  apply W_pre [12, 13, 14, 15, 16] [17, 18, 19, 20, 21, 22, 23, 24, 25, 26, 27, 28, 29, 30, 31, 32, 33, 34, 35, 36, 37, 38]
  · (simp only [go_sem, Try.ntmps7, hs, ok, hp, hn]) <;> exact rfl
  apply W_call -- call 3 of function 33
  · (simp only [go_sem, Try.ntmps7, hs, ok, hp, hn]) <;> exact rfl
  · (simp only [go_sem, Try.ntmps7, hs, ok, hp, hn]) <;> exact rfl
  · exact rfl
  · (simp only [go_sem, Try.ntmps7, hs, ok, hp, hn]) <;> exact rfl
  · (simp only [go_sem, Try.ntmps7, hs, ok, hp, hn]) <;> exact rfl
  · exact ⟨_, Try.func33, rfl, rfl⟩
  · (simp only [go_sem, Try.ntmps7, hs, ok, hp, hn]) <;> exact rfl
  · (simp only [go_sem, Try.ntmps7, hs, ok, hp, hn]) <;> exact rfl
  · exact ref_lot _ _
  apply W_pre [18, 19, 20, 21] [22, 23, 24, 25, 26, 27, 28, 29, 30, 31, 32, 33, 34, 35, 36, 37, 38]
  · (simp only [go_sem, Try.ntmps7, hs, ok, hp, hn]) <;> exact rfl
  apply W_pre [22, 23, 24, 25] [26, 27, 28, 29, 30, 31, 32, 33, 34, 35, 36, 37, 38]
  · (simp only [go_sem, Try.ntmps7, hs, ok, hp, hn]) <;> exact rfl
  apply W_pre [26, 27, 28, 29] [30, 31, 32, 33, 34, 35, 36, 37, 38]
  · (simp only [go_sem, Try.ntmps7, hs, ok, hp, hn]) <;> exact rfl
  apply W_pre [30, 31, 32, 33] [34, 35, 36, 37, 38]
  · (simp only [go_sem, Try.ntmps7, hs, ok, hp, hn]) <;> exact rfl
  apply W_run
  · (simp only [go_sem, Try.ntmps7, hs, ok, hp, hn]) <;> exact rfl
  apply W_nil
  apply K_seq
  apply T_ifT -- h0
  · (simp only [go_sem, Try.ntmps7, hs, ok, hp, hn]) <;> exact rfl
  apply T_seq
  apply T_wL F [0, 1] rfl
  apply W_call -- call 4 of function 16
  · (simp only [go_sem, Try.ntmps7, hs, ok, hp, hn]) <;> exact rfl
  · (simp only [go_sem, Try.ntmps7, hs, ok, hp, hn]) <;> exact rfl
  · exact rfl
  · (simp only [go_sem, Try.ntmps7, hs, ok, hp, hn]) <;> exact rfl
  · (simp only [go_sem, Try.ntmps7, hs, ok, hp, hn]) <;> exact rfl
  · exact ⟨_, Try.func16, rfl, rfl⟩
  · (simp only [go_sem, Try.ntmps7, hs, ok, hp, hn]) <;> exact rfl
  · (simp only [go_sem, Try.ntmps7, hs, ok, hp, hn]) <;> exact rfl
  · exact known_ok
  apply W_run
  · (simp only [go_sem, Try.ntmps7, hs, ok, hp, hn]) <;> exact rfl
  apply W_nil
  apply K_seq
  apply T_ret
  apply K_seqR
  apply fin_ret
  · (simp only [go_sem, Try.ntmps7, hs, ok, hp, hn, Try.f7]) <;> exact rfl
  -- leaf 0 (ret)
  
  all_goals rfl

theorem law_moreE (t : Town) (p : List Int) (n k c : Int) (hs : M.Short t) (ok : M.Ok t) (hp : M.plan t p = true) (hn : M.lot t n = true) (hk : k < 0) : Ret Try.prog 7 [.agg (cT t), .sl 1 (rI p), .int .i64 n, .int .i64 k, .int .i64 c] (.bool true) := by
  apply Ret_fin (fn := Try.f7) Try.func7 rfl
  apply T_seq
  apply T_r F
  · (simp only [go_sem, Try.ntmps7, hs, ok, hp, hn, hk]) <;> exact rfl
  apply K_seq
  apply T_seq
  apply T_seq
  apply T_wL F [0, 1, 2, 3, 4, 5, 6, 7, 8, 9, 10, 11, 12, 13, 14, 15, 16, 17, 18, 19, 20, 21, 22, 23, 24, 25, 26, 27, 28, 29, 30, 31, 32, 33, 34, 35, 36, 37, 38] rfl
  apply W_pre [0] [1, 2, 3, 4, 5, 6, 7, 8, 9, 10, 11, 12, 13, 14, 15, 16, 17, 18, 19, 20, 21, 22, 23, 24, 25, 26, 27, 28, 29, 30, 31, 32, 33, 34, 35, 36, 37, 38]
  · (simp only [go_sem, Try.ntmps7, hs, ok, hp, hn, hk]) <;> exact rfl
  apply W_call -- call 0 of function 12
  · (simp only [go_sem, Try.ntmps7, hs, ok, hp, hn, hk]) <;> exact rfl
  · (simp only [go_sem, Try.ntmps7, hs, ok, hp, hn, hk]) <;> exact rfl
  · exact rfl
  · (simp only [go_sem, Try.ntmps7, hs, ok, hp, hn, hk]) <;> exact rfl
  · (simp only [go_sem, Try.ntmps7, hs, ok, hp, hn, hk]) <;> exact rfl
  · exact ⟨_, Try.func12, rfl, rfl⟩
  · (simp only [go_sem, Try.ntmps7, hs, ok, hp, hn, hk]) <;> exact rfl
  · (simp only [go_sem, Try.ntmps7, hs, ok, hp, hn, hk]) <;> exact rfl
  · exact law_short _
  apply W_pre [2, 3, 4] [5, 6, 7, 8, 9, 10, 11, 12, 13, 14, 15, 16, 17, 18, 19, 20, 21, 22, 23, 24, 25, 26, 27, 28, 29, 30, 31, 32, 33, 34, 35, 36, 37, 38]
  · (simp only [go_sem, Try.ntmps7, hs, ok, hp, hn, hk]) <;> exact rfl
  apply W_call -- call 1 of function 13
  · (simp only [go_sem, Try.ntmps7, hs, ok, hp, hn, hk]) <;> exact rfl
  · (simp only [go_sem, Try.ntmps7, hs, ok, hp, hn, hk]) <;> exact rfl
  · exact rfl
  · (simp only [go_sem, Try.ntmps7, hs, ok, hp, hn, hk]) <;> exact rfl
  · (simp only [go_sem, Try.ntmps7, hs, ok, hp, hn, hk]) <;> exact rfl
  · exact ⟨_, Try.func13, rfl, rfl⟩
  · (simp only [go_sem, Try.ntmps7, hs, ok, hp, hn, hk]) <;> exact rfl
  · (simp only [go_sem, Try.ntmps7, hs, ok, hp, hn, hk]) <;> exact rfl
  · exact ref_town _
  apply W_pre [6, 7, 8, 9, 10] [11, 12, 13, 14, 15, 16, 17, 18, 19, 20, 21, 22, 23, 24, 25, 26, 27, 28, 29, 30, 31, 32, 33, 34, 35, 36, 37, 38]
  · (simp only [go_sem, Try.ntmps7, hs, ok, hp, hn, hk]) <;> exact rfl
  apply W_call -- call 2 of function 14
  · (simp only [go_sem, Try.ntmps7, hs, ok, hp, hn, hk]) <;> exact rfl
  · (simp only [go_sem, Try.ntmps7, hs, ok, hp, hn, hk]) <;> exact rfl
  · exact rfl
  · (simp only [go_sem, Try.ntmps7, hs, ok, hp, hn, hk]) <;> exact rfl
  · (simp only [go_sem, Try.ntmps7, hs, ok, hp, hn, hk]) <;> exact rfl
  · exact ⟨_, Try.func14, rfl, rfl⟩
  · (simp only [go_sem, Try.ntmps7, hs, ok, hp, hn, hk]) <;> exact rfl
  · (simp only [go_sem, Try.ntmps7, hs, ok, hp, hn, hk]) <;> exact rfl
  · exact ref_plan _ _
  apply W_pre [12, 13, 14, 15, 16] [17, 18, 19, 20, 21, 22, 23, 24, 25, 26, 27, 28, 29, 30, 31, 32, 33, 34, 35, 36, 37, 38]
  · (simp only [go_sem, Try.ntmps7, hs, ok, hp, hn, hk]) <;> exact rfl
  apply W_call -- call 3 of function 33
  · (simp only [go_sem, Try.ntmps7, hs, ok, hp, hn, hk]) <;> exact rfl
  · (simp only [go_sem, Try.ntmps7, hs, ok, hp, hn, hk]) <;> exact rfl
  · exact rfl
  · (simp only [go_sem, Try.ntmps7, hs, ok, hp, hn, hk]) <;> exact rfl
  · (simp only [go_sem, Try.ntmps7, hs, ok, hp, hn, hk]) <;> exact rfl
  · exact ⟨_, Try.func33, rfl, rfl⟩
  · (simp only [go_sem, Try.ntmps7, hs, ok, hp, hn, hk]) <;> exact rfl
  · (simp only [go_sem, Try.ntmps7, hs, ok, hp, hn, hk]) <;> exact rfl
  · exact ref_lot _ _
  apply W_pre [18, 19, 20, 21] [22, 23, 24, 25, 26, 27, 28, 29, 30, 31, 32, 33, 34, 35, 36, 37, 38]
  · (simp only [go_sem, Try.ntmps7, hs, ok, hp, hn, hk]) <;> exact rfl
  apply W_pre [22, 23, 24, 25] [26, 27, 28, 29, 30, 31, 32, 33, 34, 35, 36, 37, 38]
  · (simp only [go_sem, Try.ntmps7, hs, ok, hp, hn, hk]) <;> exact rfl
  apply W_pre [26, 27, 28, 29] [30, 31, 32, 33, 34, 35, 36, 37, 38]
  · (simp only [go_sem, Try.ntmps7, hs, ok, hp, hn, hk]) <;> exact rfl
  apply W_pre [30, 31, 32, 33] [34, 35, 36, 37, 38]
  · (simp only [go_sem, Try.ntmps7, hs, ok, hp, hn, hk]) <;> exact rfl
  apply W_run
  · (simp only [go_sem, Try.ntmps7, hs, ok, hp, hn, hk]) <;> exact rfl
  apply W_nil
  apply K_seq
  apply T_ifT -- h0
  · (simp only [go_sem, Try.ntmps7, hs, ok, hp, hn, hk]) <;> exact rfl
  apply T_seq
  apply T_wL F [0, 1] rfl
  apply W_call -- call 4 of function 16
  · (simp only [go_sem, Try.ntmps7, hs, ok, hp, hn, hk]) <;> exact rfl
  · (simp only [go_sem, Try.ntmps7, hs, ok, hp, hn, hk]) <;> exact rfl
  · exact rfl
  · (simp only [go_sem, Try.ntmps7, hs, ok, hp, hn, hk]) <;> exact rfl
  · (simp only [go_sem, Try.ntmps7, hs, ok, hp, hn, hk]) <;> exact rfl
  · exact ⟨_, Try.func16, rfl, rfl⟩
  · (simp only [go_sem, Try.ntmps7, hs, ok, hp, hn, hk]) <;> exact rfl
  · (simp only [go_sem, Try.ntmps7, hs, ok, hp, hn, hk]) <;> exact rfl
  · exact known_ok
  apply W_run
  · (simp only [go_sem, Try.ntmps7, hs, ok, hp, hn, hk]) <;> exact rfl
  apply W_nil
  apply K_seq
  apply T_ret
  apply K_seqR
  apply fin_ret
  · (simp only [go_sem, Try.ntmps7, hs, ok, hp, hn, hk, Try.f7]) <;> exact rfl
  -- leaf 0 (ret)
  
  all_goals rfl

theorem law_moreF (t : Town) (p : List Int) (n k c : Int) (hs : M.Short t) (ok : M.Ok t) (hp : M.plan t p = true) (hn : M.lot t n = true) (hk : ¬ k < 0) (hk2 : (t.kin.length : Int) < k) : Ret Try.prog 7 [.agg (cT t), .sl 1 (rI p), .int .i64 n, .int .i64 k, .int .i64 c] (.bool true) := by
  apply Ret_fin (fn := Try.f7) Try.func7 rfl
  apply T_seq
  apply T_r F
  · (simp only [go_sem, Try.ntmps7, hs, ok, hp, hn, hk, hk2]) <;> exact rfl
  apply K_seq
  apply T_seq
  apply T_seq
  apply T_wL F [0, 1, 2, 3, 4, 5, 6, 7, 8, 9, 10, 11, 12, 13, 14, 15, 16, 17, 18, 19, 20, 21, 22, 23, 24, 25, 26, 27, 28, 29, 30, 31, 32, 33, 34, 35, 36, 37, 38] rfl
  apply W_pre [0] [1, 2, 3, 4, 5, 6, 7, 8, 9, 10, 11, 12, 13, 14, 15, 16, 17, 18, 19, 20, 21, 22, 23, 24, 25, 26, 27, 28, 29, 30, 31, 32, 33, 34, 35, 36, 37, 38]
  · (simp only [go_sem, Try.ntmps7, hs, ok, hp, hn, hk, hk2]) <;> exact rfl
  apply W_call -- call 0 of function 12
  · (simp only [go_sem, Try.ntmps7, hs, ok, hp, hn, hk, hk2]) <;> exact rfl
  · (simp only [go_sem, Try.ntmps7, hs, ok, hp, hn, hk, hk2]) <;> exact rfl
  · exact rfl
  · (simp only [go_sem, Try.ntmps7, hs, ok, hp, hn, hk, hk2]) <;> exact rfl
  · (simp only [go_sem, Try.ntmps7, hs, ok, hp, hn, hk, hk2]) <;> exact rfl
  · exact ⟨_, Try.func12, rfl, rfl⟩
  · (simp only [go_sem, Try.ntmps7, hs, ok, hp, hn, hk, hk2]) <;> exact rfl
  · (simp only [go_sem, Try.ntmps7, hs, ok, hp, hn, hk, hk2]) <;> exact rfl
  · exact law_short _
  apply W_pre [2, 3, 4] [5, 6, 7, 8, 9, 10, 11, 12, 13, 14, 15, 16, 17, 18, 19, 20, 21, 22, 23, 24, 25, 26, 27, 28, 29, 30, 31, 32, 33, 34, 35, 36, 37, 38]
  · (simp only [go_sem, Try.ntmps7, hs, ok, hp, hn, hk, hk2]) <;> exact rfl
  apply W_call -- call 1 of function 13
  · (simp only [go_sem, Try.ntmps7, hs, ok, hp, hn, hk, hk2]) <;> exact rfl
  · (simp only [go_sem, Try.ntmps7, hs, ok, hp, hn, hk, hk2]) <;> exact rfl
  · exact rfl
  · (simp only [go_sem, Try.ntmps7, hs, ok, hp, hn, hk, hk2]) <;> exact rfl
  · (simp only [go_sem, Try.ntmps7, hs, ok, hp, hn, hk, hk2]) <;> exact rfl
  · exact ⟨_, Try.func13, rfl, rfl⟩
  · (simp only [go_sem, Try.ntmps7, hs, ok, hp, hn, hk, hk2]) <;> exact rfl
  · (simp only [go_sem, Try.ntmps7, hs, ok, hp, hn, hk, hk2]) <;> exact rfl
  · exact ref_town _
  apply W_pre [6, 7, 8, 9, 10] [11, 12, 13, 14, 15, 16, 17, 18, 19, 20, 21, 22, 23, 24, 25, 26, 27, 28, 29, 30, 31, 32, 33, 34, 35, 36, 37, 38]
  · (simp only [go_sem, Try.ntmps7, hs, ok, hp, hn, hk, hk2]) <;> exact rfl
  apply W_call -- call 2 of function 14
  · (simp only [go_sem, Try.ntmps7, hs, ok, hp, hn, hk, hk2]) <;> exact rfl
  · (simp only [go_sem, Try.ntmps7, hs, ok, hp, hn, hk, hk2]) <;> exact rfl
  · exact rfl
  · (simp only [go_sem, Try.ntmps7, hs, ok, hp, hn, hk, hk2]) <;> exact rfl
  · (simp only [go_sem, Try.ntmps7, hs, ok, hp, hn, hk, hk2]) <;> exact rfl
  · exact ⟨_, Try.func14, rfl, rfl⟩
  · (simp only [go_sem, Try.ntmps7, hs, ok, hp, hn, hk, hk2]) <;> exact rfl
  · (simp only [go_sem, Try.ntmps7, hs, ok, hp, hn, hk, hk2]) <;> exact rfl
  · exact ref_plan _ _
  apply W_pre [12, 13, 14, 15, 16] [17, 18, 19, 20, 21, 22, 23, 24, 25, 26, 27, 28, 29, 30, 31, 32, 33, 34, 35, 36, 37, 38]
  · (simp only [go_sem, Try.ntmps7, hs, ok, hp, hn, hk, hk2]) <;> exact rfl
  apply W_call -- call 3 of function 33
  · (simp only [go_sem, Try.ntmps7, hs, ok, hp, hn, hk, hk2]) <;> exact rfl
  · (simp only [go_sem, Try.ntmps7, hs, ok, hp, hn, hk, hk2]) <;> exact rfl
  · exact rfl
  · (simp only [go_sem, Try.ntmps7, hs, ok, hp, hn, hk, hk2]) <;> exact rfl
  · (simp only [go_sem, Try.ntmps7, hs, ok, hp, hn, hk, hk2]) <;> exact rfl
  · exact ⟨_, Try.func33, rfl, rfl⟩
  · (simp only [go_sem, Try.ntmps7, hs, ok, hp, hn, hk, hk2]) <;> exact rfl
  · (simp only [go_sem, Try.ntmps7, hs, ok, hp, hn, hk, hk2]) <;> exact rfl
  · exact ref_lot _ _
  apply W_pre [18, 19, 20, 21] [22, 23, 24, 25, 26, 27, 28, 29, 30, 31, 32, 33, 34, 35, 36, 37, 38]
  · (simp only [go_sem, Try.ntmps7, hs, ok, hp, hn, hk, hk2]) <;> exact rfl
  apply W_pre [22, 23, 24, 25] [26, 27, 28, 29, 30, 31, 32, 33, 34, 35, 36, 37, 38]
  · (simp only [go_sem, Try.ntmps7, hs, ok, hp, hn, hk, hk2]) <;> exact rfl
  apply W_pre [26, 27, 28, 29] [30, 31, 32, 33, 34, 35, 36, 37, 38]
  · (simp only [go_sem, Try.ntmps7, hs, ok, hp, hn, hk, hk2]) <;> exact rfl
  apply W_pre [30, 31, 32, 33] [34, 35, 36, 37, 38]
  · (simp only [go_sem, Try.ntmps7, hs, ok, hp, hn, hk, hk2]) <;> exact rfl
  apply W_run
  · (simp only [go_sem, Try.ntmps7, hs, ok, hp, hn, hk, hk2]) <;> exact rfl
  apply W_nil
  apply K_seq
  apply T_ifT -- h0
  · (simp only [go_sem, Try.ntmps7, hs, ok, hp, hn, hk, hk2]) <;> exact rfl
  apply T_seq
  apply T_wL F [0, 1] rfl
  apply W_call -- call 4 of function 16
  · (simp only [go_sem, Try.ntmps7, hs, ok, hp, hn, hk, hk2]) <;> exact rfl
  · (simp only [go_sem, Try.ntmps7, hs, ok, hp, hn, hk, hk2]) <;> exact rfl
  · exact rfl
  · (simp only [go_sem, Try.ntmps7, hs, ok, hp, hn, hk, hk2]) <;> exact rfl
  · (simp only [go_sem, Try.ntmps7, hs, ok, hp, hn, hk, hk2]) <;> exact rfl
  · exact ⟨_, Try.func16, rfl, rfl⟩
  · (simp only [go_sem, Try.ntmps7, hs, ok, hp, hn, hk, hk2]) <;> exact rfl
  · (simp only [go_sem, Try.ntmps7, hs, ok, hp, hn, hk, hk2]) <;> exact rfl
  · exact known_ok
  apply W_run
  · (simp only [go_sem, Try.ntmps7, hs, ok, hp, hn, hk, hk2]) <;> exact rfl
  apply W_nil
  apply K_seq
  apply T_ret
  apply K_seqR
  apply fin_ret
  · (simp only [go_sem, Try.ntmps7, hs, ok, hp, hn, hk, hk2, Try.f7]) <;> exact rfl
  -- leaf 0 (ret)
  
  all_goals rfl

theorem law_moreG (t : Town) (p : List Int) (n k c : Int) (hs : M.Short t) (ok : M.Ok t) (hp : M.plan t p = true) (hn : M.lot t n = true) (hk : ¬ k < 0) (hk2 : ¬ (t.kin.length : Int) < k) (hc : c < 0) : Ret Try.prog 7 [.agg (cT t), .sl 1 (rI p), .int .i64 n, .int .i64 k, .int .i64 c] (.bool true) := by
  apply Ret_fin (fn := Try.f7) Try.func7 rfl
  apply T_seq
  apply T_r F
  · (simp only [go_sem, Try.ntmps7, hs, ok, hp, hn, hk, hk2, hc]) <;> exact rfl
  apply K_seq
  apply T_seq
  apply T_seq
  apply T_wL F [0, 1, 2, 3, 4, 5, 6, 7, 8, 9, 10, 11, 12, 13, 14, 15, 16, 17, 18, 19, 20, 21, 22, 23, 24, 25, 26, 27, 28, 29, 30, 31, 32, 33, 34, 35, 36, 37, 38] rfl
  apply W_pre [0] [1, 2, 3, 4, 5, 6, 7, 8, 9, 10, 11, 12, 13, 14, 15, 16, 17, 18, 19, 20, 21, 22, 23, 24, 25, 26, 27, 28, 29, 30, 31, 32, 33, 34, 35, 36, 37, 38]
  · (simp only [go_sem, Try.ntmps7, hs, ok, hp, hn, hk, hk2, hc]) <;> exact rfl
  apply W_call -- call 0 of function 12
  · (simp only [go_sem, Try.ntmps7, hs, ok, hp, hn, hk, hk2, hc]) <;> exact rfl
  · (simp only [go_sem, Try.ntmps7, hs, ok, hp, hn, hk, hk2, hc]) <;> exact rfl
  · exact rfl
  · (simp only [go_sem, Try.ntmps7, hs, ok, hp, hn, hk, hk2, hc]) <;> exact rfl
  · (simp only [go_sem, Try.ntmps7, hs, ok, hp, hn, hk, hk2, hc]) <;> exact rfl
  · exact ⟨_, Try.func12, rfl, rfl⟩
  · (simp only [go_sem, Try.ntmps7, hs, ok, hp, hn, hk, hk2, hc]) <;> exact rfl
  · (simp only [go_sem, Try.ntmps7, hs, ok, hp, hn, hk, hk2, hc]) <;> exact rfl
  · exact law_short _
  apply W_pre [2, 3, 4] [5, 6, 7, 8, 9, 10, 11, 12, 13, 14, 15, 16, 17, 18, 19, 20, 21, 22, 23, 24, 25, 26, 27, 28, 29, 30, 31, 32, 33, 34, 35, 36, 37, 38]
  · (simp only [go_sem, Try.ntmps7, hs, ok, hp, hn, hk, hk2, hc]) <;> exact rfl
  apply W_call -- call 1 of function 13
  · (simp only [go_sem, Try.ntmps7, hs, ok, hp, hn, hk, hk2, hc]) <;> exact rfl
  · (simp only [go_sem, Try.ntmps7, hs, ok, hp, hn, hk, hk2, hc]) <;> exact rfl
  · exact rfl
  · (simp only [go_sem, Try.ntmps7, hs, ok, hp, hn, hk, hk2, hc]) <;> exact rfl
  · (simp only [go_sem, Try.ntmps7, hs, ok, hp, hn, hk, hk2, hc]) <;> exact rfl
  · exact ⟨_, Try.func13, rfl, rfl⟩
  · (simp only [go_sem, Try.ntmps7, hs, ok, hp, hn, hk, hk2, hc]) <;> exact rfl
  · (simp only [go_sem, Try.ntmps7, hs, ok, hp, hn, hk, hk2, hc]) <;> exact rfl
  · exact ref_town _
  apply W_pre [6, 7, 8, 9, 10] [11, 12, 13, 14, 15, 16, 17, 18, 19, 20, 21, 22, 23, 24, 25, 26, 27, 28, 29, 30, 31, 32, 33, 34, 35, 36, 37, 38]
  · (simp only [go_sem, Try.ntmps7, hs, ok, hp, hn, hk, hk2, hc]) <;> exact rfl
  apply W_call -- call 2 of function 14
  · (simp only [go_sem, Try.ntmps7, hs, ok, hp, hn, hk, hk2, hc]) <;> exact rfl
  · (simp only [go_sem, Try.ntmps7, hs, ok, hp, hn, hk, hk2, hc]) <;> exact rfl
  · exact rfl
  · (simp only [go_sem, Try.ntmps7, hs, ok, hp, hn, hk, hk2, hc]) <;> exact rfl
  · (simp only [go_sem, Try.ntmps7, hs, ok, hp, hn, hk, hk2, hc]) <;> exact rfl
  · exact ⟨_, Try.func14, rfl, rfl⟩
  · (simp only [go_sem, Try.ntmps7, hs, ok, hp, hn, hk, hk2, hc]) <;> exact rfl
  · (simp only [go_sem, Try.ntmps7, hs, ok, hp, hn, hk, hk2, hc]) <;> exact rfl
  · exact ref_plan _ _
  apply W_pre [12, 13, 14, 15, 16] [17, 18, 19, 20, 21, 22, 23, 24, 25, 26, 27, 28, 29, 30, 31, 32, 33, 34, 35, 36, 37, 38]
  · (simp only [go_sem, Try.ntmps7, hs, ok, hp, hn, hk, hk2, hc]) <;> exact rfl
  apply W_call -- call 3 of function 33
  · (simp only [go_sem, Try.ntmps7, hs, ok, hp, hn, hk, hk2, hc]) <;> exact rfl
  · (simp only [go_sem, Try.ntmps7, hs, ok, hp, hn, hk, hk2, hc]) <;> exact rfl
  · exact rfl
  · (simp only [go_sem, Try.ntmps7, hs, ok, hp, hn, hk, hk2, hc]) <;> exact rfl
  · (simp only [go_sem, Try.ntmps7, hs, ok, hp, hn, hk, hk2, hc]) <;> exact rfl
  · exact ⟨_, Try.func33, rfl, rfl⟩
  · (simp only [go_sem, Try.ntmps7, hs, ok, hp, hn, hk, hk2, hc]) <;> exact rfl
  · (simp only [go_sem, Try.ntmps7, hs, ok, hp, hn, hk, hk2, hc]) <;> exact rfl
  · exact ref_lot _ _
  apply W_pre [18, 19, 20, 21] [22, 23, 24, 25, 26, 27, 28, 29, 30, 31, 32, 33, 34, 35, 36, 37, 38]
  · (simp only [go_sem, Try.ntmps7, hs, ok, hp, hn, hk, hk2, hc]) <;> exact rfl
  apply W_pre [22, 23, 24, 25] [26, 27, 28, 29, 30, 31, 32, 33, 34, 35, 36, 37, 38]
  · (simp only [go_sem, Try.ntmps7, hs, ok, hp, hn, hk, hk2, hc]) <;> exact rfl
  apply W_pre [26, 27, 28, 29] [30, 31, 32, 33, 34, 35, 36, 37, 38]
  · (simp only [go_sem, Try.ntmps7, hs, ok, hp, hn, hk, hk2, hc]) <;> exact rfl
  apply W_pre [30, 31, 32, 33] [34, 35, 36, 37, 38]
  · (simp only [go_sem, Try.ntmps7, hs, ok, hp, hn, hk, hk2, hc]) <;> exact rfl
  apply W_run
  · (simp only [go_sem, Try.ntmps7, hs, ok, hp, hn, hk, hk2, hc]) <;> exact rfl
  apply W_nil
  apply K_seq
  apply T_ifT -- h0
  · (simp only [go_sem, Try.ntmps7, hs, ok, hp, hn, hk, hk2, hc]) <;> exact rfl
  apply T_seq
  apply T_wL F [0, 1] rfl
  apply W_call -- call 4 of function 16
  · (simp only [go_sem, Try.ntmps7, hs, ok, hp, hn, hk, hk2, hc]) <;> exact rfl
  · (simp only [go_sem, Try.ntmps7, hs, ok, hp, hn, hk, hk2, hc]) <;> exact rfl
  · exact rfl
  · (simp only [go_sem, Try.ntmps7, hs, ok, hp, hn, hk, hk2, hc]) <;> exact rfl
  · (simp only [go_sem, Try.ntmps7, hs, ok, hp, hn, hk, hk2, hc]) <;> exact rfl
  · exact ⟨_, Try.func16, rfl, rfl⟩
  · (simp only [go_sem, Try.ntmps7, hs, ok, hp, hn, hk, hk2, hc]) <;> exact rfl
  · (simp only [go_sem, Try.ntmps7, hs, ok, hp, hn, hk, hk2, hc]) <;> exact rfl
  · exact known_ok
  apply W_run
  · (simp only [go_sem, Try.ntmps7, hs, ok, hp, hn, hk, hk2, hc]) <;> exact rfl
  apply W_nil
  apply K_seq
  apply T_ret
  apply K_seqR
  apply fin_ret
  · (simp only [go_sem, Try.ntmps7, hs, ok, hp, hn, hk, hk2, hc, Try.f7]) <;> exact rfl
  -- leaf 0 (ret)
  
  all_goals rfl

theorem law_moreH (t : Town) (p : List Int) (n k c : Int) (hs : M.Short t) (ok : M.Ok t) (hp : M.plan t p = true) (hn : M.lot t n = true) (hk : ¬ k < 0) (hk2 : ¬ (t.kin.length : Int) < k) (hc : ¬ c < 0) (hc2 : 1000 < c) : Ret Try.prog 7 [.agg (cT t), .sl 1 (rI p), .int .i64 n, .int .i64 k, .int .i64 c] (.bool true) := by
  apply Ret_fin (fn := Try.f7) Try.func7 rfl
  apply T_seq
  apply T_r F
  · (simp only [go_sem, Try.ntmps7, hs, ok, hp, hn, hk, hk2, hc, hc2]) <;> exact rfl
  apply K_seq
  apply T_seq
  apply T_seq
  apply T_wL F [0, 1, 2, 3, 4, 5, 6, 7, 8, 9, 10, 11, 12, 13, 14, 15, 16, 17, 18, 19, 20, 21, 22, 23, 24, 25, 26, 27, 28, 29, 30, 31, 32, 33, 34, 35, 36, 37, 38] rfl
  apply W_pre [0] [1, 2, 3, 4, 5, 6, 7, 8, 9, 10, 11, 12, 13, 14, 15, 16, 17, 18, 19, 20, 21, 22, 23, 24, 25, 26, 27, 28, 29, 30, 31, 32, 33, 34, 35, 36, 37, 38]
  · (simp only [go_sem, Try.ntmps7, hs, ok, hp, hn, hk, hk2, hc, hc2]) <;> exact rfl
  apply W_call -- call 0 of function 12
  · (simp only [go_sem, Try.ntmps7, hs, ok, hp, hn, hk, hk2, hc, hc2]) <;> exact rfl
  · (simp only [go_sem, Try.ntmps7, hs, ok, hp, hn, hk, hk2, hc, hc2]) <;> exact rfl
  · exact rfl
  · (simp only [go_sem, Try.ntmps7, hs, ok, hp, hn, hk, hk2, hc, hc2]) <;> exact rfl
  · (simp only [go_sem, Try.ntmps7, hs, ok, hp, hn, hk, hk2, hc, hc2]) <;> exact rfl
  · exact ⟨_, Try.func12, rfl, rfl⟩
  · (simp only [go_sem, Try.ntmps7, hs, ok, hp, hn, hk, hk2, hc, hc2]) <;> exact rfl
  · (simp only [go_sem, Try.ntmps7, hs, ok, hp, hn, hk, hk2, hc, hc2]) <;> exact rfl
  · exact law_short _
  apply W_pre [2, 3, 4] [5, 6, 7, 8, 9, 10, 11, 12, 13, 14, 15, 16, 17, 18, 19, 20, 21, 22, 23, 24, 25, 26, 27, 28, 29, 30, 31, 32, 33, 34, 35, 36, 37, 38]
  · (simp only [go_sem, Try.ntmps7, hs, ok, hp, hn, hk, hk2, hc, hc2]) <;> exact rfl
  apply W_call -- call 1 of function 13
  · (simp only [go_sem, Try.ntmps7, hs, ok, hp, hn, hk, hk2, hc, hc2]) <;> exact rfl
  · (simp only [go_sem, Try.ntmps7, hs, ok, hp, hn, hk, hk2, hc, hc2]) <;> exact rfl
  · exact rfl
  · (simp only [go_sem, Try.ntmps7, hs, ok, hp, hn, hk, hk2, hc, hc2]) <;> exact rfl
  · (simp only [go_sem, Try.ntmps7, hs, ok, hp, hn, hk, hk2, hc, hc2]) <;> exact rfl
  · exact ⟨_, Try.func13, rfl, rfl⟩
  · (simp only [go_sem, Try.ntmps7, hs, ok, hp, hn, hk, hk2, hc, hc2]) <;> exact rfl
  · (simp only [go_sem, Try.ntmps7, hs, ok, hp, hn, hk, hk2, hc, hc2]) <;> exact rfl
  · exact ref_town _
  apply W_pre [6, 7, 8, 9, 10] [11, 12, 13, 14, 15, 16, 17, 18, 19, 20, 21, 22, 23, 24, 25, 26, 27, 28, 29, 30, 31, 32, 33, 34, 35, 36, 37, 38]
  · (simp only [go_sem, Try.ntmps7, hs, ok, hp, hn, hk, hk2, hc, hc2]) <;> exact rfl
  apply W_call -- call 2 of function 14
  · (simp only [go_sem, Try.ntmps7, hs, ok, hp, hn, hk, hk2, hc, hc2]) <;> exact rfl
  · (simp only [go_sem, Try.ntmps7, hs, ok, hp, hn, hk, hk2, hc, hc2]) <;> exact rfl
  · exact rfl
  · (simp only [go_sem, Try.ntmps7, hs, ok, hp, hn, hk, hk2, hc, hc2]) <;> exact rfl
  · (simp only [go_sem, Try.ntmps7, hs, ok, hp, hn, hk, hk2, hc, hc2]) <;> exact rfl
  · exact ⟨_, Try.func14, rfl, rfl⟩
  · (simp only [go_sem, Try.ntmps7, hs, ok, hp, hn, hk, hk2, hc, hc2]) <;> exact rfl
  · (simp only [go_sem, Try.ntmps7, hs, ok, hp, hn, hk, hk2, hc, hc2]) <;> exact rfl
  · exact ref_plan _ _
  apply W_pre [12, 13, 14, 15, 16] [17, 18, 19, 20, 21, 22, 23, 24, 25, 26, 27, 28, 29, 30, 31, 32, 33, 34, 35, 36, 37, 38]
  · (simp only [go_sem, Try.ntmps7, hs, ok, hp, hn, hk, hk2, hc, hc2]) <;> exact rfl
  apply W_call -- call 3 of function 33
  · (simp only [go_sem, Try.ntmps7, hs, ok, hp, hn, hk, hk2, hc, hc2]) <;> exact rfl
  · (simp only [go_sem, Try.ntmps7, hs, ok, hp, hn, hk, hk2, hc, hc2]) <;> exact rfl
  · exact rfl
  · (simp only [go_sem, Try.ntmps7, hs, ok, hp, hn, hk, hk2, hc, hc2]) <;> exact rfl
  · (simp only [go_sem, Try.ntmps7, hs, ok, hp, hn, hk, hk2, hc, hc2]) <;> exact rfl
  · exact ⟨_, Try.func33, rfl, rfl⟩
  · (simp only [go_sem, Try.ntmps7, hs, ok, hp, hn, hk, hk2, hc, hc2]) <;> exact rfl
  · (simp only [go_sem, Try.ntmps7, hs, ok, hp, hn, hk, hk2, hc, hc2]) <;> exact rfl
  · exact ref_lot _ _
  apply W_pre [18, 19, 20, 21] [22, 23, 24, 25, 26, 27, 28, 29, 30, 31, 32, 33, 34, 35, 36, 37, 38]
  · (simp only [go_sem, Try.ntmps7, hs, ok, hp, hn, hk, hk2, hc, hc2]) <;> exact rfl
  apply W_pre [22, 23, 24, 25] [26, 27, 28, 29, 30, 31, 32, 33, 34, 35, 36, 37, 38]
  · (simp only [go_sem, Try.ntmps7, hs, ok, hp, hn, hk, hk2, hc, hc2]) <;> exact rfl
  apply W_pre [26, 27, 28, 29] [30, 31, 32, 33, 34, 35, 36, 37, 38]
  · (simp only [go_sem, Try.ntmps7, hs, ok, hp, hn, hk, hk2, hc, hc2]) <;> exact rfl
  apply W_pre [30, 31, 32, 33] [34, 35, 36, 37, 38]
  · (simp only [go_sem, Try.ntmps7, hs, ok, hp, hn, hk, hk2, hc, hc2]) <;> exact rfl
  apply W_run
  · (simp only [go_sem, Try.ntmps7, hs, ok, hp, hn, hk, hk2, hc, hc2]) <;> exact rfl
  apply W_nil
  apply K_seq
  apply T_ifT -- h0
  · (simp only [go_sem, Try.ntmps7, hs, ok, hp, hn, hk, hk2, hc, hc2]) <;> exact rfl
  apply T_seq
  apply T_wL F [0, 1] rfl
  apply W_call -- call 4 of function 16
  · (simp only [go_sem, Try.ntmps7, hs, ok, hp, hn, hk, hk2, hc, hc2]) <;> exact rfl
  · (simp only [go_sem, Try.ntmps7, hs, ok, hp, hn, hk, hk2, hc, hc2]) <;> exact rfl
  · exact rfl
  · (simp only [go_sem, Try.ntmps7, hs, ok, hp, hn, hk, hk2, hc, hc2]) <;> exact rfl
  · (simp only [go_sem, Try.ntmps7, hs, ok, hp, hn, hk, hk2, hc, hc2]) <;> exact rfl
  · exact ⟨_, Try.func16, rfl, rfl⟩
  · (simp only [go_sem, Try.ntmps7, hs, ok, hp, hn, hk, hk2, hc, hc2]) <;> exact rfl
  · (simp only [go_sem, Try.ntmps7, hs, ok, hp, hn, hk, hk2, hc, hc2]) <;> exact rfl
  · exact known_ok
  apply W_run
  · (simp only [go_sem, Try.ntmps7, hs, ok, hp, hn, hk, hk2, hc, hc2]) <;> exact rfl
  apply W_nil
  apply K_seq
  apply T_ret
  apply K_seqR
  apply fin_ret
  · (simp only [go_sem, Try.ntmps7, hs, ok, hp, hn, hk, hk2, hc, hc2, Try.f7]) <;> exact rfl
  -- leaf 0 (ret)
  
  all_goals rfl

theorem law_moreI (t : Town) (p : List Int) (n k c : Int) (hs : M.Short t) (ok : M.Ok t) (hp : M.plan t p = true) (hn : M.lot t n = true) (hk : ¬ k < 0) (hk2 : ¬ (t.kin.length : Int) < k) (hc : ¬ c < 0) (hc2 : ¬ 1000 < c) : Ret Try.prog 7 [.agg (cT t), .sl 1 (rI p), .int .i64 n, .int .i64 k, .int .i64 c] (.bool true) := by
  have hh : t.houses.length ≤ 1000 := by have := hs.2.2.2.2.2.1; omega
  have hk0 : 0 ≤ k := by omega
  have hk1 : k.toNat ≤ t.kin.length := by omega
  have hr := M.inr_iff.1 ok.reach
  have hw : IntKind.i64.wrap (t.reach + c) = t.reach + c := wrap_id (by omega) (by omega)
  have hwl := M.walk_le ok
  have hc0 : 0 ≤ c := by omega
  have okx : M.Ok (M.more t n k c) := M.more_ok ok hc0
  have hpx : M.plan (M.more t n k c) p = true := hp
  apply Ret_fin (fn := Try.f7) Try.func7 rfl
  apply T_seq
  apply T_r F
  · (simp only [go_sem, Try.ntmps7, hs, ok, hp, hn, hk, hk2, hc, hc2, hk0, hk1, hw, rP_take, Int.toNat_zero, List.drop_zero, bne_self_eq_false]) <;> exact rfl
  apply K_seq
  apply T_seq
  apply T_seq
  apply T_wL F [0, 1, 2, 3, 4, 5, 6, 7, 8, 9, 10, 11, 12, 13, 14, 15, 16, 17, 18, 19, 20, 21, 22, 23, 24, 25, 26, 27, 28, 29, 30, 31, 32, 33, 34, 35, 36, 37, 38] rfl
  apply W_pre [0] [1, 2, 3, 4, 5, 6, 7, 8, 9, 10, 11, 12, 13, 14, 15, 16, 17, 18, 19, 20, 21, 22, 23, 24, 25, 26, 27, 28, 29, 30, 31, 32, 33, 34, 35, 36, 37, 38]
  · (simp only [go_sem, Try.ntmps7, hs, ok, hp, hn, hk, hk2, hc, hc2, hk0, hk1, hw, rP_take, Int.toNat_zero, List.drop_zero, bne_self_eq_false]) <;> exact rfl
  apply W_call -- call 0 of function 12
  · (simp only [go_sem, Try.ntmps7, hs, ok, hp, hn, hk, hk2, hc, hc2, hk0, hk1, hw, rP_take, Int.toNat_zero, List.drop_zero, bne_self_eq_false]) <;> exact rfl
  · (simp only [go_sem, Try.ntmps7, hs, ok, hp, hn, hk, hk2, hc, hc2, hk0, hk1, hw, rP_take, Int.toNat_zero, List.drop_zero, bne_self_eq_false]) <;> exact rfl
  · exact rfl
  · (simp only [go_sem, Try.ntmps7, hs, ok, hp, hn, hk, hk2, hc, hc2, hk0, hk1, hw, rP_take, Int.toNat_zero, List.drop_zero, bne_self_eq_false]) <;> exact rfl
  · (simp only [go_sem, Try.ntmps7, hs, ok, hp, hn, hk, hk2, hc, hc2, hk0, hk1, hw, rP_take, Int.toNat_zero, List.drop_zero, bne_self_eq_false]) <;> exact rfl
  · exact ⟨_, Try.func12, rfl, rfl⟩
  · (simp only [go_sem, Try.ntmps7, hs, ok, hp, hn, hk, hk2, hc, hc2, hk0, hk1, hw, rP_take, Int.toNat_zero, List.drop_zero, bne_self_eq_false]) <;> exact rfl
  · (simp only [go_sem, Try.ntmps7, hs, ok, hp, hn, hk, hk2, hc, hc2, hk0, hk1, hw, rP_take, Int.toNat_zero, List.drop_zero, bne_self_eq_false]) <;> exact rfl
  · exact law_short _
  apply W_pre [2, 3, 4] [5, 6, 7, 8, 9, 10, 11, 12, 13, 14, 15, 16, 17, 18, 19, 20, 21, 22, 23, 24, 25, 26, 27, 28, 29, 30, 31, 32, 33, 34, 35, 36, 37, 38]
  · (simp only [go_sem, Try.ntmps7, hs, ok, hp, hn, hk, hk2, hc, hc2, hk0, hk1, hw, rP_take, Int.toNat_zero, List.drop_zero, bne_self_eq_false]) <;> exact rfl
  apply W_call -- call 1 of function 13
  · (simp only [go_sem, Try.ntmps7, hs, ok, hp, hn, hk, hk2, hc, hc2, hk0, hk1, hw, rP_take, Int.toNat_zero, List.drop_zero, bne_self_eq_false]) <;> exact rfl
  · (simp only [go_sem, Try.ntmps7, hs, ok, hp, hn, hk, hk2, hc, hc2, hk0, hk1, hw, rP_take, Int.toNat_zero, List.drop_zero, bne_self_eq_false]) <;> exact rfl
  · exact rfl
  · (simp only [go_sem, Try.ntmps7, hs, ok, hp, hn, hk, hk2, hc, hc2, hk0, hk1, hw, rP_take, Int.toNat_zero, List.drop_zero, bne_self_eq_false]) <;> exact rfl
  · (simp only [go_sem, Try.ntmps7, hs, ok, hp, hn, hk, hk2, hc, hc2, hk0, hk1, hw, rP_take, Int.toNat_zero, List.drop_zero, bne_self_eq_false]) <;> exact rfl
  · exact ⟨_, Try.func13, rfl, rfl⟩
  · (simp only [go_sem, Try.ntmps7, hs, ok, hp, hn, hk, hk2, hc, hc2, hk0, hk1, hw, rP_take, Int.toNat_zero, List.drop_zero, bne_self_eq_false]) <;> exact rfl
  · (simp only [go_sem, Try.ntmps7, hs, ok, hp, hn, hk, hk2, hc, hc2, hk0, hk1, hw, rP_take, Int.toNat_zero, List.drop_zero, bne_self_eq_false]) <;> exact rfl
  · exact ref_town _
  apply W_pre [6, 7, 8, 9, 10] [11, 12, 13, 14, 15, 16, 17, 18, 19, 20, 21, 22, 23, 24, 25, 26, 27, 28, 29, 30, 31, 32, 33, 34, 35, 36, 37, 38]
  · (simp only [go_sem, Try.ntmps7, hs, ok, hp, hn, hk, hk2, hc, hc2, hk0, hk1, hw, rP_take, Int.toNat_zero, List.drop_zero, bne_self_eq_false]) <;> exact rfl
  apply W_call -- call 2 of function 14
  · (simp only [go_sem, Try.ntmps7, hs, ok, hp, hn, hk, hk2, hc, hc2, hk0, hk1, hw, rP_take, Int.toNat_zero, List.drop_zero, bne_self_eq_false]) <;> exact rfl
  · (simp only [go_sem, Try.ntmps7, hs, ok, hp, hn, hk, hk2, hc, hc2, hk0, hk1, hw, rP_take, Int.toNat_zero, List.drop_zero, bne_self_eq_false]) <;> exact rfl
  · exact rfl
  · (simp only [go_sem, Try.ntmps7, hs, ok, hp, hn, hk, hk2, hc, hc2, hk0, hk1, hw, rP_take, Int.toNat_zero, List.drop_zero, bne_self_eq_false]) <;> exact rfl
  · (simp only [go_sem, Try.ntmps7, hs, ok, hp, hn, hk, hk2, hc, hc2, hk0, hk1, hw, rP_take, Int.toNat_zero, List.drop_zero, bne_self_eq_false]) <;> exact rfl
  · exact ⟨_, Try.func14, rfl, rfl⟩
  · (simp only [go_sem, Try.ntmps7, hs, ok, hp, hn, hk, hk2, hc, hc2, hk0, hk1, hw, rP_take, Int.toNat_zero, List.drop_zero, bne_self_eq_false]) <;> exact rfl
  · (simp only [go_sem, Try.ntmps7, hs, ok, hp, hn, hk, hk2, hc, hc2, hk0, hk1, hw, rP_take, Int.toNat_zero, List.drop_zero, bne_self_eq_false]) <;> exact rfl
  · exact ref_plan _ _
  apply W_pre [12, 13, 14, 15, 16] [17, 18, 19, 20, 21, 22, 23, 24, 25, 26, 27, 28, 29, 30, 31, 32, 33, 34, 35, 36, 37, 38]
  · (simp only [go_sem, Try.ntmps7, hs, ok, hp, hn, hk, hk2, hc, hc2, hk0, hk1, hw, rP_take, Int.toNat_zero, List.drop_zero, bne_self_eq_false]) <;> exact rfl
  apply W_call -- call 3 of function 33
  · (simp only [go_sem, Try.ntmps7, hs, ok, hp, hn, hk, hk2, hc, hc2, hk0, hk1, hw, rP_take, Int.toNat_zero, List.drop_zero, bne_self_eq_false]) <;> exact rfl
  · (simp only [go_sem, Try.ntmps7, hs, ok, hp, hn, hk, hk2, hc, hc2, hk0, hk1, hw, rP_take, Int.toNat_zero, List.drop_zero, bne_self_eq_false]) <;> exact rfl
  · exact rfl
  · (simp only [go_sem, Try.ntmps7, hs, ok, hp, hn, hk, hk2, hc, hc2, hk0, hk1, hw, rP_take, Int.toNat_zero, List.drop_zero, bne_self_eq_false]) <;> exact rfl
  · (simp only [go_sem, Try.ntmps7, hs, ok, hp, hn, hk, hk2, hc, hc2, hk0, hk1, hw, rP_take, Int.toNat_zero, List.drop_zero, bne_self_eq_false]) <;> exact rfl
  · exact ⟨_, Try.func33, rfl, rfl⟩
  · (simp only [go_sem, Try.ntmps7, hs, ok, hp, hn, hk, hk2, hc, hc2, hk0, hk1, hw, rP_take, Int.toNat_zero, List.drop_zero, bne_self_eq_false]) <;> exact rfl
  · (simp only [go_sem, Try.ntmps7, hs, ok, hp, hn, hk, hk2, hc, hc2, hk0, hk1, hw, rP_take, Int.toNat_zero, List.drop_zero, bne_self_eq_false]) <;> exact rfl
  · exact ref_lot _ _
  apply W_pre [18, 19, 20, 21] [22, 23, 24, 25, 26, 27, 28, 29, 30, 31, 32, 33, 34, 35, 36, 37, 38]
  · (simp only [go_sem, Try.ntmps7, hs, ok, hp, hn, hk, hk2, hc, hc2, hk0, hk1, hw, rP_take, Int.toNat_zero, List.drop_zero, bne_self_eq_false]) <;> exact rfl
  apply W_pre [22, 23, 24, 25] [26, 27, 28, 29, 30, 31, 32, 33, 34, 35, 36, 37, 38]
  · (simp only [go_sem, Try.ntmps7, hs, ok, hp, hn, hk, hk2, hc, hc2, hk0, hk1, hw, rP_take, Int.toNat_zero, List.drop_zero, bne_self_eq_false]) <;> exact rfl
  apply W_pre [26, 27, 28, 29] [30, 31, 32, 33, 34, 35, 36, 37, 38]
  · (simp only [go_sem, Try.ntmps7, hs, ok, hp, hn, hk, hk2, hc, hc2, hk0, hk1, hw, rP_take, Int.toNat_zero, List.drop_zero, bne_self_eq_false]) <;> exact rfl
  apply W_pre [30, 31, 32, 33] [34, 35, 36, 37, 38]
  · (simp only [go_sem, Try.ntmps7, hs, ok, hp, hn, hk, hk2, hc, hc2, hk0, hk1, hw, rP_take, Int.toNat_zero, List.drop_zero, bne_self_eq_false]) <;> exact rfl
  apply W_run
  · (simp only [go_sem, Try.ntmps7, hs, ok, hp, hn, hk, hk2, hc, hc2, hk0, hk1, hw, rP_take, Int.toNat_zero, List.drop_zero, bne_self_eq_false]) <;> exact rfl
  apply W_nil
  apply K_seq
  apply T_ifF -- h0
  · (simp only [go_sem, Try.ntmps7, hs, ok, hp, hn, hk, hk2, hc, hc2, hk0, hk1, hw, rP_take, Int.toNat_zero, List.drop_zero, bne_self_eq_false]) <;> exact rfl
  apply T_skip
  apply K_seq
  apply T_seq
  apply T_r F
  · (simp only [go_sem, Try.ntmps7, hs, ok, hp, hn, hk, hk2, hc, hc2, hk0, hk1, hw, rP_take, Int.toNat_zero, List.drop_zero, bne_self_eq_false]) <;> exact rfl
  apply K_seq
  apply T_seq
  apply T_r F
  · (simp only [go_sem, Try.ntmps7, hs, ok, hp, hn, hk, hk2, hc, hc2, hk0, hk1, hw, rP_take, Int.toNat_zero, List.drop_zero, bne_self_eq_false]) <;> exact rfl
  apply K_seq
  apply T_seq
  apply T_r F
  · (simp only [go_sem, Try.ntmps7, hs, ok, hp, hn, hk, hk2, hc, hc2, hk0, hk1, hw, rP_take, Int.toNat_zero, List.drop_zero, bne_self_eq_false]) <;> exact rfl
  apply K_seq
  apply T_seq
  apply T_r F
  · (simp only [go_sem, Try.ntmps7, hs, ok, hp, hn, hk, hk2, hc, hc2, hk0, hk1, hw, rP_take, Int.toNat_zero, List.drop_zero, bne_self_eq_false]) <;> exact rfl
  apply K_seq
  apply T_seq
  apply T_seq
  apply T_r F
  · (simp only [go_sem, Try.ntmps7, hs, ok, hp, hn, hk, hk2, hc, hc2, hk0, hk1, hw, rP_take, Int.toNat_zero, List.drop_zero, bne_self_eq_false]) <;> exact rfl
  apply K_seq
  apply T_block
  apply T_ghostB 1 2 28 _ 3 1
  · (simp only [go_sem, Try.ntmps7, hs, ok, hp, hn, hk, hk2, hc, hc2, hk0, hk1, hw, rP_take, Int.toNat_zero, List.drop_zero, bne_self_eq_false]) <;> exact rfl
  · (simp only [go_sem, Try.ntmps7, hs, ok, hp, hn, hk, hk2, hc, hc2, hk0, hk1, hw, rP_take, Int.toNat_zero, List.drop_zero, bne_self_eq_false]) <;> exact rfl
  apply T_lp (α := Nat) [false, true, true, false, false, true, false, false, false, false, false, true, true, false, false, false, false, false, false, false, false, false, false, false, false, false, false, false, false, false, false, false, false, false, false, false, false, false, false, false, false, false, false, false, false, false, false, false, false, false, false, false, false, false, false, false, false, false, false, false, false, false, false, false, false, false, false, false, false, false, false, false, false, false, false, false, false, false, false, false, false, false, false, false, false, false, false, false, false, false, false, false, false, false, false, false, false, false, false, false, false, false, false, false, false, false, false, false, false, false, false, false, false, false, false, false, false, false, false, false, false, false, false, false, false, false, false, false, false, false, false, false, false, false, false, false, false, false, false, false, false, false, false, false, false, false, false, false, false, false, false, false, false, false, false, false, false, false, false, false, false, false, false, false, false, false, false, false, false, false, false, false, false, false, false, false, false, false, false, false, false, false, false, false, false, false, false, false, false, false, false, false, false, false, false, false, false, false, false] (fun i => (⟨[.undef, .sl 1 (rI p), .int .i64 n, .undef, .undef, .ptr 0 0, .undef, .undef, .undef, .undef, .undef, .ptr 1 0, .int .i64 (i : Int), .undef, .undef, .undef, .undef, .undef, .undef, .undef, .undef, .undef, .undef, .undef, .undef, .undef, .undef, .undef, .undef, .undef, .undef, .undef, .undef, .undef, .undef, .undef, .undef, .undef, .undef, .undef, .undef, .undef, .undef, .undef, .undef, .undef, .undef, .undef, .undef, .undef, .undef, .undef, .undef, .undef, .undef, .undef, .undef, .undef, .undef, .undef, .undef, .undef, .undef, .undef, .undef, .undef, .undef, .undef, .undef, .undef, .undef, .undef, .undef, .undef, .undef, .undef, .undef, .undef, .undef, .undef, .undef, .undef, .undef, .undef, .undef, .undef, .undef, .undef, .undef, .undef, .undef, .undef, .undef, .undef, .undef, .undef, .undef, .undef, .undef, .undef, .undef, .undef, .undef, .undef, .undef, .undef, .undef, .undef, .undef, .undef, .undef, .undef, .undef, .undef, .undef, .undef, .undef, .undef, .undef, .undef, .undef, .undef, .undef, .undef, .undef, .undef, .undef, .undef, .undef, .undef, .undef, .undef, .undef, .undef, .undef, .undef, .undef, .undef, .undef, .undef, .undef, .undef, .undef, .undef, .undef, .undef, .undef, .undef, .undef, .undef, .undef, .undef, .undef, .undef, .undef, .undef, .undef, .undef, .undef, .undef, .undef, .undef, .undef, .undef, .undef, .undef, .undef, .undef, .undef, .undef, .undef, .undef, .undef, .undef, .undef, .undef, .undef, .undef, .undef, .undef, .undef, .undef, .undef, .undef, .undef, .undef, .undef, .undef, .undef, .undef, .undef, .undef, .undef, .undef, .undef, .undef, .undef, .undef, .undef], [.box 28 (cT t), .box 28 [.sl 1 (rL t.walk), .int .i64 (if t.reach + c < 1000 then t.reach + c else 1000), .arr 2 (M.moreS t n i).length, .sl 1 (rB t.gone), .sl 3 (rH t.houses), .sl 2 (rP (t.kin.take k.toNat))], .arr 3 1 (rI (M.moreS t n i)) false]⟩ : St)) (fun i => i ≤ t.walk.length) (fun i => t.walk.length - i) (0)
  · (simp only [go_sem, Try.ntmps7, hs, ok, hp, hn, hk, hk2, hc, hc2, hk0, hk1, hw, rP_take, Int.toNat_zero, List.drop_zero, bne_self_eq_false]) <;> exact rfl
  · exact Nat.zero_le _
  · rintro i hi
    apply T_seq
    apply T_seq
    apply T_r F
    · (simp only [go_sem, Try.ntmps7, hs, ok, hp, hn, hk, hk2, hc, hc2, hk0, hk1, hw, rP_take, Int.toNat_zero, List.drop_zero, bne_self_eq_false]) <;> exact rfl
    apply K_seq
    apply T_if
    · (simp only [go_sem, Try.ntmps7, hs, ok, hp, hn, hk, hk2, hc, hc2, hk0, hk1, hw, rP_take, Int.toNat_zero, List.drop_zero, bne_self_eq_false]) <;> exact rfl
    · intro bh1t
      have h1t := bh1t
      try simp only [CS] at h1t
      try simp only [BS] at bh1t
      try exact absurd bh1t (by decide)
      all_goals (
  have hib : i < 9223372036854775807 := by omega
  have hml := M.moreS_len t n i
  have hcap : ((M.moreS t n i).length + 1) * 8 ≤ 140737488355328 := by omega
  apply T_skip
  apply K_seq
  apply T_seq
  apply T_block
  apply T_seq
  apply T_wL F [0, 1, 2, 3, 4, 5, 6, 7, 8] rfl
  apply W_pre [0, 1, 2, 3] [4, 5, 6, 7, 8]
  · (simp only [go_sem, Try.ntmps7, hs, ok, hp, hn, hk, hk2, hc, hc2, hk0, hk1, hw, rP_take, Int.toNat_zero, List.drop_zero, bne_self_eq_false, bh1t, hib, hcap]) <;> exact rfl
  apply W_guard
  · (simp only [go_sem, Try.ntmps7, hs, ok, hp, hn, hk, hk2, hc, hc2, hk0, hk1, hw, rP_take, Int.toNat_zero, List.drop_zero, bne_self_eq_false, bh1t, hib, hcap]) <;> exact rfl
  · (simp only [go_sem, Try.ntmps7, hs, ok, hp, hn, hk, hk2, hc, hc2, hk0, hk1, hw, rP_take, Int.toNat_zero, List.drop_zero, bne_self_eq_false, bh1t, hib, hcap]) <;> exact rfl
  · intro bg7t
    have g7t := bg7t
    try simp only [CS] at g7t
    try simp only [BS] at bg7t
    try exact absurd bg7t (by decide)
    all_goals (
  apply W_pre [4, 5, 6] [7, 8]
  · (simp only [go_sem, Try.ntmps7, hs, ok, hp, hn, hk, hk2, hc, hc2, hk0, hk1, hw, rP_take, Int.toNat_zero, List.drop_zero, bne_self_eq_false, bh1t, hib, hcap, bg7t]) <;> exact rfl
  apply W_call -- call 4 of function 18
  · (simp only [go_sem, Try.ntmps7, hs, ok, hp, hn, hk, hk2, hc, hc2, hk0, hk1, hw, rP_take, Int.toNat_zero, List.drop_zero, bne_self_eq_false, bh1t, hib, hcap, bg7t]) <;> exact rfl
  · (simp only [go_sem, Try.ntmps7, hs, ok, hp, hn, hk, hk2, hc, hc2, hk0, hk1, hw, rP_take, Int.toNat_zero, List.drop_zero, bne_self_eq_false, bh1t, hib, hcap, bg7t]) <;> exact rfl
  · exact rfl
  · (simp only [go_sem, Try.ntmps7, hs, ok, hp, hn, hk, hk2, hc, hc2, hk0, hk1, hw, rP_take, Int.toNat_zero, List.drop_zero, bne_self_eq_false, bh1t, hib, hcap, bg7t]) <;> exact rfl
  · (simp only [go_sem, Try.ntmps7, hs, ok, hp, hn, hk, hk2, hc, hc2, hk0, hk1, hw, rP_take, Int.toNat_zero, List.drop_zero, bne_self_eq_false, bh1t, hib, hcap, bg7t]) <;> exact rfl
  · exact ⟨_, Try.func18, rfl, rfl⟩
  · (simp only [go_sem, Try.ntmps7, hs, ok, hp, hn, hk, hk2, hc, hc2, hk0, hk1, hw, rP_take, Int.toNat_zero, List.drop_zero, bne_self_eq_false, bh1t, hib, hcap, bg7t]) <;> exact rfl
  · (simp only [go_sem, Try.ntmps7, hs, ok, hp, hn, hk, hk2, hc, hc2, hk0, hk1, hw, rP_take, Int.toNat_zero, List.drop_zero, bne_self_eq_false, bh1t, hib, hcap, bg7t]) <;> exact rfl
  · exact ref_has _ _
  apply W_run
  · (simp only [go_sem, Try.ntmps7, hs, ok, hp, hn, hk, hk2, hc, hc2, hk0, hk1, hw, rP_take, Int.toNat_zero, List.drop_zero, bne_self_eq_false, bh1t, hib, hcap, bg7t]) <;> exact rfl
  apply W_nil
  apply K_seq
  apply T_if
  · (simp only [go_sem, Try.ntmps7, hs, ok, hp, hn, hk, hk2, hc, hc2, hk0, hk1, hw, rP_take, Int.toNat_zero, List.drop_zero, bne_self_eq_false, bh1t, hib, hcap, bg7t]) <;> exact rfl
  · intro bh2t
    have h2t := bh2t
    try simp only [CS] at h2t
    try simp only [BS] at bh2t
    try exact absurd bh2t (by decide)
    all_goals (
  have hms := M.moreS_yes (t := t) (n := n) (k := i) (by rw [bg7t, bh2t]; rfl)
  have hml1 : (M.moreS t n (i + 1)).length = (M.moreS t n i).length + 1 := by rw [hms]; simp
  have hrw : rI (M.moreS t n i) ++ [[.int .i64 (i : Int)]] = rI (M.moreS t n (i + 1)) := by rw [hms, rI_snoc]
  apply T_r F
  · (simp only [go_sem, Try.ntmps7, hs, ok, hp, hn, hk, hk2, hc, hc2, hk0, hk1, hw, rP_take, Int.toNat_zero, List.drop_zero, bne_self_eq_false, bh1t, hib, hcap, bg7t, bh2t, hml1, hrw]) <;> exact rfl
  apply K_blk
  apply K_seq
  apply T_r F
  · (simp only [go_sem, Try.ntmps7, hs, ok, hp, hn, hk, hk2, hc, hc2, hk0, hk1, hw, rP_take, Int.toNat_zero, List.drop_zero, bne_self_eq_false, bh1t, hib, hcap, bg7t, bh2t, hml1, hrw]) <;> exact rfl
  refine K_lp (i + 1) ?_ ?_
  · (simp only [go_sem, Try.ntmps7, hs, ok, hp, hn, hk, hk2, hc, hc2, hk0, hk1, hw, rP_take, Int.toNat_zero, List.drop_zero, bne_self_eq_false, bh1t, hib, hcap, bg7t, bh2t, hml1, hrw]) <;> exact rfl
  -- leaf 0 (loop0)
  omega)
  · intro bh2f
    have h2f := bh2f
    try simp only [CS] at h2f
    try simp only [BS] at bh2f
    try exact absurd bh2f (by decide)
    all_goals (
  have hms := M.moreS_no (t := t) (n := n) (k := i) (by rw [bg7t, bh2f]; rfl)
  apply T_skip
  apply K_blk
  apply K_seq
  apply T_r F
  · (simp only [go_sem, Try.ntmps7, hs, ok, hp, hn, hk, hk2, hc, hc2, hk0, hk1, hw, rP_take, Int.toNat_zero, List.drop_zero, bne_self_eq_false, bh1t, hib, hcap, bg7t, bh2f, hms]) <;> exact rfl
  refine K_lp (i + 1) ?_ ?_
  · (simp only [go_sem, Try.ntmps7, hs, ok, hp, hn, hk, hk2, hc, hc2, hk0, hk1, hw, rP_take, Int.toNat_zero, List.drop_zero, bne_self_eq_false, bh1t, hib, hcap, bg7t, bh2f, hms]) <;> exact rfl
  -- leaf 1 (loop0)
  omega))
  · intro bg7f
    have g7f := bg7f
    try simp only [CS] at g7f
    try simp only [BS] at bg7f
    try exact absurd bg7f (by decide)
    all_goals (
  have hms := M.moreS_yes (t := t) (n := n) (k := i) (by rw [bg7f]; rfl)
  have hml1 : (M.moreS t n (i + 1)).length = (M.moreS t n i).length + 1 := by rw [hms]; simp
  have hrw : rI (M.moreS t n i) ++ [[.int .i64 (i : Int)]] = rI (M.moreS t n (i + 1)) := by rw [hms, rI_snoc]
  apply W_run
  · (simp only [go_sem, Try.ntmps7, hs, ok, hp, hn, hk, hk2, hc, hc2, hk0, hk1, hw, rP_take, Int.toNat_zero, List.drop_zero, bne_self_eq_false, bh1t, hib, hcap, bg7f, hml1, hrw]) <;> exact rfl
  apply W_nil
  apply K_seq
  apply T_if
  · (simp only [go_sem, Try.ntmps7, hs, ok, hp, hn, hk, hk2, hc, hc2, hk0, hk1, hw, rP_take, Int.toNat_zero, List.drop_zero, bne_self_eq_false, bh1t, hib, hcap, bg7f, hml1, hrw]) <;> exact rfl
  · intro bh3t
    have h3t := bh3t
    try simp only [CS] at h3t
    try simp only [BS] at bh3t
    try exact absurd bh3t (by decide)
    all_goals (
  have hms := M.moreS_yes (t := t) (n := n) (k := i) (by simp [bg7f])
  have hml1 : (M.moreS t n (i + 1)).length = (M.moreS t n i).length + 1 := by rw [hms]; simp
  have hrw : rI (M.moreS t n i) ++ [[.int .i64 (i : Int)]] = rI (M.moreS t n (i + 1)) := by rw [hms, rI_snoc]
  apply T_r F
  · (simp only [go_sem, Try.ntmps7, hs, ok, hp, hn, hk, hk2, hc, hc2, hk0, hk1, hw, rP_take, Int.toNat_zero, List.drop_zero, bne_self_eq_false, bh1t, hib, hcap, bg7f, hml1, hrw, bh3t, hml1, hrw]) <;> exact rfl
  apply K_blk
  apply K_seq
  apply T_r F
  · (simp only [go_sem, Try.ntmps7, hs, ok, hp, hn, hk, hk2, hc, hc2, hk0, hk1, hw, rP_take, Int.toNat_zero, List.drop_zero, bne_self_eq_false, bh1t, hib, hcap, bg7f, hml1, hrw, bh3t, hml1, hrw]) <;> exact rfl
  refine K_lp (i + 1) ?_ ?_
  · (simp only [go_sem, Try.ntmps7, hs, ok, hp, hn, hk, hk2, hc, hc2, hk0, hk1, hw, rP_take, Int.toNat_zero, List.drop_zero, bne_self_eq_false, bh1t, hib, hcap, bg7f, hml1, hrw, bh3t, hml1, hrw]) <;> exact rfl
  -- leaf 2 (loop0)
  omega)
  · intro bh3f
    exact absurd bh3f (by simp)))
    · intro bh1f
      have h1f := bh1f
      try simp only [CS] at h1f
      try simp only [BS] at bh1f
      try exact absurd bh1f (by decide)
      all_goals (
  have hie : i = t.walk.length := by omega
  subst hie
  apply T_exit
  apply K_seqE
  apply K_lpE
  apply K_blkE
  apply K_seq
  apply T_seq
  apply T_wL F [0, 1, 2, 3, 4, 5, 6, 7, 8] rfl
  apply W_pre [0, 1] [2, 3, 4, 5, 6, 7, 8]
  · (simp only [go_sem, Try.ntmps7, hs, ok, hp, hn, hk, hk2, hc, hc2, hk0, hk1, hw, rP_take, Int.toNat_zero, List.drop_zero, bne_self_eq_false, bh1f]) <;> exact rfl
  apply W_call -- call 5 of function 17
  · (simp only [go_sem, Try.ntmps7, hs, ok, hp, hn, hk, hk2, hc, hc2, hk0, hk1, hw, rP_take, Int.toNat_zero, List.drop_zero, bne_self_eq_false, bh1f]) <;> exact rfl
  · (simp only [go_sem, Try.ntmps7, hs, ok, hp, hn, hk, hk2, hc, hc2, hk0, hk1, hw, rP_take, Int.toNat_zero, List.drop_zero, bne_self_eq_false, bh1f]) <;> exact rfl
  · exact rfl
  · (simp only [go_sem, Try.ntmps7, hs, ok, hp, hn, hk, hk2, hc, hc2, hk0, hk1, hw, rP_take, Int.toNat_zero, List.drop_zero, bne_self_eq_false, bh1f]) <;> exact rfl
  · (simp only [go_sem, Try.ntmps7, hs, ok, hp, hn, hk, hk2, hc, hc2, hk0, hk1, hw, rP_take, Int.toNat_zero, List.drop_zero, bne_self_eq_false, bh1f]) <;> exact rfl
  · exact ⟨_, Try.func17, rfl, rfl⟩
  · (simp only [go_sem, Try.ntmps7, hs, ok, hp, hn, hk, hk2, hc, hc2, hk0, hk1, hw, rP_take, Int.toNat_zero, List.drop_zero, bne_self_eq_false, bh1f]) <;> exact rfl
  · (simp only [go_sem, Try.ntmps7, hs, ok, hp, hn, hk, hk2, hc, hc2, hk0, hk1, hw, rP_take, Int.toNat_zero, List.drop_zero, bne_self_eq_false, bh1f]) <;> exact rfl
  · exact mv_FaultK hh ok hp
  apply W_run
  · (simp only [go_sem, Try.ntmps7, hs, ok, hp, hn, hk, hk2, hc, hc2, hk0, hk1, hw, rP_take, Int.toNat_zero, List.drop_zero, bne_self_eq_false, bh1f]) <;> exact rfl
  apply W_nil
  apply K_seq
  apply T_seq
  apply T_wL F [0, 1, 2, 3, 4, 5, 6, 7, 8] rfl
  apply W_pre [0, 1] [2, 3, 4, 5, 6, 7, 8]
  · (simp only [go_sem, Try.ntmps7, hs, ok, hp, hn, hk, hk2, hc, hc2, hk0, hk1, hw, rP_take, Int.toNat_zero, List.drop_zero, bne_self_eq_false, bh1f]) <;> exact rfl
  apply W_call -- call 6 of function 17
  · (simp only [go_sem, Try.ntmps7, hs, ok, hp, hn, hk, hk2, hc, hc2, hk0, hk1, hw, rP_take, Int.toNat_zero, List.drop_zero, bne_self_eq_false, bh1f]) <;> exact rfl
  · (simp only [go_sem, Try.ntmps7, hs, ok, hp, hn, hk, hk2, hc, hc2, hk0, hk1, hw, rP_take, Int.toNat_zero, List.drop_zero, bne_self_eq_false, bh1f]) <;> exact rfl
  · exact rfl
  · (simp only [go_sem, Try.ntmps7, hs, ok, hp, hn, hk, hk2, hc, hc2, hk0, hk1, hw, rP_take, Int.toNat_zero, List.drop_zero, bne_self_eq_false, bh1f]) <;> exact rfl
  · (simp only [go_sem, Try.ntmps7, hs, ok, hp, hn, hk, hk2, hc, hc2, hk0, hk1, hw, rP_take, Int.toNat_zero, List.drop_zero, bne_self_eq_false, bh1f]) <;> exact rfl
  · exact ⟨_, Try.func17, rfl, rfl⟩
  · (simp only [go_sem, Try.ntmps7, hs, ok, hp, hn, hk, hk2, hc, hc2, hk0, hk1, hw, rP_take, Int.toNat_zero, List.drop_zero, bne_self_eq_false, bh1f]) <;> exact rfl
  · (simp only [go_sem, Try.ntmps7, hs, ok, hp, hn, hk, hk2, hc, hc2, hk0, hk1, hw, rP_take, Int.toNat_zero, List.drop_zero, bne_self_eq_false, bh1f]) <;> exact rfl
  · exact mv_FaultK (t := (M.more t n k c)) hh okx hpx
  apply W_run
  · (simp only [go_sem, Try.ntmps7, hs, ok, hp, hn, hk, hk2, hc, hc2, hk0, hk1, hw, rP_take, Int.toNat_zero, List.drop_zero, bne_self_eq_false, bh1f]) <;> exact rfl
  apply W_nil
  apply K_seq
  apply T_seq
  apply T_wL F [0, 1, 2, 3, 4, 5, 6, 7, 8] rfl
  apply W_pre [0] [1, 2, 3, 4, 5, 6, 7, 8]
  · (simp only [go_sem, Try.ntmps7, hs, ok, hp, hn, hk, hk2, hc, hc2, hk0, hk1, hw, rP_take, Int.toNat_zero, List.drop_zero, bne_self_eq_false, bh1f]) <;> exact rfl
  apply W_call -- call 7 of function 26
  · (simp only [go_sem, Try.ntmps7, hs, ok, hp, hn, hk, hk2, hc, hc2, hk0, hk1, hw, rP_take, Int.toNat_zero, List.drop_zero, bne_self_eq_false, bh1f]) <;> exact rfl
  · (simp only [go_sem, Try.ntmps7, hs, ok, hp, hn, hk, hk2, hc, hc2, hk0, hk1, hw, rP_take, Int.toNat_zero, List.drop_zero, bne_self_eq_false, bh1f]) <;> exact rfl
  · exact rfl
  · (simp only [go_sem, Try.ntmps7, hs, ok, hp, hn, hk, hk2, hc, hc2, hk0, hk1, hw, rP_take, Int.toNat_zero, List.drop_zero, bne_self_eq_false, bh1f]) <;> exact rfl
  · (simp only [go_sem, Try.ntmps7, hs, ok, hp, hn, hk, hk2, hc, hc2, hk0, hk1, hw, rP_take, Int.toNat_zero, List.drop_zero, bne_self_eq_false, bh1f]) <;> exact rfl
  · exact ⟨_, Try.func26, rfl, rfl⟩
  · (simp only [go_sem, Try.ntmps7, hs, ok, hp, hn, hk, hk2, hc, hc2, hk0, hk1, hw, rP_take, Int.toNat_zero, List.drop_zero, bne_self_eq_false, bh1f]) <;> exact rfl
  · (simp only [go_sem, Try.ntmps7, hs, ok, hp, hn, hk, hk2, hc, hc2, hk0, hk1, hw, rP_take, Int.toNat_zero, List.drop_zero, bne_self_eq_false, bh1f]) <;> exact rfl
  · exact mv_BestU hh ok
  apply W_pre [2, 3, 4, 5] [6, 7, 8]
  · (simp only [go_sem, Try.ntmps7, hs, ok, hp, hn, hk, hk2, hc, hc2, hk0, hk1, hw, rP_take, Int.toNat_zero, List.drop_zero, bne_self_eq_false, bh1f]) <;> exact rfl
  apply W_run
  · (simp only [go_sem, Try.ntmps7, hs, ok, hp, hn, hk, hk2, hc, hc2, hk0, hk1, hw, rP_take, Int.toNat_zero, List.drop_zero, bne_self_eq_false, bh1f]) <;> exact rfl
  apply W_nil
  apply K_seq
  apply T_seq
  apply T_wL F [0, 1, 2, 3, 4, 5, 6, 7, 8] rfl
  apply W_pre [0] [1, 2, 3, 4, 5, 6, 7, 8]
  · (simp only [go_sem, Try.ntmps7, hs, ok, hp, hn, hk, hk2, hc, hc2, hk0, hk1, hw, rP_take, Int.toNat_zero, List.drop_zero, bne_self_eq_false, bh1f]) <;> exact rfl
  apply W_call -- call 8 of function 26
  · (simp only [go_sem, Try.ntmps7, hs, ok, hp, hn, hk, hk2, hc, hc2, hk0, hk1, hw, rP_take, Int.toNat_zero, List.drop_zero, bne_self_eq_false, bh1f]) <;> exact rfl
  · (simp only [go_sem, Try.ntmps7, hs, ok, hp, hn, hk, hk2, hc, hc2, hk0, hk1, hw, rP_take, Int.toNat_zero, List.drop_zero, bne_self_eq_false, bh1f]) <;> exact rfl
  · exact rfl
  · (simp only [go_sem, Try.ntmps7, hs, ok, hp, hn, hk, hk2, hc, hc2, hk0, hk1, hw, rP_take, Int.toNat_zero, List.drop_zero, bne_self_eq_false, bh1f]) <;> exact rfl
  · (simp only [go_sem, Try.ntmps7, hs, ok, hp, hn, hk, hk2, hc, hc2, hk0, hk1, hw, rP_take, Int.toNat_zero, List.drop_zero, bne_self_eq_false, bh1f]) <;> exact rfl
  · exact ⟨_, Try.func26, rfl, rfl⟩
  · (simp only [go_sem, Try.ntmps7, hs, ok, hp, hn, hk, hk2, hc, hc2, hk0, hk1, hw, rP_take, Int.toNat_zero, List.drop_zero, bne_self_eq_false, bh1f]) <;> exact rfl
  · (simp only [go_sem, Try.ntmps7, hs, ok, hp, hn, hk, hk2, hc, hc2, hk0, hk1, hw, rP_take, Int.toNat_zero, List.drop_zero, bne_self_eq_false, bh1f]) <;> exact rfl
  · exact mv_BestU (t := (M.more t n k c)) hh okx
  apply W_pre [2, 3, 4, 5] [6, 7, 8]
  · (simp only [go_sem, Try.ntmps7, hs, ok, hp, hn, hk, hk2, hc, hc2, hk0, hk1, hw, rP_take, Int.toNat_zero, List.drop_zero, bne_self_eq_false, bh1f]) <;> exact rfl
  apply W_run
  · (simp only [go_sem, Try.ntmps7, hs, ok, hp, hn, hk, hk2, hc, hc2, hk0, hk1, hw, rP_take, Int.toNat_zero, List.drop_zero, bne_self_eq_false, bh1f]) <;> exact rfl
  apply W_nil
  apply K_seq
  apply T_seq
  apply T_wL F [0, 1, 2, 3, 4, 5, 6, 7, 8] rfl
  apply W_pre [0] [1, 2, 3, 4, 5, 6, 7, 8]
  · (simp only [go_sem, Try.ntmps7, hs, ok, hp, hn, hk, hk2, hc, hc2, hk0, hk1, hw, rP_take, Int.toNat_zero, List.drop_zero, bne_self_eq_false, bh1f]) <;> exact rfl
  apply W_call -- call 9 of function 27
  · (simp only [go_sem, Try.ntmps7, hs, ok, hp, hn, hk, hk2, hc, hc2, hk0, hk1, hw, rP_take, Int.toNat_zero, List.drop_zero, bne_self_eq_false, bh1f]) <;> exact rfl
  · (simp only [go_sem, Try.ntmps7, hs, ok, hp, hn, hk, hk2, hc, hc2, hk0, hk1, hw, rP_take, Int.toNat_zero, List.drop_zero, bne_self_eq_false, bh1f]) <;> exact rfl
  · exact rfl
  · (simp only [go_sem, Try.ntmps7, hs, ok, hp, hn, hk, hk2, hc, hc2, hk0, hk1, hw, rP_take, Int.toNat_zero, List.drop_zero, bne_self_eq_false, bh1f]) <;> exact rfl
  · (simp only [go_sem, Try.ntmps7, hs, ok, hp, hn, hk, hk2, hc, hc2, hk0, hk1, hw, rP_take, Int.toNat_zero, List.drop_zero, bne_self_eq_false, bh1f]) <;> exact rfl
  · exact ⟨_, Try.func27, rfl, rfl⟩
  · (simp only [go_sem, Try.ntmps7, hs, ok, hp, hn, hk, hk2, hc, hc2, hk0, hk1, hw, rP_take, Int.toNat_zero, List.drop_zero, bne_self_eq_false, bh1f]) <;> exact rfl
  · (simp only [go_sem, Try.ntmps7, hs, ok, hp, hn, hk, hk2, hc, hc2, hk0, hk1, hw, rP_take, Int.toNat_zero, List.drop_zero, bne_self_eq_false, bh1f]) <;> exact rfl
  · exact mv_FairU hh ok
  apply W_pre [2, 3, 4, 5] [6, 7, 8]
  · (simp only [go_sem, Try.ntmps7, hs, ok, hp, hn, hk, hk2, hc, hc2, hk0, hk1, hw, rP_take, Int.toNat_zero, List.drop_zero, bne_self_eq_false, bh1f]) <;> exact rfl
  apply W_run
  · (simp only [go_sem, Try.ntmps7, hs, ok, hp, hn, hk, hk2, hc, hc2, hk0, hk1, hw, rP_take, Int.toNat_zero, List.drop_zero, bne_self_eq_false, bh1f]) <;> exact rfl
  apply W_nil
  apply K_seq
  apply T_seq
  apply T_wL F [0, 1, 2, 3, 4, 5, 6, 7, 8] rfl
  apply W_pre [0] [1, 2, 3, 4, 5, 6, 7, 8]
  · (simp only [go_sem, Try.ntmps7, hs, ok, hp, hn, hk, hk2, hc, hc2, hk0, hk1, hw, rP_take, Int.toNat_zero, List.drop_zero, bne_self_eq_false, bh1f]) <;> exact rfl
  apply W_call -- call 10 of function 27
  · (simp only [go_sem, Try.ntmps7, hs, ok, hp, hn, hk, hk2, hc, hc2, hk0, hk1, hw, rP_take, Int.toNat_zero, List.drop_zero, bne_self_eq_false, bh1f]) <;> exact rfl
  · (simp only [go_sem, Try.ntmps7, hs, ok, hp, hn, hk, hk2, hc, hc2, hk0, hk1, hw, rP_take, Int.toNat_zero, List.drop_zero, bne_self_eq_false, bh1f]) <;> exact rfl
  · exact rfl
  · (simp only [go_sem, Try.ntmps7, hs, ok, hp, hn, hk, hk2, hc, hc2, hk0, hk1, hw, rP_take, Int.toNat_zero, List.drop_zero, bne_self_eq_false, bh1f]) <;> exact rfl
  · (simp only [go_sem, Try.ntmps7, hs, ok, hp, hn, hk, hk2, hc, hc2, hk0, hk1, hw, rP_take, Int.toNat_zero, List.drop_zero, bne_self_eq_false, bh1f]) <;> exact rfl
  · exact ⟨_, Try.func27, rfl, rfl⟩
  · (simp only [go_sem, Try.ntmps7, hs, ok, hp, hn, hk, hk2, hc, hc2, hk0, hk1, hw, rP_take, Int.toNat_zero, List.drop_zero, bne_self_eq_false, bh1f]) <;> exact rfl
  · (simp only [go_sem, Try.ntmps7, hs, ok, hp, hn, hk, hk2, hc, hc2, hk0, hk1, hw, rP_take, Int.toNat_zero, List.drop_zero, bne_self_eq_false, bh1f]) <;> exact rfl
  · exact mv_FairU (t := (M.more t n k c)) hh okx
  apply W_pre [2, 3, 4, 5] [6, 7, 8]
  · (simp only [go_sem, Try.ntmps7, hs, ok, hp, hn, hk, hk2, hc, hc2, hk0, hk1, hw, rP_take, Int.toNat_zero, List.drop_zero, bne_self_eq_false, bh1f]) <;> exact rfl
  apply W_run
  · (simp only [go_sem, Try.ntmps7, hs, ok, hp, hn, hk, hk2, hc, hc2, hk0, hk1, hw, rP_take, Int.toNat_zero, List.drop_zero, bne_self_eq_false, bh1f]) <;> exact rfl
  apply W_nil
  apply K_seq
  apply T_seq
  apply T_seq
  have hE := M.more_cases (n := n) (k := k) ok hc0
  have hA := M.more_fault (n := n) (k := k) ok hc0 p
  rcases hA with hA | ⟨hA, hB⟩ <;> rcases hE with ⟨e1, e2⟩ | ⟨e1, e2⟩ | ⟨e1, e2, m1, m2⟩
  · skip
    apply T_wL F [0, 1, 2, 3, 4, 5, 6, 7, 8, 9, 10, 11, 12, 13, 14, 15, 16, 17, 18, 19, 20, 21, 22, 23, 24, 25, 26, 27, 28, 29, 30, 31] rfl
    apply W_pre [0, 1, 2, 3] [4, 5, 6, 7, 8, 9, 10, 11, 12, 13, 14, 15, 16, 17, 18, 19, 20, 21, 22, 23, 24, 25, 26, 27, 28, 29, 30, 31]
    · (simp only [go_sem, Try.ntmps7, hs, ok, hp, hn, hk, hk2, hc, hc2, hk0, hk1, hw, rP_take, Int.toNat_zero, List.drop_zero, bne_self_eq_false, bh1f, hA, e1, e2]) <;> exact rfl
    apply W_pre [4, 5, 6, 7] [8, 9, 10, 11, 12, 13, 14, 15, 16, 17, 18, 19, 20, 21, 22, 23, 24, 25, 26, 27, 28, 29, 30, 31]
    · (simp only [go_sem, Try.ntmps7, hs, ok, hp, hn, hk, hk2, hc, hc2, hk0, hk1, hw, rP_take, Int.toNat_zero, List.drop_zero, bne_self_eq_false, bh1f, hA, e1, e2]) <;> exact rfl
    apply W_pre [8, 9, 10, 11] [12, 13, 14, 15, 16, 17, 18, 19, 20, 21, 22, 23, 24, 25, 26, 27, 28, 29, 30, 31]
    · (simp only [go_sem, Try.ntmps7, hs, ok, hp, hn, hk, hk2, hc, hc2, hk0, hk1, hw, rP_take, Int.toNat_zero, List.drop_zero, bne_self_eq_false, bh1f, hA, e1, e2]) <;> exact rfl
    apply W_pre [12, 13, 14, 15] [16, 17, 18, 19, 20, 21, 22, 23, 24, 25, 26, 27, 28, 29, 30, 31]
    · (simp only [go_sem, Try.ntmps7, hs, ok, hp, hn, hk, hk2, hc, hc2, hk0, hk1, hw, rP_take, Int.toNat_zero, List.drop_zero, bne_self_eq_false, bh1f, hA, e1, e2]) <;> exact rfl
    apply W_pre [16, 17, 18, 19] [20, 21, 22, 23, 24, 25, 26, 27, 28, 29, 30, 31]
    · (simp only [go_sem, Try.ntmps7, hs, ok, hp, hn, hk, hk2, hc, hc2, hk0, hk1, hw, rP_take, Int.toNat_zero, List.drop_zero, bne_self_eq_false, bh1f, hA, e1, e2]) <;> exact rfl
    apply W_pre [20, 21, 22, 23] [24, 25, 26, 27, 28, 29, 30, 31]
    · (simp only [go_sem, Try.ntmps7, hs, ok, hp, hn, hk, hk2, hc, hc2, hk0, hk1, hw, rP_take, Int.toNat_zero, List.drop_zero, bne_self_eq_false, bh1f, hA, e1, e2]) <;> exact rfl
    apply W_pre [24, 25, 26, 27] [28, 29, 30, 31]
    · (simp only [go_sem, Try.ntmps7, hs, ok, hp, hn, hk, hk2, hc, hc2, hk0, hk1, hw, rP_take, Int.toNat_zero, List.drop_zero, bne_self_eq_false, bh1f, hA, e1, e2]) <;> exact rfl
    apply W_run
    · (simp only [go_sem, Try.ntmps7, hs, ok, hp, hn, hk, hk2, hc, hc2, hk0, hk1, hw, rP_take, Int.toNat_zero, List.drop_zero, bne_self_eq_false, bh1f, hA, e1, e2]) <;> exact rfl
    apply W_nil
    apply K_seq
    apply T_ifF -- h4
    · (simp only [go_sem, Try.ntmps7, hs, ok, hp, hn, hk, hk2, hc, hc2, hk0, hk1, hw, rP_take, Int.toNat_zero, List.drop_zero, bne_self_eq_false, bh1f, hA, e1, e2]) <;> exact rfl
    apply T_skip
    apply K_seq
    apply T_seq
    apply T_seq
    apply T_wL F [0, 1, 2, 3, 4, 5, 6, 7, 8, 9, 10, 11, 12, 13, 14, 15, 16, 17, 18, 19, 20, 21, 22, 23, 24, 25] rfl
    apply W_pre [0, 1, 2, 3] [4, 5, 6, 7, 8, 9, 10, 11, 12, 13, 14, 15, 16, 17, 18, 19, 20, 21, 22, 23, 24, 25]
    · (simp only [go_sem, Try.ntmps7, hs, ok, hp, hn, hk, hk2, hc, hc2, hk0, hk1, hw, rP_take, Int.toNat_zero, List.drop_zero, bne_self_eq_false, bh1f, hA, e1, e2]) <;> exact rfl
    apply W_pre [4, 5, 6, 7] [8, 9, 10, 11, 12, 13, 14, 15, 16, 17, 18, 19, 20, 21, 22, 23, 24, 25]
    · (simp only [go_sem, Try.ntmps7, hs, ok, hp, hn, hk, hk2, hc, hc2, hk0, hk1, hw, rP_take, Int.toNat_zero, List.drop_zero, bne_self_eq_false, bh1f, hA, e1, e2]) <;> exact rfl
    apply W_pre [8, 9, 10, 11] [12, 13, 14, 15, 16, 17, 18, 19, 20, 21, 22, 23, 24, 25]
    · (simp only [go_sem, Try.ntmps7, hs, ok, hp, hn, hk, hk2, hc, hc2, hk0, hk1, hw, rP_take, Int.toNat_zero, List.drop_zero, bne_self_eq_false, bh1f, hA, e1, e2]) <;> exact rfl
    apply W_pre [12, 13, 14, 15] [16, 17, 18, 19, 20, 21, 22, 23, 24, 25]
    · (simp only [go_sem, Try.ntmps7, hs, ok, hp, hn, hk, hk2, hc, hc2, hk0, hk1, hw, rP_take, Int.toNat_zero, List.drop_zero, bne_self_eq_false, bh1f, hA, e1, e2]) <;> exact rfl
    apply W_pre [16, 17, 18, 19] [20, 21, 22, 23, 24, 25]
    · (simp only [go_sem, Try.ntmps7, hs, ok, hp, hn, hk, hk2, hc, hc2, hk0, hk1, hw, rP_take, Int.toNat_zero, List.drop_zero, bne_self_eq_false, bh1f, hA, e1, e2]) <;> exact rfl
    apply W_run
    · (simp only [go_sem, Try.ntmps7, hs, ok, hp, hn, hk, hk2, hc, hc2, hk0, hk1, hw, rP_take, Int.toNat_zero, List.drop_zero, bne_self_eq_false, bh1f, hA, e1, e2]) <;> exact rfl
    apply W_nil
    apply K_seq
    apply T_ifF -- h5
    · (simp only [go_sem, Try.ntmps7, hs, ok, hp, hn, hk, hk2, hc, hc2, hk0, hk1, hw, rP_take, Int.toNat_zero, List.drop_zero, bne_self_eq_false, bh1f, hA, e1, e2]) <;> exact rfl
    apply T_skip
    apply K_seq
    apply T_seq
    apply T_wL F [0, 1] rfl
    apply W_call -- call 11 of function 16
    · (simp only [go_sem, Try.ntmps7, hs, ok, hp, hn, hk, hk2, hc, hc2, hk0, hk1, hw, rP_take, Int.toNat_zero, List.drop_zero, bne_self_eq_false, bh1f, hA, e1, e2]) <;> exact rfl
    · (simp only [go_sem, Try.ntmps7, hs, ok, hp, hn, hk, hk2, hc, hc2, hk0, hk1, hw, rP_take, Int.toNat_zero, List.drop_zero, bne_self_eq_false, bh1f, hA, e1, e2]) <;> exact rfl
    · exact rfl
    · (simp only [go_sem, Try.ntmps7, hs, ok, hp, hn, hk, hk2, hc, hc2, hk0, hk1, hw, rP_take, Int.toNat_zero, List.drop_zero, bne_self_eq_false, bh1f, hA, e1, e2]) <;> exact rfl
    · (simp only [go_sem, Try.ntmps7, hs, ok, hp, hn, hk, hk2, hc, hc2, hk0, hk1, hw, rP_take, Int.toNat_zero, List.drop_zero, bne_self_eq_false, bh1f, hA, e1, e2]) <;> exact rfl
    · exact ⟨_, Try.func16, rfl, rfl⟩
    · (simp only [go_sem, Try.ntmps7, hs, ok, hp, hn, hk, hk2, hc, hc2, hk0, hk1, hw, rP_take, Int.toNat_zero, List.drop_zero, bne_self_eq_false, bh1f, hA, e1, e2]) <;> exact rfl
    · (simp only [go_sem, Try.ntmps7, hs, ok, hp, hn, hk, hk2, hc, hc2, hk0, hk1, hw, rP_take, Int.toNat_zero, List.drop_zero, bne_self_eq_false, bh1f, hA, e1, e2]) <;> exact rfl
    · exact known_ok
    apply W_run
    · (simp only [go_sem, Try.ntmps7, hs, ok, hp, hn, hk, hk2, hc, hc2, hk0, hk1, hw, rP_take, Int.toNat_zero, List.drop_zero, bne_self_eq_false, bh1f, hA, e1, e2]) <;> exact rfl
    apply W_nil
    apply K_seq
    apply T_ret
    apply fin_ret
    · (simp only [go_sem, Try.ntmps7, hs, ok, hp, hn, hk, hk2, hc, hc2, hk0, hk1, hw, rP_take, Int.toNat_zero, List.drop_zero, bne_self_eq_false, bh1f, hA, e1, e2, Try.f7]) <;> exact rfl
    -- leaf 3 (ret)
    
    all_goals rfl
  · skip
    apply T_wL F [0, 1, 2, 3, 4, 5, 6, 7, 8, 9, 10, 11, 12, 13, 14, 15, 16, 17, 18, 19, 20, 21, 22, 23, 24, 25, 26, 27, 28, 29, 30, 31] rfl
    apply W_pre [0, 1, 2, 3] [4, 5, 6, 7, 8, 9, 10, 11, 12, 13, 14, 15, 16, 17, 18, 19, 20, 21, 22, 23, 24, 25, 26, 27, 28, 29, 30, 31]
    · (simp only [go_sem, Try.ntmps7, hs, ok, hp, hn, hk, hk2, hc, hc2, hk0, hk1, hw, rP_take, Int.toNat_zero, List.drop_zero, bne_self_eq_false, bh1f, hA, e1, e2]) <;> exact rfl
    apply W_pre [4, 5, 6, 7] [8, 9, 10, 11, 12, 13, 14, 15, 16, 17, 18, 19, 20, 21, 22, 23, 24, 25, 26, 27, 28, 29, 30, 31]
    · (simp only [go_sem, Try.ntmps7, hs, ok, hp, hn, hk, hk2, hc, hc2, hk0, hk1, hw, rP_take, Int.toNat_zero, List.drop_zero, bne_self_eq_false, bh1f, hA, e1, e2]) <;> exact rfl
    apply W_pre [8, 9, 10, 11] [12, 13, 14, 15, 16, 17, 18, 19, 20, 21, 22, 23, 24, 25, 26, 27, 28, 29, 30, 31]
    · (simp only [go_sem, Try.ntmps7, hs, ok, hp, hn, hk, hk2, hc, hc2, hk0, hk1, hw, rP_take, Int.toNat_zero, List.drop_zero, bne_self_eq_false, bh1f, hA, e1, e2]) <;> exact rfl
    apply W_pre [12, 13, 14, 15] [16, 17, 18, 19, 20, 21, 22, 23, 24, 25, 26, 27, 28, 29, 30, 31]
    · (simp only [go_sem, Try.ntmps7, hs, ok, hp, hn, hk, hk2, hc, hc2, hk0, hk1, hw, rP_take, Int.toNat_zero, List.drop_zero, bne_self_eq_false, bh1f, hA, e1, e2]) <;> exact rfl
    apply W_pre [16, 17, 18, 19] [20, 21, 22, 23, 24, 25, 26, 27, 28, 29, 30, 31]
    · (simp only [go_sem, Try.ntmps7, hs, ok, hp, hn, hk, hk2, hc, hc2, hk0, hk1, hw, rP_take, Int.toNat_zero, List.drop_zero, bne_self_eq_false, bh1f, hA, e1, e2]) <;> exact rfl
    apply W_pre [20, 21, 22, 23] [24, 25, 26, 27, 28, 29, 30, 31]
    · (simp only [go_sem, Try.ntmps7, hs, ok, hp, hn, hk, hk2, hc, hc2, hk0, hk1, hw, rP_take, Int.toNat_zero, List.drop_zero, bne_self_eq_false, bh1f, hA, e1, e2]) <;> exact rfl
    apply W_pre [24, 25, 26, 27] [28, 29, 30, 31]
    · (simp only [go_sem, Try.ntmps7, hs, ok, hp, hn, hk, hk2, hc, hc2, hk0, hk1, hw, rP_take, Int.toNat_zero, List.drop_zero, bne_self_eq_false, bh1f, hA, e1, e2]) <;> exact rfl
    apply W_run
    · (simp only [go_sem, Try.ntmps7, hs, ok, hp, hn, hk, hk2, hc, hc2, hk0, hk1, hw, rP_take, Int.toNat_zero, List.drop_zero, bne_self_eq_false, bh1f, hA, e1, e2]) <;> exact rfl
    apply W_nil
    apply K_seq
    apply T_ifF -- h4
    · (simp only [go_sem, Try.ntmps7, hs, ok, hp, hn, hk, hk2, hc, hc2, hk0, hk1, hw, rP_take, Int.toNat_zero, List.drop_zero, bne_self_eq_false, bh1f, hA, e1, e2]) <;> exact rfl
    apply T_skip
    apply K_seq
    apply T_seq
    apply T_seq
    apply T_wL F [0, 1, 2, 3, 4, 5, 6, 7, 8, 9, 10, 11, 12, 13, 14, 15, 16, 17, 18, 19, 20, 21, 22, 23, 24, 25] rfl
    apply W_pre [0, 1, 2, 3] [4, 5, 6, 7, 8, 9, 10, 11, 12, 13, 14, 15, 16, 17, 18, 19, 20, 21, 22, 23, 24, 25]
    · (simp only [go_sem, Try.ntmps7, hs, ok, hp, hn, hk, hk2, hc, hc2, hk0, hk1, hw, rP_take, Int.toNat_zero, List.drop_zero, bne_self_eq_false, bh1f, hA, e1, e2]) <;> exact rfl
    apply W_pre [4, 5, 6, 7] [8, 9, 10, 11, 12, 13, 14, 15, 16, 17, 18, 19, 20, 21, 22, 23, 24, 25]
    · (simp only [go_sem, Try.ntmps7, hs, ok, hp, hn, hk, hk2, hc, hc2, hk0, hk1, hw, rP_take, Int.toNat_zero, List.drop_zero, bne_self_eq_false, bh1f, hA, e1, e2]) <;> exact rfl
    apply W_pre [8, 9, 10, 11] [12, 13, 14, 15, 16, 17, 18, 19, 20, 21, 22, 23, 24, 25]
    · (simp only [go_sem, Try.ntmps7, hs, ok, hp, hn, hk, hk2, hc, hc2, hk0, hk1, hw, rP_take, Int.toNat_zero, List.drop_zero, bne_self_eq_false, bh1f, hA, e1, e2]) <;> exact rfl
    apply W_pre [12, 13, 14, 15] [16, 17, 18, 19, 20, 21, 22, 23, 24, 25]
    · (simp only [go_sem, Try.ntmps7, hs, ok, hp, hn, hk, hk2, hc, hc2, hk0, hk1, hw, rP_take, Int.toNat_zero, List.drop_zero, bne_self_eq_false, bh1f, hA, e1, e2]) <;> exact rfl
    apply W_pre [16, 17, 18, 19] [20, 21, 22, 23, 24, 25]
    · (simp only [go_sem, Try.ntmps7, hs, ok, hp, hn, hk, hk2, hc, hc2, hk0, hk1, hw, rP_take, Int.toNat_zero, List.drop_zero, bne_self_eq_false, bh1f, hA, e1, e2]) <;> exact rfl
    apply W_run
    · (simp only [go_sem, Try.ntmps7, hs, ok, hp, hn, hk, hk2, hc, hc2, hk0, hk1, hw, rP_take, Int.toNat_zero, List.drop_zero, bne_self_eq_false, bh1f, hA, e1, e2]) <;> exact rfl
    apply W_nil
    apply K_seq
    apply T_ifF -- h5
    · (simp only [go_sem, Try.ntmps7, hs, ok, hp, hn, hk, hk2, hc, hc2, hk0, hk1, hw, rP_take, Int.toNat_zero, List.drop_zero, bne_self_eq_false, bh1f, hA, e1, e2]) <;> exact rfl
    apply T_skip
    apply K_seq
    apply T_seq
    apply T_wL F [0, 1] rfl
    apply W_call -- call 11 of function 16
    · (simp only [go_sem, Try.ntmps7, hs, ok, hp, hn, hk, hk2, hc, hc2, hk0, hk1, hw, rP_take, Int.toNat_zero, List.drop_zero, bne_self_eq_false, bh1f, hA, e1, e2]) <;> exact rfl
    · (simp only [go_sem, Try.ntmps7, hs, ok, hp, hn, hk, hk2, hc, hc2, hk0, hk1, hw, rP_take, Int.toNat_zero, List.drop_zero, bne_self_eq_false, bh1f, hA, e1, e2]) <;> exact rfl
    · exact rfl
    · (simp only [go_sem, Try.ntmps7, hs, ok, hp, hn, hk, hk2, hc, hc2, hk0, hk1, hw, rP_take, Int.toNat_zero, List.drop_zero, bne_self_eq_false, bh1f, hA, e1, e2]) <;> exact rfl
    · (simp only [go_sem, Try.ntmps7, hs, ok, hp, hn, hk, hk2, hc, hc2, hk0, hk1, hw, rP_take, Int.toNat_zero, List.drop_zero, bne_self_eq_false, bh1f, hA, e1, e2]) <;> exact rfl
    · exact ⟨_, Try.func16, rfl, rfl⟩
    · (simp only [go_sem, Try.ntmps7, hs, ok, hp, hn, hk, hk2, hc, hc2, hk0, hk1, hw, rP_take, Int.toNat_zero, List.drop_zero, bne_self_eq_false, bh1f, hA, e1, e2]) <;> exact rfl
    · (simp only [go_sem, Try.ntmps7, hs, ok, hp, hn, hk, hk2, hc, hc2, hk0, hk1, hw, rP_take, Int.toNat_zero, List.drop_zero, bne_self_eq_false, bh1f, hA, e1, e2]) <;> exact rfl
    · exact known_ok
    apply W_run
    · (simp only [go_sem, Try.ntmps7, hs, ok, hp, hn, hk, hk2, hc, hc2, hk0, hk1, hw, rP_take, Int.toNat_zero, List.drop_zero, bne_self_eq_false, bh1f, hA, e1, e2]) <;> exact rfl
    apply W_nil
    apply K_seq
    apply T_ret
    apply fin_ret
    · (simp only [go_sem, Try.ntmps7, hs, ok, hp, hn, hk, hk2, hc, hc2, hk0, hk1, hw, rP_take, Int.toNat_zero, List.drop_zero, bne_self_eq_false, bh1f, hA, e1, e2, Try.f7]) <;> exact rfl
    -- leaf 4 (ret)
    
    all_goals rfl
  · skip
    apply T_wL F [0, 1, 2, 3, 4, 5, 6, 7, 8, 9, 10, 11, 12, 13, 14, 15, 16, 17, 18, 19, 20, 21, 22, 23, 24, 25, 26, 27, 28, 29, 30, 31] rfl
    apply W_pre [0, 1, 2, 3] [4, 5, 6, 7, 8, 9, 10, 11, 12, 13, 14, 15, 16, 17, 18, 19, 20, 21, 22, 23, 24, 25, 26, 27, 28, 29, 30, 31]
    · (simp only [go_sem, Try.ntmps7, hs, ok, hp, hn, hk, hk2, hc, hc2, hk0, hk1, hw, rP_take, Int.toNat_zero, List.drop_zero, bne_self_eq_false, bh1f, hA, e1, e2, m1, m2]) <;> exact rfl
    apply W_pre [4, 5, 6, 7] [8, 9, 10, 11, 12, 13, 14, 15, 16, 17, 18, 19, 20, 21, 22, 23, 24, 25, 26, 27, 28, 29, 30, 31]
    · (simp only [go_sem, Try.ntmps7, hs, ok, hp, hn, hk, hk2, hc, hc2, hk0, hk1, hw, rP_take, Int.toNat_zero, List.drop_zero, bne_self_eq_false, bh1f, hA, e1, e2, m1, m2]) <;> exact rfl
    apply W_pre [8, 9, 10, 11] [12, 13, 14, 15, 16, 17, 18, 19, 20, 21, 22, 23, 24, 25, 26, 27, 28, 29, 30, 31]
    · (simp only [go_sem, Try.ntmps7, hs, ok, hp, hn, hk, hk2, hc, hc2, hk0, hk1, hw, rP_take, Int.toNat_zero, List.drop_zero, bne_self_eq_false, bh1f, hA, e1, e2, m1, m2]) <;> exact rfl
    apply W_pre [12, 13, 14, 15] [16, 17, 18, 19, 20, 21, 22, 23, 24, 25, 26, 27, 28, 29, 30, 31]
    · (simp only [go_sem, Try.ntmps7, hs, ok, hp, hn, hk, hk2, hc, hc2, hk0, hk1, hw, rP_take, Int.toNat_zero, List.drop_zero, bne_self_eq_false, bh1f, hA, e1, e2, m1, m2]) <;> exact rfl
    apply W_pre [16, 17, 18, 19] [20, 21, 22, 23, 24, 25, 26, 27, 28, 29, 30, 31]
    · (simp only [go_sem, Try.ntmps7, hs, ok, hp, hn, hk, hk2, hc, hc2, hk0, hk1, hw, rP_take, Int.toNat_zero, List.drop_zero, bne_self_eq_false, bh1f, hA, e1, e2, m1, m2]) <;> exact rfl
    apply W_pre [20, 21, 22, 23] [24, 25, 26, 27, 28, 29, 30, 31]
    · (simp only [go_sem, Try.ntmps7, hs, ok, hp, hn, hk, hk2, hc, hc2, hk0, hk1, hw, rP_take, Int.toNat_zero, List.drop_zero, bne_self_eq_false, bh1f, hA, e1, e2, m1, m2]) <;> exact rfl
    apply W_pre [24, 25, 26, 27] [28, 29, 30, 31]
    · (simp only [go_sem, Try.ntmps7, hs, ok, hp, hn, hk, hk2, hc, hc2, hk0, hk1, hw, rP_take, Int.toNat_zero, List.drop_zero, bne_self_eq_false, bh1f, hA, e1, e2, m1, m2]) <;> exact rfl
    apply W_run
    · (simp only [go_sem, Try.ntmps7, hs, ok, hp, hn, hk, hk2, hc, hc2, hk0, hk1, hw, rP_take, Int.toNat_zero, List.drop_zero, bne_self_eq_false, bh1f, hA, e1, e2, m1, m2]) <;> exact rfl
    apply W_nil
    apply K_seq
    apply T_ifF -- h4
    · (simp only [go_sem, Try.ntmps7, hs, ok, hp, hn, hk, hk2, hc, hc2, hk0, hk1, hw, rP_take, Int.toNat_zero, List.drop_zero, bne_self_eq_false, bh1f, hA, e1, e2, m1, m2]) <;> exact rfl
    apply T_skip
    apply K_seq
    apply T_seq
    apply T_seq
    apply T_wL F [0, 1, 2, 3, 4, 5, 6, 7, 8, 9, 10, 11, 12, 13, 14, 15, 16, 17, 18, 19, 20, 21, 22, 23, 24, 25] rfl
    apply W_pre [0, 1, 2, 3] [4, 5, 6, 7, 8, 9, 10, 11, 12, 13, 14, 15, 16, 17, 18, 19, 20, 21, 22, 23, 24, 25]
    · (simp only [go_sem, Try.ntmps7, hs, ok, hp, hn, hk, hk2, hc, hc2, hk0, hk1, hw, rP_take, Int.toNat_zero, List.drop_zero, bne_self_eq_false, bh1f, hA, e1, e2, m1, m2]) <;> exact rfl
    apply W_pre [4, 5, 6, 7] [8, 9, 10, 11, 12, 13, 14, 15, 16, 17, 18, 19, 20, 21, 22, 23, 24, 25]
    · (simp only [go_sem, Try.ntmps7, hs, ok, hp, hn, hk, hk2, hc, hc2, hk0, hk1, hw, rP_take, Int.toNat_zero, List.drop_zero, bne_self_eq_false, bh1f, hA, e1, e2, m1, m2]) <;> exact rfl
    apply W_pre [8, 9, 10, 11] [12, 13, 14, 15, 16, 17, 18, 19, 20, 21, 22, 23, 24, 25]
    · (simp only [go_sem, Try.ntmps7, hs, ok, hp, hn, hk, hk2, hc, hc2, hk0, hk1, hw, rP_take, Int.toNat_zero, List.drop_zero, bne_self_eq_false, bh1f, hA, e1, e2, m1, m2]) <;> exact rfl
    apply W_pre [12, 13, 14, 15] [16, 17, 18, 19, 20, 21, 22, 23, 24, 25]
    · (simp only [go_sem, Try.ntmps7, hs, ok, hp, hn, hk, hk2, hc, hc2, hk0, hk1, hw, rP_take, Int.toNat_zero, List.drop_zero, bne_self_eq_false, bh1f, hA, e1, e2, m1, m2]) <;> exact rfl
    apply W_pre [16, 17, 18, 19] [20, 21, 22, 23, 24, 25]
    · (simp only [go_sem, Try.ntmps7, hs, ok, hp, hn, hk, hk2, hc, hc2, hk0, hk1, hw, rP_take, Int.toNat_zero, List.drop_zero, bne_self_eq_false, bh1f, hA, e1, e2, m1, m2]) <;> exact rfl
    apply W_run
    · (simp only [go_sem, Try.ntmps7, hs, ok, hp, hn, hk, hk2, hc, hc2, hk0, hk1, hw, rP_take, Int.toNat_zero, List.drop_zero, bne_self_eq_false, bh1f, hA, e1, e2, m1, m2]) <;> exact rfl
    apply W_nil
    apply K_seq
    apply T_ifF -- h5
    · (simp only [go_sem, Try.ntmps7, hs, ok, hp, hn, hk, hk2, hc, hc2, hk0, hk1, hw, rP_take, Int.toNat_zero, List.drop_zero, bne_self_eq_false, bh1f, hA, e1, e2, m1, m2]) <;> exact rfl
    apply T_skip
    apply K_seq
    apply T_seq
    apply T_wL F [0, 1] rfl
    apply W_call -- call 11 of function 16
    · (simp only [go_sem, Try.ntmps7, hs, ok, hp, hn, hk, hk2, hc, hc2, hk0, hk1, hw, rP_take, Int.toNat_zero, List.drop_zero, bne_self_eq_false, bh1f, hA, e1, e2, m1, m2]) <;> exact rfl
    · (simp only [go_sem, Try.ntmps7, hs, ok, hp, hn, hk, hk2, hc, hc2, hk0, hk1, hw, rP_take, Int.toNat_zero, List.drop_zero, bne_self_eq_false, bh1f, hA, e1, e2, m1, m2]) <;> exact rfl
    · exact rfl
    · (simp only [go_sem, Try.ntmps7, hs, ok, hp, hn, hk, hk2, hc, hc2, hk0, hk1, hw, rP_take, Int.toNat_zero, List.drop_zero, bne_self_eq_false, bh1f, hA, e1, e2, m1, m2]) <;> exact rfl
    · (simp only [go_sem, Try.ntmps7, hs, ok, hp, hn, hk, hk2, hc, hc2, hk0, hk1, hw, rP_take, Int.toNat_zero, List.drop_zero, bne_self_eq_false, bh1f, hA, e1, e2, m1, m2]) <;> exact rfl
    · exact ⟨_, Try.func16, rfl, rfl⟩
    · (simp only [go_sem, Try.ntmps7, hs, ok, hp, hn, hk, hk2, hc, hc2, hk0, hk1, hw, rP_take, Int.toNat_zero, List.drop_zero, bne_self_eq_false, bh1f, hA, e1, e2, m1, m2]) <;> exact rfl
    · (simp only [go_sem, Try.ntmps7, hs, ok, hp, hn, hk, hk2, hc, hc2, hk0, hk1, hw, rP_take, Int.toNat_zero, List.drop_zero, bne_self_eq_false, bh1f, hA, e1, e2, m1, m2]) <;> exact rfl
    · exact known_ok
    apply W_run
    · (simp only [go_sem, Try.ntmps7, hs, ok, hp, hn, hk, hk2, hc, hc2, hk0, hk1, hw, rP_take, Int.toNat_zero, List.drop_zero, bne_self_eq_false, bh1f, hA, e1, e2, m1, m2]) <;> exact rfl
    apply W_nil
    apply K_seq
    apply T_ret
    apply fin_ret
    · (simp only [go_sem, Try.ntmps7, hs, ok, hp, hn, hk, hk2, hc, hc2, hk0, hk1, hw, rP_take, Int.toNat_zero, List.drop_zero, bne_self_eq_false, bh1f, hA, e1, e2, m1, m2, Try.f7]) <;> exact rfl
    -- leaf 5 (ret)
    
    all_goals rfl
  · skip
    apply T_wL F [0, 1, 2, 3, 4, 5, 6, 7, 8, 9, 10, 11, 12, 13, 14, 15, 16, 17, 18, 19, 20, 21, 22, 23, 24, 25, 26, 27, 28, 29, 30, 31] rfl
    apply W_pre [0, 1, 2, 3] [4, 5, 6, 7, 8, 9, 10, 11, 12, 13, 14, 15, 16, 17, 18, 19, 20, 21, 22, 23, 24, 25, 26, 27, 28, 29, 30, 31]
    · (simp only [go_sem, Try.ntmps7, hs, ok, hp, hn, hk, hk2, hc, hc2, hk0, hk1, hw, rP_take, Int.toNat_zero, List.drop_zero, bne_self_eq_false, bh1f, hA, hB, e1, e2]) <;> exact rfl
    apply W_pre [4, 5, 6, 7] [8, 9, 10, 11, 12, 13, 14, 15, 16, 17, 18, 19, 20, 21, 22, 23, 24, 25, 26, 27, 28, 29, 30, 31]
    · (simp only [go_sem, Try.ntmps7, hs, ok, hp, hn, hk, hk2, hc, hc2, hk0, hk1, hw, rP_take, Int.toNat_zero, List.drop_zero, bne_self_eq_false, bh1f, hA, hB, e1, e2]) <;> exact rfl
    apply W_pre [8, 9, 10, 11] [12, 13, 14, 15, 16, 17, 18, 19, 20, 21, 22, 23, 24, 25, 26, 27, 28, 29, 30, 31]
    · (simp only [go_sem, Try.ntmps7, hs, ok, hp, hn, hk, hk2, hc, hc2, hk0, hk1, hw, rP_take, Int.toNat_zero, List.drop_zero, bne_self_eq_false, bh1f, hA, hB, e1, e2]) <;> exact rfl
    apply W_pre [12, 13, 14, 15] [16, 17, 18, 19, 20, 21, 22, 23, 24, 25, 26, 27, 28, 29, 30, 31]
    · (simp only [go_sem, Try.ntmps7, hs, ok, hp, hn, hk, hk2, hc, hc2, hk0, hk1, hw, rP_take, Int.toNat_zero, List.drop_zero, bne_self_eq_false, bh1f, hA, hB, e1, e2]) <;> exact rfl
    apply W_pre [16, 17, 18, 19] [20, 21, 22, 23, 24, 25, 26, 27, 28, 29, 30, 31]
    · (simp only [go_sem, Try.ntmps7, hs, ok, hp, hn, hk, hk2, hc, hc2, hk0, hk1, hw, rP_take, Int.toNat_zero, List.drop_zero, bne_self_eq_false, bh1f, hA, hB, e1, e2]) <;> exact rfl
    apply W_pre [20, 21, 22, 23] [24, 25, 26, 27, 28, 29, 30, 31]
    · (simp only [go_sem, Try.ntmps7, hs, ok, hp, hn, hk, hk2, hc, hc2, hk0, hk1, hw, rP_take, Int.toNat_zero, List.drop_zero, bne_self_eq_false, bh1f, hA, hB, e1, e2]) <;> exact rfl
    apply W_pre [24, 25, 26, 27] [28, 29, 30, 31]
    · (simp only [go_sem, Try.ntmps7, hs, ok, hp, hn, hk, hk2, hc, hc2, hk0, hk1, hw, rP_take, Int.toNat_zero, List.drop_zero, bne_self_eq_false, bh1f, hA, hB, e1, e2]) <;> exact rfl
    apply W_run
    · (simp only [go_sem, Try.ntmps7, hs, ok, hp, hn, hk, hk2, hc, hc2, hk0, hk1, hw, rP_take, Int.toNat_zero, List.drop_zero, bne_self_eq_false, bh1f, hA, hB, e1, e2]) <;> exact rfl
    apply W_nil
    apply K_seq
    apply T_ifF -- h4
    · (simp only [go_sem, Try.ntmps7, hs, ok, hp, hn, hk, hk2, hc, hc2, hk0, hk1, hw, rP_take, Int.toNat_zero, List.drop_zero, bne_self_eq_false, bh1f, hA, hB, e1, e2]) <;> exact rfl
    apply T_skip
    apply K_seq
    apply T_seq
    apply T_seq
    apply T_wL F [0, 1, 2, 3, 4, 5, 6, 7, 8, 9, 10, 11, 12, 13, 14, 15, 16, 17, 18, 19, 20, 21, 22, 23, 24, 25] rfl
    apply W_pre [0, 1, 2, 3] [4, 5, 6, 7, 8, 9, 10, 11, 12, 13, 14, 15, 16, 17, 18, 19, 20, 21, 22, 23, 24, 25]
    · (simp only [go_sem, Try.ntmps7, hs, ok, hp, hn, hk, hk2, hc, hc2, hk0, hk1, hw, rP_take, Int.toNat_zero, List.drop_zero, bne_self_eq_false, bh1f, hA, hB, e1, e2]) <;> exact rfl
    apply W_pre [4, 5, 6, 7] [8, 9, 10, 11, 12, 13, 14, 15, 16, 17, 18, 19, 20, 21, 22, 23, 24, 25]
    · (simp only [go_sem, Try.ntmps7, hs, ok, hp, hn, hk, hk2, hc, hc2, hk0, hk1, hw, rP_take, Int.toNat_zero, List.drop_zero, bne_self_eq_false, bh1f, hA, hB, e1, e2]) <;> exact rfl
    apply W_pre [8, 9, 10, 11] [12, 13, 14, 15, 16, 17, 18, 19, 20, 21, 22, 23, 24, 25]
    · (simp only [go_sem, Try.ntmps7, hs, ok, hp, hn, hk, hk2, hc, hc2, hk0, hk1, hw, rP_take, Int.toNat_zero, List.drop_zero, bne_self_eq_false, bh1f, hA, hB, e1, e2]) <;> exact rfl
    apply W_pre [12, 13, 14, 15] [16, 17, 18, 19, 20, 21, 22, 23, 24, 25]
    · (simp only [go_sem, Try.ntmps7, hs, ok, hp, hn, hk, hk2, hc, hc2, hk0, hk1, hw, rP_take, Int.toNat_zero, List.drop_zero, bne_self_eq_false, bh1f, hA, hB, e1, e2]) <;> exact rfl
    apply W_pre [16, 17, 18, 19] [20, 21, 22, 23, 24, 25]
    · (simp only [go_sem, Try.ntmps7, hs, ok, hp, hn, hk, hk2, hc, hc2, hk0, hk1, hw, rP_take, Int.toNat_zero, List.drop_zero, bne_self_eq_false, bh1f, hA, hB, e1, e2]) <;> exact rfl
    apply W_run
    · (simp only [go_sem, Try.ntmps7, hs, ok, hp, hn, hk, hk2, hc, hc2, hk0, hk1, hw, rP_take, Int.toNat_zero, List.drop_zero, bne_self_eq_false, bh1f, hA, hB, e1, e2]) <;> exact rfl
    apply W_nil
    apply K_seq
    apply T_ifF -- h5
    · (simp only [go_sem, Try.ntmps7, hs, ok, hp, hn, hk, hk2, hc, hc2, hk0, hk1, hw, rP_take, Int.toNat_zero, List.drop_zero, bne_self_eq_false, bh1f, hA, hB, e1, e2]) <;> exact rfl
    apply T_skip
    apply K_seq
    apply T_seq
    apply T_wL F [0, 1] rfl
    apply W_call -- call 11 of function 16
    · (simp only [go_sem, Try.ntmps7, hs, ok, hp, hn, hk, hk2, hc, hc2, hk0, hk1, hw, rP_take, Int.toNat_zero, List.drop_zero, bne_self_eq_false, bh1f, hA, hB, e1, e2]) <;> exact rfl
    · (simp only [go_sem, Try.ntmps7, hs, ok, hp, hn, hk, hk2, hc, hc2, hk0, hk1, hw, rP_take, Int.toNat_zero, List.drop_zero, bne_self_eq_false, bh1f, hA, hB, e1, e2]) <;> exact rfl
    · exact rfl
    · (simp only [go_sem, Try.ntmps7, hs, ok, hp, hn, hk, hk2, hc, hc2, hk0, hk1, hw, rP_take, Int.toNat_zero, List.drop_zero, bne_self_eq_false, bh1f, hA, hB, e1, e2]) <;> exact rfl
    · (simp only [go_sem, Try.ntmps7, hs, ok, hp, hn, hk, hk2, hc, hc2, hk0, hk1, hw, rP_take, Int.toNat_zero, List.drop_zero, bne_self_eq_false, bh1f, hA, hB, e1, e2]) <;> exact rfl
    · exact ⟨_, Try.func16, rfl, rfl⟩
    · (simp only [go_sem, Try.ntmps7, hs, ok, hp, hn, hk, hk2, hc, hc2, hk0, hk1, hw, rP_take, Int.toNat_zero, List.drop_zero, bne_self_eq_false, bh1f, hA, hB, e1, e2]) <;> exact rfl
    · (simp only [go_sem, Try.ntmps7, hs, ok, hp, hn, hk, hk2, hc, hc2, hk0, hk1, hw, rP_take, Int.toNat_zero, List.drop_zero, bne_self_eq_false, bh1f, hA, hB, e1, e2]) <;> exact rfl
    · exact known_ok
    apply W_run
    · (simp only [go_sem, Try.ntmps7, hs, ok, hp, hn, hk, hk2, hc, hc2, hk0, hk1, hw, rP_take, Int.toNat_zero, List.drop_zero, bne_self_eq_false, bh1f, hA, hB, e1, e2]) <;> exact rfl
    apply W_nil
    apply K_seq
    apply T_ret
    apply fin_ret
    · (simp only [go_sem, Try.ntmps7, hs, ok, hp, hn, hk, hk2, hc, hc2, hk0, hk1, hw, rP_take, Int.toNat_zero, List.drop_zero, bne_self_eq_false, bh1f, hA, hB, e1, e2, Try.f7]) <;> exact rfl
    -- leaf 6 (ret)
    
    all_goals rfl
  · skip
    apply T_wL F [0, 1, 2, 3, 4, 5, 6, 7, 8, 9, 10, 11, 12, 13, 14, 15, 16, 17, 18, 19, 20, 21, 22, 23, 24, 25, 26, 27, 28, 29, 30, 31] rfl
    apply W_pre [0, 1, 2, 3] [4, 5, 6, 7, 8, 9, 10, 11, 12, 13, 14, 15, 16, 17, 18, 19, 20, 21, 22, 23, 24, 25, 26, 27, 28, 29, 30, 31]
    · (simp only [go_sem, Try.ntmps7, hs, ok, hp, hn, hk, hk2, hc, hc2, hk0, hk1, hw, rP_take, Int.toNat_zero, List.drop_zero, bne_self_eq_false, bh1f, hA, hB, e1, e2]) <;> exact rfl
    apply W_pre [4, 5, 6, 7] [8, 9, 10, 11, 12, 13, 14, 15, 16, 17, 18, 19, 20, 21, 22, 23, 24, 25, 26, 27, 28, 29, 30, 31]
    · (simp only [go_sem, Try.ntmps7, hs, ok, hp, hn, hk, hk2, hc, hc2, hk0, hk1, hw, rP_take, Int.toNat_zero, List.drop_zero, bne_self_eq_false, bh1f, hA, hB, e1, e2]) <;> exact rfl
    apply W_pre [8, 9, 10, 11] [12, 13, 14, 15, 16, 17, 18, 19, 20, 21, 22, 23, 24, 25, 26, 27, 28, 29, 30, 31]
    · (simp only [go_sem, Try.ntmps7, hs, ok, hp, hn, hk, hk2, hc, hc2, hk0, hk1, hw, rP_take, Int.toNat_zero, List.drop_zero, bne_self_eq_false, bh1f, hA, hB, e1, e2]) <;> exact rfl
    apply W_pre [12, 13, 14, 15] [16, 17, 18, 19, 20, 21, 22, 23, 24, 25, 26, 27, 28, 29, 30, 31]
    · (simp only [go_sem, Try.ntmps7, hs, ok, hp, hn, hk, hk2, hc, hc2, hk0, hk1, hw, rP_take, Int.toNat_zero, List.drop_zero, bne_self_eq_false, bh1f, hA, hB, e1, e2]) <;> exact rfl
    apply W_pre [16, 17, 18, 19] [20, 21, 22, 23, 24, 25, 26, 27, 28, 29, 30, 31]
    · (simp only [go_sem, Try.ntmps7, hs, ok, hp, hn, hk, hk2, hc, hc2, hk0, hk1, hw, rP_take, Int.toNat_zero, List.drop_zero, bne_self_eq_false, bh1f, hA, hB, e1, e2]) <;> exact rfl
    apply W_pre [20, 21, 22, 23] [24, 25, 26, 27, 28, 29, 30, 31]
    · (simp only [go_sem, Try.ntmps7, hs, ok, hp, hn, hk, hk2, hc, hc2, hk0, hk1, hw, rP_take, Int.toNat_zero, List.drop_zero, bne_self_eq_false, bh1f, hA, hB, e1, e2]) <;> exact rfl
    apply W_pre [24, 25, 26, 27] [28, 29, 30, 31]
    · (simp only [go_sem, Try.ntmps7, hs, ok, hp, hn, hk, hk2, hc, hc2, hk0, hk1, hw, rP_take, Int.toNat_zero, List.drop_zero, bne_self_eq_false, bh1f, hA, hB, e1, e2]) <;> exact rfl
    apply W_run
    · (simp only [go_sem, Try.ntmps7, hs, ok, hp, hn, hk, hk2, hc, hc2, hk0, hk1, hw, rP_take, Int.toNat_zero, List.drop_zero, bne_self_eq_false, bh1f, hA, hB, e1, e2]) <;> exact rfl
    apply W_nil
    apply K_seq
    apply T_ifF -- h4
    · (simp only [go_sem, Try.ntmps7, hs, ok, hp, hn, hk, hk2, hc, hc2, hk0, hk1, hw, rP_take, Int.toNat_zero, List.drop_zero, bne_self_eq_false, bh1f, hA, hB, e1, e2]) <;> exact rfl
    apply T_skip
    apply K_seq
    apply T_seq
    apply T_seq
    apply T_wL F [0, 1, 2, 3, 4, 5, 6, 7, 8, 9, 10, 11, 12, 13, 14, 15, 16, 17, 18, 19, 20, 21, 22, 23, 24, 25] rfl
    apply W_pre [0, 1, 2, 3] [4, 5, 6, 7, 8, 9, 10, 11, 12, 13, 14, 15, 16, 17, 18, 19, 20, 21, 22, 23, 24, 25]
    · (simp only [go_sem, Try.ntmps7, hs, ok, hp, hn, hk, hk2, hc, hc2, hk0, hk1, hw, rP_take, Int.toNat_zero, List.drop_zero, bne_self_eq_false, bh1f, hA, hB, e1, e2]) <;> exact rfl
    apply W_pre [4, 5, 6, 7] [8, 9, 10, 11, 12, 13, 14, 15, 16, 17, 18, 19, 20, 21, 22, 23, 24, 25]
    · (simp only [go_sem, Try.ntmps7, hs, ok, hp, hn, hk, hk2, hc, hc2, hk0, hk1, hw, rP_take, Int.toNat_zero, List.drop_zero, bne_self_eq_false, bh1f, hA, hB, e1, e2]) <;> exact rfl
    apply W_pre [8, 9, 10, 11] [12, 13, 14, 15, 16, 17, 18, 19, 20, 21, 22, 23, 24, 25]
    · (simp only [go_sem, Try.ntmps7, hs, ok, hp, hn, hk, hk2, hc, hc2, hk0, hk1, hw, rP_take, Int.toNat_zero, List.drop_zero, bne_self_eq_false, bh1f, hA, hB, e1, e2]) <;> exact rfl
    apply W_pre [12, 13, 14, 15] [16, 17, 18, 19, 20, 21, 22, 23, 24, 25]
    · (simp only [go_sem, Try.ntmps7, hs, ok, hp, hn, hk, hk2, hc, hc2, hk0, hk1, hw, rP_take, Int.toNat_zero, List.drop_zero, bne_self_eq_false, bh1f, hA, hB, e1, e2]) <;> exact rfl
    apply W_pre [16, 17, 18, 19] [20, 21, 22, 23, 24, 25]
    · (simp only [go_sem, Try.ntmps7, hs, ok, hp, hn, hk, hk2, hc, hc2, hk0, hk1, hw, rP_take, Int.toNat_zero, List.drop_zero, bne_self_eq_false, bh1f, hA, hB, e1, e2]) <;> exact rfl
    apply W_run
    · (simp only [go_sem, Try.ntmps7, hs, ok, hp, hn, hk, hk2, hc, hc2, hk0, hk1, hw, rP_take, Int.toNat_zero, List.drop_zero, bne_self_eq_false, bh1f, hA, hB, e1, e2]) <;> exact rfl
    apply W_nil
    apply K_seq
    apply T_ifF -- h5
    · (simp only [go_sem, Try.ntmps7, hs, ok, hp, hn, hk, hk2, hc, hc2, hk0, hk1, hw, rP_take, Int.toNat_zero, List.drop_zero, bne_self_eq_false, bh1f, hA, hB, e1, e2]) <;> exact rfl
    apply T_skip
    apply K_seq
    apply T_seq
    apply T_wL F [0, 1] rfl
    apply W_call -- call 11 of function 16
    · (simp only [go_sem, Try.ntmps7, hs, ok, hp, hn, hk, hk2, hc, hc2, hk0, hk1, hw, rP_take, Int.toNat_zero, List.drop_zero, bne_self_eq_false, bh1f, hA, hB, e1, e2]) <;> exact rfl
    · (simp only [go_sem, Try.ntmps7, hs, ok, hp, hn, hk, hk2, hc, hc2, hk0, hk1, hw, rP_take, Int.toNat_zero, List.drop_zero, bne_self_eq_false, bh1f, hA, hB, e1, e2]) <;> exact rfl
    · exact rfl
    · (simp only [go_sem, Try.ntmps7, hs, ok, hp, hn, hk, hk2, hc, hc2, hk0, hk1, hw, rP_take, Int.toNat_zero, List.drop_zero, bne_self_eq_false, bh1f, hA, hB, e1, e2]) <;> exact rfl
    · (simp only [go_sem, Try.ntmps7, hs, ok, hp, hn, hk, hk2, hc, hc2, hk0, hk1, hw, rP_take, Int.toNat_zero, List.drop_zero, bne_self_eq_false, bh1f, hA, hB, e1, e2]) <;> exact rfl
    · exact ⟨_, Try.func16, rfl, rfl⟩
    · (simp only [go_sem, Try.ntmps7, hs, ok, hp, hn, hk, hk2, hc, hc2, hk0, hk1, hw, rP_take, Int.toNat_zero, List.drop_zero, bne_self_eq_false, bh1f, hA, hB, e1, e2]) <;> exact rfl
    · (simp only [go_sem, Try.ntmps7, hs, ok, hp, hn, hk, hk2, hc, hc2, hk0, hk1, hw, rP_take, Int.toNat_zero, List.drop_zero, bne_self_eq_false, bh1f, hA, hB, e1, e2]) <;> exact rfl
    · exact known_ok
    apply W_run
    · (simp only [go_sem, Try.ntmps7, hs, ok, hp, hn, hk, hk2, hc, hc2, hk0, hk1, hw, rP_take, Int.toNat_zero, List.drop_zero, bne_self_eq_false, bh1f, hA, hB, e1, e2]) <;> exact rfl
    apply W_nil
    apply K_seq
    apply T_ret
    apply fin_ret
    · (simp only [go_sem, Try.ntmps7, hs, ok, hp, hn, hk, hk2, hc, hc2, hk0, hk1, hw, rP_take, Int.toNat_zero, List.drop_zero, bne_self_eq_false, bh1f, hA, hB, e1, e2, Try.f7]) <;> exact rfl
    -- leaf 7 (ret)
    
    all_goals rfl
  · skip
    apply T_wL F [0, 1, 2, 3, 4, 5, 6, 7, 8, 9, 10, 11, 12, 13, 14, 15, 16, 17, 18, 19, 20, 21, 22, 23, 24, 25, 26, 27, 28, 29, 30, 31] rfl
    apply W_pre [0, 1, 2, 3] [4, 5, 6, 7, 8, 9, 10, 11, 12, 13, 14, 15, 16, 17, 18, 19, 20, 21, 22, 23, 24, 25, 26, 27, 28, 29, 30, 31]
    · (simp only [go_sem, Try.ntmps7, hs, ok, hp, hn, hk, hk2, hc, hc2, hk0, hk1, hw, rP_take, Int.toNat_zero, List.drop_zero, bne_self_eq_false, bh1f, hA, hB, e1, e2, m1, m2]) <;> exact rfl
    apply W_pre [4, 5, 6, 7] [8, 9, 10, 11, 12, 13, 14, 15, 16, 17, 18, 19, 20, 21, 22, 23, 24, 25, 26, 27, 28, 29, 30, 31]
    · (simp only [go_sem, Try.ntmps7, hs, ok, hp, hn, hk, hk2, hc, hc2, hk0, hk1, hw, rP_take, Int.toNat_zero, List.drop_zero, bne_self_eq_false, bh1f, hA, hB, e1, e2, m1, m2]) <;> exact rfl
    apply W_pre [8, 9, 10, 11] [12, 13, 14, 15, 16, 17, 18, 19, 20, 21, 22, 23, 24, 25, 26, 27, 28, 29, 30, 31]
    · (simp only [go_sem, Try.ntmps7, hs, ok, hp, hn, hk, hk2, hc, hc2, hk0, hk1, hw, rP_take, Int.toNat_zero, List.drop_zero, bne_self_eq_false, bh1f, hA, hB, e1, e2, m1, m2]) <;> exact rfl
    apply W_pre [12, 13, 14, 15] [16, 17, 18, 19, 20, 21, 22, 23, 24, 25, 26, 27, 28, 29, 30, 31]
    · (simp only [go_sem, Try.ntmps7, hs, ok, hp, hn, hk, hk2, hc, hc2, hk0, hk1, hw, rP_take, Int.toNat_zero, List.drop_zero, bne_self_eq_false, bh1f, hA, hB, e1, e2, m1, m2]) <;> exact rfl
    apply W_pre [16, 17, 18, 19] [20, 21, 22, 23, 24, 25, 26, 27, 28, 29, 30, 31]
    · (simp only [go_sem, Try.ntmps7, hs, ok, hp, hn, hk, hk2, hc, hc2, hk0, hk1, hw, rP_take, Int.toNat_zero, List.drop_zero, bne_self_eq_false, bh1f, hA, hB, e1, e2, m1, m2]) <;> exact rfl
    apply W_pre [20, 21, 22, 23] [24, 25, 26, 27, 28, 29, 30, 31]
    · (simp only [go_sem, Try.ntmps7, hs, ok, hp, hn, hk, hk2, hc, hc2, hk0, hk1, hw, rP_take, Int.toNat_zero, List.drop_zero, bne_self_eq_false, bh1f, hA, hB, e1, e2, m1, m2]) <;> exact rfl
    apply W_pre [24, 25, 26, 27] [28, 29, 30, 31]
    · (simp only [go_sem, Try.ntmps7, hs, ok, hp, hn, hk, hk2, hc, hc2, hk0, hk1, hw, rP_take, Int.toNat_zero, List.drop_zero, bne_self_eq_false, bh1f, hA, hB, e1, e2, m1, m2]) <;> exact rfl
    apply W_run
    · (simp only [go_sem, Try.ntmps7, hs, ok, hp, hn, hk, hk2, hc, hc2, hk0, hk1, hw, rP_take, Int.toNat_zero, List.drop_zero, bne_self_eq_false, bh1f, hA, hB, e1, e2, m1, m2]) <;> exact rfl
    apply W_nil
    apply K_seq
    apply T_ifF -- h4
    · (simp only [go_sem, Try.ntmps7, hs, ok, hp, hn, hk, hk2, hc, hc2, hk0, hk1, hw, rP_take, Int.toNat_zero, List.drop_zero, bne_self_eq_false, bh1f, hA, hB, e1, e2, m1, m2]) <;> exact rfl
    apply T_skip
    apply K_seq
    apply T_seq
    apply T_seq
    apply T_wL F [0, 1, 2, 3, 4, 5, 6, 7, 8, 9, 10, 11, 12, 13, 14, 15, 16, 17, 18, 19, 20, 21, 22, 23, 24, 25] rfl
    apply W_pre [0, 1, 2, 3] [4, 5, 6, 7, 8, 9, 10, 11, 12, 13, 14, 15, 16, 17, 18, 19, 20, 21, 22, 23, 24, 25]
    · (simp only [go_sem, Try.ntmps7, hs, ok, hp, hn, hk, hk2, hc, hc2, hk0, hk1, hw, rP_take, Int.toNat_zero, List.drop_zero, bne_self_eq_false, bh1f, hA, hB, e1, e2, m1, m2]) <;> exact rfl
    apply W_pre [4, 5, 6, 7] [8, 9, 10, 11, 12, 13, 14, 15, 16, 17, 18, 19, 20, 21, 22, 23, 24, 25]
    · (simp only [go_sem, Try.ntmps7, hs, ok, hp, hn, hk, hk2, hc, hc2, hk0, hk1, hw, rP_take, Int.toNat_zero, List.drop_zero, bne_self_eq_false, bh1f, hA, hB, e1, e2, m1, m2]) <;> exact rfl
    apply W_pre [8, 9, 10, 11] [12, 13, 14, 15, 16, 17, 18, 19, 20, 21, 22, 23, 24, 25]
    · (simp only [go_sem, Try.ntmps7, hs, ok, hp, hn, hk, hk2, hc, hc2, hk0, hk1, hw, rP_take, Int.toNat_zero, List.drop_zero, bne_self_eq_false, bh1f, hA, hB, e1, e2, m1, m2]) <;> exact rfl
    apply W_pre [12, 13, 14, 15] [16, 17, 18, 19, 20, 21, 22, 23, 24, 25]
    · (simp only [go_sem, Try.ntmps7, hs, ok, hp, hn, hk, hk2, hc, hc2, hk0, hk1, hw, rP_take, Int.toNat_zero, List.drop_zero, bne_self_eq_false, bh1f, hA, hB, e1, e2, m1, m2]) <;> exact rfl
    apply W_pre [16, 17, 18, 19] [20, 21, 22, 23, 24, 25]
    · (simp only [go_sem, Try.ntmps7, hs, ok, hp, hn, hk, hk2, hc, hc2, hk0, hk1, hw, rP_take, Int.toNat_zero, List.drop_zero, bne_self_eq_false, bh1f, hA, hB, e1, e2, m1, m2]) <;> exact rfl
    apply W_run
    · (simp only [go_sem, Try.ntmps7, hs, ok, hp, hn, hk, hk2, hc, hc2, hk0, hk1, hw, rP_take, Int.toNat_zero, List.drop_zero, bne_self_eq_false, bh1f, hA, hB, e1, e2, m1, m2]) <;> exact rfl
    apply W_nil
    apply K_seq
    apply T_ifF -- h5
    · (simp only [go_sem, Try.ntmps7, hs, ok, hp, hn, hk, hk2, hc, hc2, hk0, hk1, hw, rP_take, Int.toNat_zero, List.drop_zero, bne_self_eq_false, bh1f, hA, hB, e1, e2, m1, m2]) <;> exact rfl
    apply T_skip
    apply K_seq
    apply T_seq
    apply T_wL F [0, 1] rfl
    apply W_call -- call 11 of function 16
    · (simp only [go_sem, Try.ntmps7, hs, ok, hp, hn, hk, hk2, hc, hc2, hk0, hk1, hw, rP_take, Int.toNat_zero, List.drop_zero, bne_self_eq_false, bh1f, hA, hB, e1, e2, m1, m2]) <;> exact rfl
    · (simp only [go_sem, Try.ntmps7, hs, ok, hp, hn, hk, hk2, hc, hc2, hk0, hk1, hw, rP_take, Int.toNat_zero, List.drop_zero, bne_self_eq_false, bh1f, hA, hB, e1, e2, m1, m2]) <;> exact rfl
    · exact rfl
    · (simp only [go_sem, Try.ntmps7, hs, ok, hp, hn, hk, hk2, hc, hc2, hk0, hk1, hw, rP_take, Int.toNat_zero, List.drop_zero, bne_self_eq_false, bh1f, hA, hB, e1, e2, m1, m2]) <;> exact rfl
    · (simp only [go_sem, Try.ntmps7, hs, ok, hp, hn, hk, hk2, hc, hc2, hk0, hk1, hw, rP_take, Int.toNat_zero, List.drop_zero, bne_self_eq_false, bh1f, hA, hB, e1, e2, m1, m2]) <;> exact rfl
    · exact ⟨_, Try.func16, rfl, rfl⟩
    · (simp only [go_sem, Try.ntmps7, hs, ok, hp, hn, hk, hk2, hc, hc2, hk0, hk1, hw, rP_take, Int.toNat_zero, List.drop_zero, bne_self_eq_false, bh1f, hA, hB, e1, e2, m1, m2]) <;> exact rfl
    · (simp only [go_sem, Try.ntmps7, hs, ok, hp, hn, hk, hk2, hc, hc2, hk0, hk1, hw, rP_take, Int.toNat_zero, List.drop_zero, bne_self_eq_false, bh1f, hA, hB, e1, e2, m1, m2]) <;> exact rfl
    · exact known_ok
    apply W_run
    · (simp only [go_sem, Try.ntmps7, hs, ok, hp, hn, hk, hk2, hc, hc2, hk0, hk1, hw, rP_take, Int.toNat_zero, List.drop_zero, bne_self_eq_false, bh1f, hA, hB, e1, e2, m1, m2]) <;> exact rfl
    apply W_nil
    apply K_seq
    apply T_ret
    apply fin_ret
    · (simp only [go_sem, Try.ntmps7, hs, ok, hp, hn, hk, hk2, hc, hc2, hk0, hk1, hw, rP_take, Int.toNat_zero, List.drop_zero, bne_self_eq_false, bh1f, hA, hB, e1, e2, m1, m2, Try.f7]) <;> exact rfl
    -- leaf 8 (ret)
    
    all_goals rfl)


theorem law_more (t : Town) (p : List Int) (n k c : Int) : Ret Try.prog 7 [.agg (cT t), .sl 1 (rI p), .int .i64 n, .int .i64 k, .int .i64 c] (.bool true) := by
  by_cases hs : M.Short t
  · by_cases ok : M.Ok t
    · cases hp : M.plan t p
      · exact law_moreC t p n k c hs ok hp
      · cases hn : M.lot t n
        · exact law_moreD t p n k c hs ok hp hn
        · by_cases hk : k < 0
          · exact law_moreE t p n k c hs ok hp hn hk
          · by_cases hk2 : (t.kin.length : Int) < k
            · exact law_moreF t p n k c hs ok hp hn hk hk2
            · by_cases hc : c < 0
              · exact law_moreG t p n k c hs ok hp hn hk hk2 hc
              · by_cases hc2 : 1000 < c
                · exact law_moreH t p n k c hs ok hp hn hk hk2 hc hc2
                · exact law_moreI t p n k c hs ok hp hn hk hk2 hc hc2
    · exact law_moreB t p n k c hs ok
  · exact law_moreA t p n k c hs
end Go.Ab
namespace Go.Proofs.Ytahflobpopclpaa.moveMore
open Go.ChangeShapes Go.WideShapes Go.ChangeAt Go.RowKit Go.Ab
set_option linter.unusedVariables false
theorem own : ownKnob Try.prog.godebug = none := by kernel_rfl
theorem laidOut : laidOutB Try.prog = true := by kernel_rfl
set_option maxRecDepth 100000 in
theorem lifted (os : Os) (started : os.Started) (H : Type) (enc : TypeId × Value → H) :
    ReturnsInHanded {} Try.checked os 7 .any (Rows.moveMoreSpec.pre6 enc Try.prog Try.f7 Rows.moveMoreRow.domain false) (Rows.moveMoreSpec.post enc Try.prog Try.f7 false true false false) := by
  refine returnsInHanded_of_change_sized (C := Try.checked) own started (by kernel_rfl) Try.func7
    (ChangeSpec.witness6 (enc := enc) (C := Try.checked) false ⟨#[], #[.agg #[.slice none 0 0, .int .i64 0, .slice none 0 0, .slice none 0 0, .slice none 0 0, .slice none 0 0], .slice none 0 0, .int .i64 0, .int .i64 0, .int .i64 0], []⟩ 8 (by kernel_rfl) (by kernel_rfl) (by kernel_rfl) (by kernel_rfl)) ?_
  intro W base args ds gs before hval0 hW hcnd hsz0 _
  have hval : ∀ (j : Nat) t v, Try.f7.params[j]? = some t → args[j]? = some v → Value.okWide Try.prog W .any base t v := hval0
  have hW' := hW
  obtain ⟨p, q, hA0, hV, rfl, hfz, hnd⟩ := hW
  have hA : DataW.TrodAll enc Try.prog W 0 (fun _ => true) true Try.f7.params.toList args.toList ds p := hA0
  rw [Try.params7] at hA hval
  obtain ⟨v0, vs0, d0, ds0, p0, q0, hargs, rfl, rfl, h0, r0⟩ := trodAll_cons hA
  obtain ⟨v1, vs1, d1, ds1, p1, q1, rfl, rfl, rfl, h1, r1⟩ := trodAll_cons r0
  obtain ⟨v2, vs2, d2, ds2, p2, q2, rfl, rfl, rfl, h2, r2⟩ := trodAll_cons r1
  obtain ⟨v3, vs3, d3, ds3, p3, q3, rfl, rfl, rfl, h3, r3⟩ := trodAll_cons r2
  obtain ⟨v4, vs4, d4, ds4, p4, q4, rfl, rfl, rfl, h4, r4⟩ := trodAll_cons r3
  obtain ⟨rfl, rfl, rfl⟩ := trodAll_nil r4
  obtain rfl : args = #[v0, v1, v2, v3, v4] := by cases args; simp_all
  obtain ⟨rfl, rfl⟩ := trodVars_none hV
  have lt0 : ∀ x ∈ p0, x.block < W.heap.size := by obtain ⟨m, hm⟩ := h0; exact DataW.trod_lt m _ _ _ hm
  have lt1 : ∀ x ∈ p1, x.block < W.heap.size := by obtain ⟨m, hm⟩ := h1; exact DataW.trod_lt m _ _ _ hm
  obtain ⟨t0, ht0⟩ := town_in h0
  obtain ⟨l1, hl1⟩ := ints_in h1 (let ⟨a, n, c, e⟩ := okWide_slice Try.underlying23 (hval 1 23 v1 rfl rfl); ⟨a, n, c, e⟩)
  obtain ⟨a2, rfl, rfl, rfl, w2⟩ := open_int Try.underlying3 (hval 2 3 v2 rfl rfl) h2
  obtain ⟨a3, rfl, rfl, rfl, w3⟩ := open_int Try.underlying3 (hval 3 3 v3 rfl rfl) h3
  obtain ⟨a4, rfl, rfl, rfl, w4⟩ := open_int Try.underlying3 (hval 4 3 v4 rfl rfl) h4
  clear hA0 hval0 hsz0
  have hargsR : RelL ⟨fun _ => False, [], [], W⟩ [.agg (cT t0), .sl 1 (rI l1), .int .i64 a2, .int .i64 a3, .int .i64 a4] (#[v0, v1, .int .i64 a2, .int .i64 a3, .int .i64 a4] : Array Value).toList := by
    simp only [RelL]
    exact ⟨_, _, rfl, ht0, _, _, rfl, hl1, _, _, rfl, by simp only [Rel], _, _, rfl, by simp only [Rel], _, _, rfl, by simp only [Rel], rfl⟩
  refine (law_more t0 l1 a2 a3 a4 (fun _ => False) W _ (fun _ h => h.elim) hargsR).mono fun e W' ⟨v, he, hr, bel⟩ => ?_
  simp only [Rel] at hr
  subst hr
  subst he
  exact ⟨_, rfl, _, _, _, [], _, [], hW', trodAll_mk1 (shut_bool Try.underlying4 _), (trodAll_cons_mk (Below.trod laidOut (by kernel_rfl) (of_decide_eq_true (by kernel_rfl)) h0 bel lt0) (trodAll_cons_mk (Below.trod laidOut (by kernel_rfl) (of_decide_eq_true (by kernel_rfl)) h1 bel lt1) (trodAll_cons_mk (shut_int Try.underlying3 w2) (trodAll_cons_mk (shut_int Try.underlying3 w3) (trodAll_cons_mk (shut_int Try.underlying3 w4) trodAll_mk0))))), rfl, bel.frame _, fun h => by cases h⟩
theorem over : Rows.moveMoreRow.holds Try.pinned (OpenSpec.ofChange Rows.moveMoreSpec) :=
  OpenClaim.holds_of_wide 7 Try.f7 rfl rfl rfl rfl rfl rfl rfl ⟨rfl, rfl, rfl, rfl, rfl⟩ rfl rfl rfl rfl rfl (by kernel_rfl) Try.func7 (by kernel_rfl)
    (of_decide_eq_true (by kernel_rfl)) (by unfold Func.isWrapper; first | (rw [if_pos (by decide +kernel)]; kernel_rfl) | (rw [if_neg (by decide +kernel)]; exact ⟨rfl, rfl⟩))
    (fun os started H enc _ => lifted os started H enc)
end Go.Proofs.Ytahflobpopclpaa.moveMore
namespace Go.Proofs.Ytahflobpopclpaa
theorem moveMore_holds : Rows.MoveMoreSaid := moveMore.over
end Go.Proofs.Ytahflobpopclpaa
