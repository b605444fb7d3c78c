/- The law MoveBests holds of the given program for every input: it returns true, and the input reads as it did. -/
import Derived.Test.YtahflobpopclpaaBe4
import Derived.Test.YtahflobpopclpaaRows
import Derived.WalkKit
import Derived.ProofKit
import Derived.OpenShut
import Derived.ShutString
import Derived.ChangeOld
import Derived.Below
import Derived.SizedLaws
set_option linter.unusedVariables false
set_option linter.unusedSimpArgs false
namespace Go.Ab
open Go Go.RowKit Go.Proofs Fac
set_option linter.unusedVariables false
set_option linter.unusedSimpArgs false
set_option maxRecDepth 4000
set_option maxHeartbeats 1000000





theorem sl_equal (l m : List Int) : Ret Try.prog 52 [.sl 1 (rI l), .sl 1 (rI m)] (.bool (l == m)) := by
  refine Ret.of_fits fun hfits => ?_
  simp only [V.fits, V.fitsL, V.fitsR, rI_length] at hfits
  have hl := hfits.1.1
  have hlm := hfits.2.1.1
  apply Ret_fin (fn := Try.f52) Try.func52 rfl
  apply T_seq
  apply T_r F
  · (simp only [go_sem, Try.ntmps52]) <;> exact rfl
  apply K_seq
  apply T_seq
  apply T_seq
  apply T_r F
  · (simp only [go_sem, Try.ntmps52]) <;> exact rfl
  apply K_seq
  apply T_if
  · (simp only [go_sem, Try.ntmps52]) <;> exact rfl
  · intro bh0t
    have h0t := bh0t
    try simp only [CS] at h0t
    try simp only [BS] at bh0t
    try exact absurd bh0t (by decide)
    all_goals (
  apply T_seq
  apply T_r F
  · (simp only [go_sem, Try.ntmps52, bh0t]) <;> exact rfl
  apply K_seq
  apply T_ret
  apply K_seqR
  apply fin_ret
  · (simp only [go_sem, Try.ntmps52, bh0t, Try.f52]) <;> exact rfl
  -- leaf 0 (ret)
  simp only [go_sem, Try.ntmps52, bh0t, V.bool.injEq, V.int.injEq, true_and]
  grind)
  · intro bh0f
    have h0f := bh0f
    try simp only [CS] at h0f
    try simp only [BS] at bh0f
    try exact absurd bh0f (by decide)
    all_goals (
  apply T_skip
  apply K_seq
  apply T_seq
  apply T_seq
  apply T_r F
  · (simp only [go_sem, Try.ntmps52, bh0f]) <;> exact rfl
  apply K_seq
  apply T_block
  apply T_lp (α := Nat) [true, true, false, false, false, false, false, false, false, false, false, false, true, true, false, false, false, false, false, false, false, false, false, false, false, false] (fun k => (⟨[.sl 1 (rI l), .sl 1 (rI m), .undef, .undef, .undef, .undef, .undef, .undef, .undef, .undef, .undef, .undef, .int .i64 (l.length : Int), .int .i64 (k : Int), .undef, .undef, .undef, .undef, .undef, .undef, .undef, .undef, .undef, .undef, .undef, .undef], []⟩ : St)) (fun k => k ≤ l.length ∧ (l.drop k == m.drop k) = (l == m)) (fun k => l.length - k) (0)
  · (simp only [go_sem, Try.ntmps52, bh0f]) <;> exact rfl
  · simp
  · rintro k ⟨hk, hj⟩
    apply T_seq
    apply T_r F
    · (simp only [go_sem, Try.ntmps52, bh0f]) <;> exact rfl
    apply K_seq
    apply T_seq
    apply T_if
    · (simp only [go_sem, Try.ntmps52, bh0f]) <;> exact rfl
    · intro bh1t
      have h1t := bh1t
      try simp only [CS] at h1t
      try simp only [BS] at bh1t
      try exact absurd bh1t (by decide)
      all_goals (
  have hb : k < 9223372036854775807 := by omega
  have hm : k < m.length := by omega
  have hd := List.drop_eq_getElem_cons h1t
  have he := List.drop_eq_getElem_cons hm
  apply T_skip
  apply K_seq
  apply T_seq
  apply T_block
  apply T_seq
  apply T_r F
  · (simp only [go_sem, Try.ntmps52, bh0f, bh1t, h1t, rI_get h1t, hb, hm, rI_get hm]) <;> exact rfl
  apply K_seq
  apply T_seq
  apply T_qL F [0, 1, 2, 3, 4, 5, 6, 7, 8] rfl (by kernel_rfl)
  apply Q_pre [0, 1, 2, 3] [4, 5, 6, 7, 8]
  · (simp only [go_sem, Try.ntmps52, bh0f, bh1t, h1t, rI_get h1t, hb, hm, rI_get hm]) <;> exact rfl
  apply Q_run
  · (simp only [go_sem, Try.ntmps52, bh0f, bh1t, h1t, rI_get h1t, hb, hm, rI_get hm]) <;> exact rfl
  apply Q_nil
  apply K_seq
  apply T_if
  · (simp only [go_sem, Try.ntmps52, bh0f, bh1t, h1t, rI_get h1t, hb, hm, rI_get hm]) <;> exact rfl
  · intro bh2t
    have h2t := bh2t
    try simp only [CS] at h2t
    try simp only [BS] at bh2t
    try exact absurd bh2t (by decide)
    all_goals (
  apply T_seq
  apply T_r F
  · (simp only [go_sem, Try.ntmps52, bh0f, bh1t, h1t, rI_get h1t, hb, hm, rI_get hm, bh2t]) <;> exact rfl
  apply K_seq
  apply T_ret
  apply K_blkR
  apply K_seqR
  apply K_lpR
  apply K_blkR
  apply K_seqR
  apply fin_ret
  · (simp only [go_sem, Try.ntmps52, bh0f, bh1t, h1t, rI_get h1t, hb, hm, rI_get hm, bh2t, Try.f52]) <;> exact rfl
  -- leaf 1 (ret)
  simp only [go_sem, Try.ntmps52, bh0f, bh1t, h1t, rI_get h1t, hb, hm, rI_get hm, bh2t, V.bool.injEq, V.int.injEq, true_and]
  grind)
  · intro bh2f
    have h2f := bh2f
    try simp only [CS] at h2f
    try simp only [BS] at bh2f
    try exact absurd bh2f (by decide)
    all_goals (
  apply T_skip
  apply K_blk
  apply K_seq
  apply T_r F
  · (simp only [go_sem, Try.ntmps52, bh0f, bh1t, h1t, rI_get h1t, hb, hm, rI_get hm, bh2f]) <;> exact rfl
  refine K_lp (k + 1) ?_ ?_
  · (simp only [go_sem, Try.ntmps52, bh0f, bh1t, h1t, rI_get h1t, hb, hm, rI_get hm, bh2f]) <;> exact rfl
  -- leaf 2 (loop0)
  grind))
    · intro bh1f
      have h1f := bh1f
      try simp only [CS] at h1f
      try simp only [BS] at bh1f
      try exact absurd bh1f (by decide)
      all_goals (
  apply T_exit
  apply K_seqE
  apply K_lpE
  apply K_blkE
  apply K_seq
  apply T_seq
  apply T_r F
  · (simp only [go_sem, Try.ntmps52, bh0f, bh1f]) <;> exact rfl
  apply K_seq
  apply T_ret
  apply fin_ret
  · (simp only [go_sem, Try.ntmps52, bh0f, bh1f, Try.f52]) <;> exact rfl
  -- leaf 3 (ret)
  simp only [go_sem, Try.ntmps52, bh0f, bh1f, V.bool.injEq, V.int.injEq, true_and]
  grind))

theorem mv_exchY (t : Town) (p q : List Int) (o : V) (ok : M.Ok t) (hp : M.plan t p = true) (hq : M.plan t q = true) (ho : ∀ q, o.all q = true) : RetY Try.prog 6 [.sl 1 (rI q)] (hpE t p o .ready none ++ extP t (.sl 1 (rI p)) 6 7) (.bool (!M.pleases t p q)) (if M.pleases t p q = true then hpE t p (.sl 1 (rI q)) .done (some .ret) ++ extP t (.sl 1 (rI p)) 6 7 else hpE t p o .ready none ++ extP t (.sl 1 (rI p)) 6 7) := by
  have hpl := (M.plan_iff.1 hp).1
  have hql := (M.plan_iff.1 hq).1
  have h6 := M.houses_le ok
  have hlpq : p.length = q.length := by omega
  have hpi := M.pleases_iff (t := t) hlpq
  have hrp : (M.ranks t p).length = p.length := M.ranks_length t p
  have hrq : (M.ranks t q).length = q.length := M.ranks_length t q
  refine RetY_intro (pe := none) (tm := tmE t p) (ps := #[24]) (asg := asOf Try.f20) (bd := bdOf Try.f20) rfl rfl fun ro => ?_
  apply T_r F
  · (simp only [go_sem, hpE, extP, tmE, zipSet, cX_eq, cW_eq, hrp, hrq]) <;> exact rfl
  apply yas_next
  · (simp only [go_sem, hpE, extP, tmE, zipSet, cX_eq, cW_eq, hrp, hrq]) <;> exact rfl
  apply T_block
  apply T_seq
  apply T_seq
  apply T_wL F [0, 1, 2] rfl
  apply W_pre [0, 1] [2]
  · (simp only [go_sem, hpE, extP, tmE, zipSet, cX_eq, cW_eq, hrp, hrq]) <;> exact rfl
  apply W_call -- call 0 of function 52
  · (simp only [go_sem, hpE, extP, tmE, zipSet, cX_eq, cW_eq, hrp, hrq]) <;> exact rfl
  · (simp only [go_sem, hpE, extP, tmE, zipSet, cX_eq, cW_eq, hrp, hrq]) <;> exact rfl
  · exact rfl
  · (simp only [go_sem, hpE, extP, tmE, zipSet, cX_eq, cW_eq, hrp, hrq]) <;> exact rfl
  · (simp only [go_sem, hpE, extP, tmE, zipSet, cX_eq, cW_eq, hrp, hrq]) <;> exact rfl
  · exact ⟨_, Try.func52, rfl, rfl⟩
  · (simp only [go_sem, hpE, extP, tmE, zipSet, cX_eq, cW_eq, hrp, hrq]) <;> exact rfl
  · (simp only [go_sem, hpE, extP, tmE, zipSet, cX_eq, cW_eq, hrp, hrq]) <;> exact rfl
  · exact sl_equal _ _
  apply W_run
  · (simp only [go_sem, hpE, extP, tmE, zipSet, cX_eq, cW_eq, hrp, hrq]) <;> exact rfl
  apply W_nil
  apply K_seq
  apply T_if
  · (simp only [go_sem, hpE, extP, tmE, zipSet, cX_eq, cW_eq, hrp, hrq]) <;> exact rfl
  · intro bh0t
    have h0t := bh0t
    try simp only [CS] at h0t
    try simp only [BS] at bh0t
    try exact absurd bh0t (by decide)
    all_goals (
  have hpv : M.pleases t p q = false := by
    rw [← Bool.not_eq_true, hpi]
    intro h
    exact h.1 h0t.symm
  apply T_exit
  apply K_seqE
  apply K_blkE
  apply round_normal
  · (simp only [go_sem, hpE, extP, tmE, zipSet, cX_eq, cW_eq, hrp, hrq, bh0t, hpv]) <;> exact rfl
  · simp only [go_sem, hpE, extP, tmE, zipSet, cX_eq, cW_eq, hrp, hrq, bh0t, hpv]
  · simp only [go_sem, hpE, extP, tmE, zipSet, cX_eq, cW_eq, hrp, hrq, bh0t, hpv]
  · simp only [go_sem, hpE, extP, tmE, zipSet, cX_eq, cW_eq, hrp, hrq, bh0t, hpv]
  · rw [hpv]
    first | exact cloE ho | exact cloE (sl_all q))
  · intro bh0f
    have h0f := bh0f
    try simp only [CS] at h0f
    try simp only [BS] at bh0f
    try exact absurd bh0f (by decide)
    all_goals (
  apply T_skip
  apply K_seq
  apply T_seq
  apply T_seq
  apply T_wL F [0, 1, 2, 3, 4, 5] rfl
  apply W_pre [0, 1, 2] [3, 4, 5]
  · (simp only [go_sem, hpE, extP, tmE, zipSet, cX_eq, cW_eq, hrp, hrq, bh0f]) <;> exact rfl
  apply W_call -- call 1 of function 50
  · (simp only [go_sem, hpE, extP, tmE, zipSet, cX_eq, cW_eq, hrp, hrq, bh0f]) <;> exact rfl
  · (simp only [go_sem, hpE, extP, tmE, zipSet, cX_eq, cW_eq, hrp, hrq, bh0f]) <;> exact rfl
  · exact rfl
  · (simp only [go_sem, hpE, extP, tmE, zipSet, cX_eq, cW_eq, hrp, hrq, bh0f]) <;> exact rfl
  · (simp only [go_sem, hpE, extP, tmE, zipSet, cX_eq, cW_eq, hrp, hrq, bh0f]) <;> exact rfl
  · exact ⟨_, Try.func50, rfl, rfl⟩
  · (simp only [go_sem, hpE, extP, tmE, zipSet, cX_eq, cW_eq, hrp, hrq, bh0f]) <;> exact rfl
  · (simp only [go_sem, hpE, extP, tmE, zipSet, cX_eq, cW_eq, hrp, hrq, bh0f]) <;> exact rfl
  · exact mv_ranks _ _ (by omega) (by omega)
  apply W_run
  · (simp only [go_sem, hpE, extP, tmE, zipSet, cX_eq, cW_eq, hrp, hrq, bh0f]) <;> exact rfl
  apply W_nil
  apply K_seq
  apply T_block
  apply T_lp (α := Nat) [false, false, false, true, true, true, false, false, true, true, false, false, false, false, false, false, false, false, false, false, false, false, false, false, false, false, false, false, false, false, false, true, true, true, false, false, false, false, false, false, false, false, false, false, false, false, false, false, false, false, false, false, false, false, false, false, false] (fun k => (⟨[.undef, .undef, .undef, .ptr 1 0, .ptr 2 0, .ptr 3 0, .undef, .undef, .ptr 5 0, .sl 1 (rI q), .undef, .undef, .undef, .undef, .undef, .undef, .undef, .undef, .undef, .undef, .undef, .undef, .undef, .undef, .undef, .undef, .undef, .undef, .undef, .undef, .undef, .sl 1 (rI (M.ranks t q)), .int .i64 (q.length : Int), .int .i64 (k : Int), .undef, .undef, .undef, .undef, .undef, .undef, .undef, .undef, .undef, .undef, .undef, .undef, .undef, .undef, .undef, .undef, .undef, .undef, .undef, .undef, .undef, .undef, .undef], hpE t p o .busy none ++ extP t (.sl 1 (rI p)) 6 7⟩ : St)) (fun k => k ≤ q.length ∧ ∀ j (h1 : j < p.length) (h2 : j < q.length), j < k → p[j] = q[j] ∨ M.rank t j q[j] < M.rank t j p[j]) (fun k => q.length - k) (0)
  · (simp only [go_sem, hpE, extP, tmE, zipSet, cX_eq, cW_eq, hrp, hrq, bh0f]) <;> exact rfl
  · simp
  · rintro k ⟨hk, hj⟩
    apply T_seq
    apply T_r F
    · (simp only [go_sem, hpE, extP, tmE, zipSet, cX_eq, cW_eq, hrp, hrq, bh0f]) <;> exact rfl
    apply K_seq
    apply T_seq
    apply T_if
    · (simp only [go_sem, hpE, extP, tmE, zipSet, cX_eq, cW_eq, hrp, hrq, bh0f]) <;> exact rfl
    · intro bh1t
      have h1t := bh1t
      try simp only [CS] at h1t
      try simp only [BS] at bh1t
      try exact absurd bh1t (by decide)
      all_goals (
  have hb : k < 9223372036854775807 := by omega
  have hkp : k < p.length := by omega
  have hr1 : k < (M.ranks t q).length := by omega
  have hr2 : k < (M.ranks t p).length := by omega
  have hg1 := M.rank_len (t := t) h1t
  have hg2 := M.rank_len (t := t) hkp
  apply T_skip
  apply K_seq
  apply T_seq
  apply T_block
  apply T_seq
  apply T_r F
  · (simp only [go_sem, hpE, extP, tmE, zipSet, cX_eq, cW_eq, hrp, hrq, bh0f, bh1t, h1t, hb, rI_get hr1, hr1, rI_get hr2, hr2, rI_get h1t, rI_get hkp, hkp, hg1, hg2]) <;> exact rfl
  apply K_seq
  apply T_seq
  apply T_qL F [0, 1, 2, 3, 4, 5, 6, 7, 8, 9, 10, 11, 12, 13, 14, 15, 16] rfl (by kernel_rfl)
  apply Q_pre [0, 1, 2, 3] [4, 5, 6, 7, 8, 9, 10, 11, 12, 13, 14, 15, 16]
  · (simp only [go_sem, hpE, extP, tmE, zipSet, cX_eq, cW_eq, hrp, hrq, bh0f, bh1t, h1t, hb, rI_get hr1, hr1, rI_get hr2, hr2, rI_get h1t, rI_get hkp, hkp, hg1, hg2]) <;> exact rfl
  apply Q_pre [4, 5, 6, 7, 8, 9] [10, 11, 12, 13, 14, 15, 16]
  · (simp only [go_sem, hpE, extP, tmE, zipSet, cX_eq, cW_eq, hrp, hrq, bh0f, bh1t, h1t, hb, rI_get hr1, hr1, rI_get hr2, hr2, rI_get h1t, rI_get hkp, hkp, hg1, hg2]) <;> exact rfl
  apply Q_guard
  · (simp only [go_sem, hpE, extP, tmE, zipSet, cX_eq, cW_eq, hrp, hrq, bh0f, bh1t, h1t, hb, rI_get hr1, hr1, rI_get hr2, hr2, rI_get h1t, rI_get hkp, hkp, hg1, hg2]) <;> exact rfl
  · (simp only [go_sem, hpE, extP, tmE, zipSet, cX_eq, cW_eq, hrp, hrq, bh0f, bh1t, h1t, hb, rI_get hr1, hr1, rI_get hr2, hr2, rI_get h1t, rI_get hkp, hkp, hg1, hg2]) <;> exact rfl
  · intro bg0t
    have g0t := bg0t
    try simp only [CS] at g0t
    try simp only [BS] at bg0t
    try exact absurd bg0t (by decide)
    all_goals (
  apply Q_pre [10, 11, 12, 13] [14, 15, 16]
  · (simp only [go_sem, hpE, extP, tmE, zipSet, cX_eq, cW_eq, hrp, hrq, bh0f, bh1t, h1t, hb, rI_get hr1, hr1, rI_get hr2, hr2, rI_get h1t, rI_get hkp, hkp, hg1, hg2, bg0t]) <;> exact rfl
  apply Q_run
  · (simp only [go_sem, hpE, extP, tmE, zipSet, cX_eq, cW_eq, hrp, hrq, bh0f, bh1t, h1t, hb, rI_get hr1, hr1, rI_get hr2, hr2, rI_get h1t, rI_get hkp, hkp, hg1, hg2, bg0t]) <;> exact rfl
  apply Q_nil
  apply K_seq
  apply T_if
  · (simp only [go_sem, hpE, extP, tmE, zipSet, cX_eq, cW_eq, hrp, hrq, bh0f, bh1t, h1t, hb, rI_get hr1, hr1, rI_get hr2, hr2, rI_get h1t, rI_get hkp, hkp, hg1, hg2, bg0t]) <;> exact rfl
  · intro bh2t
    have h2t := bh2t
    try simp only [CS] at h2t
    try simp only [BS] at bh2t
    try exact absurd bh2t (by decide)
    all_goals (
  have hpv : M.pleases t p q = false := by
    rw [← Bool.not_eq_true, hpi]
    intro h
    have := h.2 k hkp h1t
    grind
  apply T_exit
  apply K_blkX rfl
  apply K_seqE
  apply K_lpE
  apply K_blkX rfl
  apply K_seqE
  apply K_blkE
  apply round_normal
  · (simp only [go_sem, hpE, extP, tmE, zipSet, cX_eq, cW_eq, hrp, hrq, bh0f, bh1t, h1t, hb, rI_get hr1, hr1, rI_get hr2, hr2, rI_get h1t, rI_get hkp, hkp, hg1, hg2, bg0t, bh2t, hpv]) <;> exact rfl
  · simp only [go_sem, hpE, extP, tmE, zipSet, cX_eq, cW_eq, hrp, hrq, bh0f, bh1t, h1t, hb, rI_get hr1, hr1, rI_get hr2, hr2, rI_get h1t, rI_get hkp, hkp, hg1, hg2, bg0t, bh2t, hpv]
  · simp only [go_sem, hpE, extP, tmE, zipSet, cX_eq, cW_eq, hrp, hrq, bh0f, bh1t, h1t, hb, rI_get hr1, hr1, rI_get hr2, hr2, rI_get h1t, rI_get hkp, hkp, hg1, hg2, bg0t, bh2t, hpv]
  · simp only [go_sem, hpE, extP, tmE, zipSet, cX_eq, cW_eq, hrp, hrq, bh0f, bh1t, h1t, hb, rI_get hr1, hr1, rI_get hr2, hr2, rI_get h1t, rI_get hkp, hkp, hg1, hg2, bg0t, bh2t, hpv]
  · rw [hpv]
    first | exact cloE ho | exact cloE (sl_all q))
  · intro bh2f
    have h2f := bh2f
    try simp only [CS] at h2f
    try simp only [BS] at bh2f
    try exact absurd bh2f (by decide)
    all_goals (
  apply T_skip
  apply K_blk
  apply K_seq
  apply T_r F
  · (simp only [go_sem, hpE, extP, tmE, zipSet, cX_eq, cW_eq, hrp, hrq, bh0f, bh1t, h1t, hb, rI_get hr1, hr1, rI_get hr2, hr2, rI_get h1t, rI_get hkp, hkp, hg1, hg2, bg0t, bh2f]) <;> exact rfl
  refine K_lp (k + 1) ?_ ?_
  · (simp only [go_sem, hpE, extP, tmE, zipSet, cX_eq, cW_eq, hrp, hrq, bh0f, bh1t, h1t, hb, rI_get hr1, hr1, rI_get hr2, hr2, rI_get h1t, rI_get hkp, hkp, hg1, hg2, bg0t, bh2f]) <;> exact rfl
  -- leaf 0 (loop0)
  grind))
  · intro bg0f
    have g0f := bg0f
    try simp only [CS] at g0f
    try simp only [BS] at bg0f
    try exact absurd bg0f (by decide)
    all_goals (
  apply Q_pre [10, 11, 12, 13] [14, 15, 16]
  · (simp only [go_sem, hpE, extP, tmE, zipSet, cX_eq, cW_eq, hrp, hrq, bh0f, bh1t, h1t, hb, rI_get hr1, hr1, rI_get hr2, hr2, rI_get h1t, rI_get hkp, hkp, hg1, hg2, bg0f]) <;> exact rfl
  apply Q_run
  · (simp only [go_sem, hpE, extP, tmE, zipSet, cX_eq, cW_eq, hrp, hrq, bh0f, bh1t, h1t, hb, rI_get hr1, hr1, rI_get hr2, hr2, rI_get h1t, rI_get hkp, hkp, hg1, hg2, bg0f]) <;> exact rfl
  apply Q_nil
  apply K_seq
  apply T_if
  · (simp only [go_sem, hpE, extP, tmE, zipSet, cX_eq, cW_eq, hrp, hrq, bh0f, bh1t, h1t, hb, rI_get hr1, hr1, rI_get hr2, hr2, rI_get h1t, rI_get hkp, hkp, hg1, hg2, bg0f]) <;> exact rfl
  · intro bh3t
    exact absurd bh3t (by simp)
  · intro bh3f
    have h3f := bh3f
    try simp only [CS] at h3f
    try simp only [BS] at bh3f
    try exact absurd bh3f (by decide)
    all_goals (
  apply T_skip
  apply K_blk
  apply K_seq
  apply T_r F
  · (simp only [go_sem, hpE, extP, tmE, zipSet, cX_eq, cW_eq, hrp, hrq, bh0f, bh1t, h1t, hb, rI_get hr1, hr1, rI_get hr2, hr2, rI_get h1t, rI_get hkp, hkp, hg1, hg2, bg0f, bh3f]) <;> exact rfl
  refine K_lp (k + 1) ?_ ?_
  · (simp only [go_sem, hpE, extP, tmE, zipSet, cX_eq, cW_eq, hrp, hrq, bh0f, bh1t, h1t, hb, rI_get hr1, hr1, rI_get hr2, hr2, rI_get h1t, rI_get hkp, hkp, hg1, hg2, bg0f, bh3f]) <;> exact rfl
  -- leaf 1 (loop0)
  grind)))
    · intro bh1f
      have h1f := bh1f
      try simp only [CS] at h1f
      try simp only [BS] at bh1f
      try exact absurd bh1f (by decide)
      all_goals (
  have hpv : M.pleases t p q = true := by
    rw [hpi]
    exact ⟨fun e => h0f e.symm, fun j h1 h2 => hj j h1 h2 (by omega)⟩
  apply T_exit
  apply K_seqE
  apply K_lpE
  apply K_blkE
  apply K_seq
  apply T_seq
  apply T_r F
  · (simp only [go_sem, hpE, extP, tmE, zipSet, cX_eq, cW_eq, hrp, hrq, bh0f, bh1f, hpv]) <;> exact rfl
  apply K_seq
  apply T_ret
  apply K_blkR
  apply round_ret
  · (simp only [go_sem, hpE, extP, tmE, zipSet, cX_eq, cW_eq, hrp, hrq, bh0f, bh1f, hpv]) <;> exact rfl
  · simp only [go_sem, hpE, extP, tmE, zipSet, cX_eq, cW_eq, hrp, hrq, bh0f, bh1f, hpv]
  · simp only [go_sem, hpE, extP, tmE, zipSet, cX_eq, cW_eq, hrp, hrq, bh0f, bh1f, hpv]
  · simp only [go_sem, hpE, extP, tmE, zipSet, cX_eq, cW_eq, hrp, hrq, bh0f, bh1f, hpv]
  · rw [hpv]
    first | exact cloE ho | exact cloE (sl_all q)))


theorem feedE {t : Town} {p : List Int} (ok : M.Ok t) (hp : M.plan t p = true) : ∀ (l : List (List Int)), (∀ q ∈ l, q ∈ M.plans t) →
    (l.find? (M.pleases t p) = none → FeedP t (.sl 1 (rI p)) 6 7 8 9 10 l (hpE t p .nil .ready none ++ extP t (.sl 1 (rI p)) 6 7) true (hpE t p .nil .ready none ++ extP t (.sl 1 (rI p)) 6 7)) ∧
    (∀ q, l.find? (M.pleases t p) = some q → FeedP t (.sl 1 (rI p)) 6 7 8 9 10 l (hpE t p .nil .ready none ++ extP t (.sl 1 (rI p)) 6 7) false (hpE t p (.sl 1 (rI q)) .done (some .ret) ++ extP t (.sl 1 (rI p)) 6 7))
  | [], _ => ⟨fun _ => .nil ⟨cloE (fun _ => rfl), rfl, rfl, rfl, rfl⟩, fun q h => by simp at h⟩
  | x :: l, hl => by
    have hx := mv_exchY t p x .nil ok hp (M.mem_plans.1 (hl x (by simp))).1 (fun _ => rfl)
    have ih := feedE ok hp l (fun q hq => hl q (by simp [hq]))
    rw [List.find?_cons]
    cases hpv : M.pleases t p x with
    | true =>
      refine ⟨fun h => by simp at h, fun q h => ?_⟩
      simp only [Option.some.injEq] at h; subst h
      rw [hpv, if_pos rfl] at hx
      exact .stop ⟨cloE (fun _ => rfl), rfl, rfl, rfl, rfl⟩ ⟨cloE (sl_all x), rfl, rfl, rfl, rfl⟩ hx
    | false =>
      rw [hpv, if_neg (by simp)] at hx
      exact ⟨fun h => .go ⟨cloE (fun _ => rfl), rfl, rfl, rfl, rfl⟩ hx (ih.1 h), fun q h => .go ⟨cloE (fun _ => rfl), rfl, rfl, rfl, rfl⟩ hx (ih.2 q h)⟩
def M.exch (t : Town) (p : List Int) : Option (List Int) := (M.plans t).find? (M.pleases t p)

theorem mv_ExchangeA (t : Town) (p : List Int) (hh : t.houses.length ≤ 1000) (he : (M.err t p != 0) = true) : Ret Try.prog 20 [.agg (cT t), .sl 1 (rI p)] (.tup [.nil, .int .i64 (M.err t p)]) := by
  refine Ret.of_fits fun hfits => ?_
  simp only [V.fits, V.fitsL, V.fitsR, cT_fits] at hfits
  have hsl := hfits.1.schools
  apply Ret_fin (fn := Try.f20) Try.func20 rfl
  apply T_seq
  apply T_r F
  · (simp only [go_sem, Try.ntmps20, cX_eq, cW_eq, he]) <;> exact rfl
  apply K_seq
  apply T_scope
  apply T_seq
  apply T_r F
  · (simp only [go_sem, Try.ntmps20, cX_eq, cW_eq, he]) <;> exact rfl
  apply K_seq
  apply T_seq
  apply T_seq
  apply T_wL F [0, 1, 2] rfl
  apply W_pre [0] [1, 2]
  · (simp only [go_sem, Try.ntmps20, cX_eq, cW_eq, he]) <;> exact rfl
  apply W_call -- call 0 of function 49
  · (simp only [go_sem, Try.ntmps20, cX_eq, cW_eq, he]) <;> exact rfl
  · (simp only [go_sem, Try.ntmps20, cX_eq, cW_eq, he]) <;> exact rfl
  · exact rfl
  · (simp only [go_sem, Try.ntmps20, cX_eq, cW_eq, he]) <;> exact rfl
  · (simp only [go_sem, Try.ntmps20, cX_eq, cW_eq, he]) <;> exact rfl
  · exact ⟨_, Try.func49, rfl, rfl⟩
  · (simp only [go_sem, Try.ntmps20, cX_eq, cW_eq, he]) <;> exact rfl
  · (simp only [go_sem, Try.ntmps20, cX_eq, cW_eq, he]) <;> exact rfl
  · exact mv_allowed _ _ (by omega)
  apply W_run
  · (simp only [go_sem, Try.ntmps20, cX_eq, cW_eq, he]) <;> exact rfl
  apply W_nil
  apply K_seq
  apply T_seq
  apply T_r F
  · (simp only [go_sem, Try.ntmps20, cX_eq, cW_eq, he]) <;> exact rfl
  apply K_seq
  apply T_ifT -- h0
  · (simp only [go_sem, Try.ntmps20, cX_eq, cW_eq, he]) <;> exact rfl
  apply T_seq
  apply T_r F
  · (simp only [go_sem, Try.ntmps20, cX_eq, cW_eq, he]) <;> exact rfl
  apply K_seq
  apply T_ret
  apply K_seqR
  apply K_scopeR
  apply fin_ret
  · (simp only [go_sem, Try.ntmps20, cX_eq, cW_eq, he, Try.f20]) <;> exact rfl
  -- leaf 0 (ret)
  
  all_goals rfl

theorem mv_ExchangeB (t : Town) (p : List Int) (hh : t.houses.length ≤ 1000) (he : M.err t p = 0) (hf : M.exch t p = none) : Ret Try.prog 20 [.agg (cT t), .sl 1 (rI p)] (.tup [.nil, .int .i64 5]) := by
  refine Ret.of_fits fun hfits => ?_
  simp only [V.fits, V.fitsL, V.fitsR, cT_fits] at hfits
  have hsl := hfits.1.schools
  have hop : M.Ok t ∧ M.plan t p = true := by
    unfold M.err at he
    split at he
    · assumption
    · exact absurd he (by decide)
  have ok := hop.1
  have hp := hop.2
  have hpl := (M.plan_iff.1 hp).1
  have h6 := M.houses_le ok
  apply Ret_fin (fn := Try.f20) Try.func20 rfl
  apply T_seq
  apply T_r F
  · (simp only [go_sem, Try.ntmps20, cX_eq, cW_eq, he, hpE, tmE]) <;> exact rfl
  apply K_seq
  apply T_scope
  apply T_seq
  apply T_r F
  · (simp only [go_sem, Try.ntmps20, cX_eq, cW_eq, he, hpE, tmE]) <;> exact rfl
  apply K_seq
  apply T_seq
  apply T_seq
  apply T_wL F [0, 1, 2] rfl
  apply W_pre [0] [1, 2]
  · (simp only [go_sem, Try.ntmps20, cX_eq, cW_eq, he, hpE, tmE]) <;> exact rfl
  apply W_call -- call 0 of function 49
  · (simp only [go_sem, Try.ntmps20, cX_eq, cW_eq, he, hpE, tmE]) <;> exact rfl
  · (simp only [go_sem, Try.ntmps20, cX_eq, cW_eq, he, hpE, tmE]) <;> exact rfl
  · exact rfl
  · (simp only [go_sem, Try.ntmps20, cX_eq, cW_eq, he, hpE, tmE]) <;> exact rfl
  · (simp only [go_sem, Try.ntmps20, cX_eq, cW_eq, he, hpE, tmE]) <;> exact rfl
  · exact ⟨_, Try.func49, rfl, rfl⟩
  · (simp only [go_sem, Try.ntmps20, cX_eq, cW_eq, he, hpE, tmE]) <;> exact rfl
  · (simp only [go_sem, Try.ntmps20, cX_eq, cW_eq, he, hpE, tmE]) <;> exact rfl
  · exact mv_allowed _ _ (by omega)
  apply W_run
  · (simp only [go_sem, Try.ntmps20, cX_eq, cW_eq, he, hpE, tmE]) <;> exact rfl
  apply W_nil
  apply K_seq
  apply T_seq
  apply T_r F
  · (simp only [go_sem, Try.ntmps20, cX_eq, cW_eq, he, hpE, tmE]) <;> exact rfl
  apply K_seq
  apply T_ifF -- h0
  · (simp only [go_sem, Try.ntmps20, cX_eq, cW_eq, he, hpE, tmE]) <;> exact rfl
  apply T_skip
  apply K_seq
  apply T_seq
  apply T_wL F [0, 1, 2, 3] rfl
  apply W_pre [0] [1, 2, 3]
  · (simp only [go_sem, Try.ntmps20, cX_eq, cW_eq, he, hpE, tmE]) <;> exact rfl
  apply W_call -- call 1 of function 50
  · (simp only [go_sem, Try.ntmps20, cX_eq, cW_eq, he, hpE, tmE]) <;> exact rfl
  · (simp only [go_sem, Try.ntmps20, cX_eq, cW_eq, he, hpE, tmE]) <;> exact rfl
  · exact rfl
  · (simp only [go_sem, Try.ntmps20, cX_eq, cW_eq, he, hpE, tmE]) <;> exact rfl
  · (simp only [go_sem, Try.ntmps20, cX_eq, cW_eq, he, hpE, tmE]) <;> exact rfl
  · exact ⟨_, Try.func50, rfl, rfl⟩
  · (simp only [go_sem, Try.ntmps20, cX_eq, cW_eq, he, hpE, tmE]) <;> exact rfl
  · (simp only [go_sem, Try.ntmps20, cX_eq, cW_eq, he, hpE, tmE]) <;> exact rfl
  · exact mv_ranks _ _ (by omega) (by omega)
  apply W_run
  · (simp only [go_sem, Try.ntmps20, cX_eq, cW_eq, he, hpE, tmE]) <;> exact rfl
  apply W_nil
  apply K_seq
  apply T_seq
  apply T_label
  apply K_seq
  apply T_seq
  apply T_seq
  apply T_r F
  · (simp only [go_sem, Try.ntmps20, cX_eq, cW_eq, he, hpE, tmE]) <;> exact rfl
  apply K_seq
  apply T_block
  apply T_rangeFunc -- range 0
  · (simp only [go_sem, Try.ntmps20, cX_eq, cW_eq, he, hpE, tmE]) <;> exact rfl
  · exact ⟨_, Try.func51, rfl, rfl⟩
  · exact (mv_plans (h := hpE t p .nil .ready none) (h1 := hpE t p (.nil) .ready (none)) (b := true) (PlV.sl p) ok hh hsl (hpE_closed (fun _ => rfl)) rfl ((feedE ok hp (M.plans t) (fun q hq => hq)).1 hf) : RetS Try.prog 51 [.agg (cX t (.sl 1 (rI p))), .yield 6] (hpE t p .nil .ready none) (.tup []) (hpE t p (.nil) .ready (none)))
  · (simp only [go_sem, Try.ntmps20, cX_eq, cW_eq, he, hpE, tmE]) <;> exact rfl
  · simp
  simp only [contK]
  apply K_blk
  apply K_seq
  apply T_seq
  apply T_r F
  · (simp only [go_sem, Try.ntmps20, cX_eq, cW_eq, he, hpE, tmE]) <;> exact rfl
  apply K_seq
  apply T_ret
  apply K_scopeR
  apply fin_ret
  · (simp only [go_sem, Try.ntmps20, cX_eq, cW_eq, he, hpE, tmE, Try.f20]) <;> exact rfl
  -- leaf 0 (ret)
  
  all_goals rfl

theorem mv_ExchangeC (t : Town) (p : List Int) (hh : t.houses.length ≤ 1000) (he : M.err t p = 0) (q : List Int) (hf : M.exch t p = some q) : Ret Try.prog 20 [.agg (cT t), .sl 1 (rI p)] (.tup [.sl 1 (rI q), .int .i64 0]) := by
  refine Ret.of_fits fun hfits => ?_
  simp only [V.fits, V.fitsL, V.fitsR, cT_fits] at hfits
  have hsl := hfits.1.schools
  have hop : M.Ok t ∧ M.plan t p = true := by
    unfold M.err at he
    split at he
    · assumption
    · exact absurd he (by decide)
  have ok := hop.1
  have hp := hop.2
  have hpl := (M.plan_iff.1 hp).1
  have h6 := M.houses_le ok
  apply Ret_fin (fn := Try.f20) Try.func20 rfl
  apply T_seq
  apply T_r F
  · (simp only [go_sem, Try.ntmps20, cX_eq, cW_eq, he, hpE, tmE]) <;> exact rfl
  apply K_seq
  apply T_scope
  apply T_seq
  apply T_r F
  · (simp only [go_sem, Try.ntmps20, cX_eq, cW_eq, he, hpE, tmE]) <;> exact rfl
  apply K_seq
  apply T_seq
  apply T_seq
  apply T_wL F [0, 1, 2] rfl
  apply W_pre [0] [1, 2]
  · (simp only [go_sem, Try.ntmps20, cX_eq, cW_eq, he, hpE, tmE]) <;> exact rfl
  apply W_call -- call 0 of function 49
  · (simp only [go_sem, Try.ntmps20, cX_eq, cW_eq, he, hpE, tmE]) <;> exact rfl
  · (simp only [go_sem, Try.ntmps20, cX_eq, cW_eq, he, hpE, tmE]) <;> exact rfl
  · exact rfl
  · (simp only [go_sem, Try.ntmps20, cX_eq, cW_eq, he, hpE, tmE]) <;> exact rfl
  · (simp only [go_sem, Try.ntmps20, cX_eq, cW_eq, he, hpE, tmE]) <;> exact rfl
  · exact ⟨_, Try.func49, rfl, rfl⟩
  · (simp only [go_sem, Try.ntmps20, cX_eq, cW_eq, he, hpE, tmE]) <;> exact rfl
  · (simp only [go_sem, Try.ntmps20, cX_eq, cW_eq, he, hpE, tmE]) <;> exact rfl
  · exact mv_allowed _ _ (by omega)
  apply W_run
  · (simp only [go_sem, Try.ntmps20, cX_eq, cW_eq, he, hpE, tmE]) <;> exact rfl
  apply W_nil
  apply K_seq
  apply T_seq
  apply T_r F
  · (simp only [go_sem, Try.ntmps20, cX_eq, cW_eq, he, hpE, tmE]) <;> exact rfl
  apply K_seq
  apply T_ifF -- h0
  · (simp only [go_sem, Try.ntmps20, cX_eq, cW_eq, he, hpE, tmE]) <;> exact rfl
  apply T_skip
  apply K_seq
  apply T_seq
  apply T_wL F [0, 1, 2, 3] rfl
  apply W_pre [0] [1, 2, 3]
  · (simp only [go_sem, Try.ntmps20, cX_eq, cW_eq, he, hpE, tmE]) <;> exact rfl
  apply W_call -- call 1 of function 50
  · (simp only [go_sem, Try.ntmps20, cX_eq, cW_eq, he, hpE, tmE]) <;> exact rfl
  · (simp only [go_sem, Try.ntmps20, cX_eq, cW_eq, he, hpE, tmE]) <;> exact rfl
  · exact rfl
  · (simp only [go_sem, Try.ntmps20, cX_eq, cW_eq, he, hpE, tmE]) <;> exact rfl
  · (simp only [go_sem, Try.ntmps20, cX_eq, cW_eq, he, hpE, tmE]) <;> exact rfl
  · exact ⟨_, Try.func50, rfl, rfl⟩
  · (simp only [go_sem, Try.ntmps20, cX_eq, cW_eq, he, hpE, tmE]) <;> exact rfl
  · (simp only [go_sem, Try.ntmps20, cX_eq, cW_eq, he, hpE, tmE]) <;> exact rfl
  · exact mv_ranks _ _ (by omega) (by omega)
  apply W_run
  · (simp only [go_sem, Try.ntmps20, cX_eq, cW_eq, he, hpE, tmE]) <;> exact rfl
  apply W_nil
  apply K_seq
  apply T_seq
  apply T_label
  apply K_seq
  apply T_seq
  apply T_seq
  apply T_r F
  · (simp only [go_sem, Try.ntmps20, cX_eq, cW_eq, he, hpE, tmE]) <;> exact rfl
  apply K_seq
  apply T_block
  apply T_rangeFunc -- range 0
  · (simp only [go_sem, Try.ntmps20, cX_eq, cW_eq, he, hpE, tmE]) <;> exact rfl
  · exact ⟨_, Try.func51, rfl, rfl⟩
  · exact (mv_plans (h := hpE t p .nil .ready none) (h1 := hpE t p (.sl 1 (rI q)) .done (some .ret)) (b := false) (PlV.sl p) ok hh hsl (hpE_closed (sl_all q)) rfl ((feedE ok hp (M.plans t) (fun q hq => hq)).2 q hf) : RetS Try.prog 51 [.agg (cX t (.sl 1 (rI p))), .yield 6] (hpE t p .nil .ready none) (.tup []) (hpE t p (.sl 1 (rI q)) .done (some .ret)))
  · (simp only [go_sem, Try.ntmps20, cX_eq, cW_eq, he, hpE, tmE]) <;> exact rfl
  · simp
  apply T_ret
  apply K_blkR
  apply K_seqR
  apply K_scopeR
  apply fin_ret
  · (simp only [go_sem, Try.ntmps20, cX_eq, cW_eq, he, hpE, tmE, Try.f20]) <;> exact rfl
  -- leaf 0 (ret)
  simp only [go_sem, Try.ntmps20, cX_eq, cW_eq, he, hpE, tmE, V.bool.injEq, V.int.injEq, true_and]
  all_goals rfl

end Go.Ab
namespace Go.Ab
open Go Go.RowKit Go.Proofs
set_option linter.unusedVariables false
namespace M
/-! ### pleased, as the law reads it -/
def betterL (w : List Int) (x y : Int) : Bool := (w.takeWhile (fun z => !(z == x))).contains y
def plAt (t : Town) (p q : List Int) (i : Nat) : Bool := at' p i == at' q i || betterL (hs t i).wishes (at' p i) (at' q i)
def pleasedL (t : Town) (p q : List Int) : Bool := (List.range p.length).all (plAt t p q) && differ p q
theorem pleasedL_no {t : Town} {p q : List Int} {k : Nat} (hk : k < p.length) (h : plAt t p q k = false) : pleasedL t p q = false := by
  unfold pleasedL
  rw [Bool.and_eq_false_iff]
  left
  rw [List.all_eq_false]
  exact ⟨k, List.mem_range.2 hk, by simp [h]⟩
theorem betterL_eq {x y : Int} : ∀ {j : Nat} {w : List Int}, (∀ i, i < j → w[i]? ≠ some x) → j ≤ w.length → (w.length ≤ j ∨ w[j]? = some x) → betterL w x y = (w.take j).contains y
  | 0, w, _, _, he => by
    cases w with
    | nil => rfl
    | cons a w =>
      rcases he with he | he
      · simp at he
      · simp only [List.getElem?_cons_zero, Option.some.injEq] at he; subst he
        simp [betterL]
  | j + 1, w, h, hj, he => by
    cases w with
    | nil => simp at hj
    | cons a w =>
      have ha : a ≠ x := fun e => h 0 (by omega) (by simp [e])
      have ih := betterL_eq (x := x) (y := y) (j := j) (w := w) (fun i hi => by simpa using h (i + 1) (by omega)) (by simpa using hj) (by simpa using he)
      unfold betterL at ih ⊢
      rw [List.takeWhile_cons]
      simp only [ha, Bool.not_eq_true', beq_eq_false_iff_ne, ne_eq, not_false_eq_true, if_true, List.take_succ_cons, List.contains_cons]
      rw [ih]
theorem contains_take {w : List Int} {y : Int} {j : Nat} (h : j < w.length) : (w.take (j + 1)).contains y = ((w.take j).contains y || w[j] == y) := by
  rw [List.take_succ_eq_append_getElem h, Bool.eq_iff_iff]
  simp only [List.contains_iff_mem, List.mem_append, List.mem_singleton, Bool.or_eq_true, beq_iff_eq]
  constructor
  · rintro (h | h)
    · exact .inl h
    · exact .inr h.symm
  · rintro (h | h)
    · exact .inl h
    · exact .inr h.symm
theorem pos_some {w : List Int} {y : Int} {k : Nat} : pos w y = some k ↔ ∃ h : k < w.length, w[k] = y ∧ ∀ j (hj : j < k), w[j] ≠ y := by
  unfold pos
  rw [List.findIdx?_eq_some_iff_getElem]
  simp
theorem contains_pos {w : List Int} {y : Int} {k ky : Nat} (h : pos w y = some ky) : (w.take k).contains y = decide (ky < k) := by
  obtain ⟨h1, h2, h3⟩ := pos_some.1 h
  rw [Bool.eq_iff_iff, List.contains_iff_mem, decide_eq_true_eq, List.mem_take_iff_getElem]
  constructor
  · rintro ⟨i, hi, rfl⟩
    rcases Nat.lt_or_ge i ky with h' | h'
    · exact absurd rfl (h3 i h')
    · omega
  · intro hlt
    exact ⟨ky, by omega, h2⟩
theorem contains_none {w : List Int} {y : Int} (h : pos w y = none) (k : Nat) : (w.take k).contains y = false := by
  rw [← Bool.not_eq_true, List.contains_iff_mem]
  intro hm
  unfold pos at h
  rw [List.findIdx?_eq_none_iff] at h
  have := h y (List.mem_of_mem_take hm)
  simp at this
theorem betterL_rank {t : Town} {i : Nat} {x y : Int} (hx : 0 ≤ rank t i x) (hy : 0 ≤ rank t i y) : betterL (hs t i).wishes x y = decide (rank t i y < rank t i x) := by
  rw [Bool.eq_iff_iff, decide_eq_true_eq]
  unfold rank hs at *
  cases hh : t.houses[i]? with
  | none => simp [hh] at hx
  | some h =>
    simp only [hh, Option.getD_some] at hx hy ⊢
    have key : ∀ j, (∀ i, i < j → h.wishes[i]? ≠ some x) → j ≤ h.wishes.length → (h.wishes.length ≤ j ∨ h.wishes[j]? = some x) → betterL h.wishes x y = (h.wishes.take j).contains y := fun j => betterL_eq
    cases px : pos h.wishes x with
    | some kx =>
      obtain ⟨h1, h2, h3⟩ := pos_some.1 px
      rw [key kx (fun i hi => by rw [List.getElem?_eq_getElem (by omega)]; simpa using h3 i hi) (by omega) (.inr (by rw [List.getElem?_eq_getElem h1, h2]))]
      cases py : pos h.wishes y with
      | some ky => rw [contains_pos py]; simp
      | none =>
        rw [contains_none py]
        rw [py] at hy
        simp only at hy ⊢
        split at hy
        · rename_i hl
          simp only [hl, if_true]; simp; omega
        · omega
    | none =>
      have hn : ∀ i, i < h.wishes.length → h.wishes[i]? ≠ some x := fun i hi e => by
        unfold pos at px
        rw [List.findIdx?_eq_none_iff] at px
        have := px x (List.mem_of_getElem? e)
        simp at this
      rw [key h.wishes.length hn (Nat.le_refl _) (.inl (Nat.le_refl _))]
      rw [px] at hx
      simp only at hx ⊢
      split at hx
      · rename_i hl
        cases py : pos h.wishes y with
        | some ky =>
          obtain ⟨h1, _⟩ := pos_some.1 py
          rw [contains_pos py]; simp [hl]
        | none =>
          rw [contains_none py]
          rw [py] at hy
          simp only at hy ⊢
          split at hy
          · rename_i hl'; rw [if_pos hl, if_pos hl']; simp
          · omega
      · omega
theorem allowed_rank {t : Town} {p : List Int} (ha : allowed t p = true) {i : Nat} (hi : i < p.length) : 0 ≤ rank t i (at' p i) := by
  have := ((allowed_iff.1 ha).1 i hi).2.2.1
  unfold unwished at this
  simpa using this
theorem pleasedL_eq {t : Town} {p q : List Int} (hl : p.length = q.length) (hp : allowed t p = true) (hq : allowed t q = true) : pleasedL t p q = pleases t p q := by
  unfold pleasedL pleases
  congr 1
  rw [Bool.eq_iff_iff, List.all_eq_true, List.all_eq_true]
  have key : ∀ i, i < p.length → plAt t p q i = pleaseAt t p q i := fun i hi => by
    unfold plAt pleaseAt
    rw [betterL_rank (allowed_rank hp hi) (allowed_rank hq (by omega))]
  constructor
  · intro h x hx; rw [← key x (List.mem_range.1 hx)]; exact h x hx
  · intro h x hx; rw [key x (List.mem_range.1 hx)]; exact h x hx
/-! ### exchanges -/
theorem exch_none {t : Town} {p q : List Int} (h : exch t p = none) (hq : plan t q = true) (ha : allowed t q = true) : pleases t p q = false := by
  unfold exch at h
  rw [List.find?_eq_none] at h
  simpa using h q (mem_plans.2 ⟨hq, ha⟩)
theorem find_sorted {l : List (List Int)} {f : List Int → Bool} {q : List Int} (hs : l.Pairwise fun a b => before a b = true) (h : l.find? f = some q) : q ∈ l ∧ f q = true ∧ ∀ o ∈ l, f o = true → before o q = false := by
  refine ⟨List.mem_of_find?_eq_some h, List.find?_some h, fun o ho hf => ?_⟩
  induction l with
  | nil => simp at ho
  | cons x l ih =>
    rw [List.pairwise_cons] at hs
    rw [List.find?_cons] at h
    cases hx : f x with
    | true =>
      rw [hx] at h; simp only [Option.some.injEq] at h; subst h
      rcases List.mem_cons.1 ho with rfl | ho
      · exact before_irrefl _
      · exact before_asymm (hs.1 o ho)
    | false =>
      rw [hx] at h
      rcases List.mem_cons.1 ho with rfl | ho
      · rw [hx] at hf; cases hf
      · exact ih hs.2 h ho
theorem exch_some {t : Town} {p q : List Int} (h : exch t p = some q) : plan t q = true ∧ allowed t q = true ∧ pleases t p q = true ∧ ∀ o, plan t o = true → allowed t o = true → pleases t p o = true → before o q = false := by
  obtain ⟨h1, h2, h3⟩ := find_sorted (plans_sorted t) h
  obtain ⟨a, b⟩ := mem_plans.1 h1
  exact ⟨a, b, h2, fun o ho ha hp => h3 o (mem_plans.2 ⟨ho, ha⟩) hp⟩
end M
theorem mv_FaultK {t : Town} {p : List Int} (hh : t.houses.length ≤ 1000) (ok : M.Ok t) (hp : M.plan t p = true) : Ret Try.prog 17 [.agg (cT t), .sl 1 (rI p)] (.tup [.agg [.int .i64 (M.fault t p).1, .int .i64 (M.fault t p).2], .int .i64 0]) := by
  have := mv_Fault t p hh
  rw [if_pos ⟨ok, hp⟩] at this
  exact this
end Go.Ab
namespace Go.Ab
open Go Go.RowKit Go.Proofs
set_option linter.unusedVariables false
namespace M
/-! ### the best plan and the fairest one -/
def fB (t : Town) (p : List Int) : Int × Int := (sum (ranks t p), 0)
def fF (t : Town) (p : List Int) : Int × Int := (most (ranks t p), sum (ranks t p))
theorem fine_ranks {t : Town} {p : List Int} (ok : Ok t) (hp : plan t p = true) (ha : allowed t p = true) : fine t (ranks t p) = true := by
  unfold fine
  rw [Bool.and_eq_true, List.all_eq_true, beq_iff_eq, ranks_length]
  refine ⟨fun x hx => ?_, (plan_iff.1 hp).1⟩
  have h1 := ranks_nonneg ha x hx
  have h2 := ranks_mem ok hx
  simp; omega
theorem plans_nil {t : Town} (h : plans t = []) {q : List Int} (hq : plan t q = true) : allowed t q = false := by
  rw [← Bool.not_eq_true]
  intro ha
  have := mem_plans.2 ⟨hq, ha⟩
  rw [h] at this; cases this
theorem best_of {t : Town} (h : plans t ≠ []) : ∃ a, least (fun p => (sum (ranks t p), 0)) (plans t) = some (a, (sum (ranks t a), 0)) ∧ plan t a = true ∧ allowed t a = true ∧
    ∀ q, plan t q = true → allowed t q = true → ¬ sum (ranks t q) < sum (ranks t a) ∧ (sum (ranks t q) = sum (ranks t a) → before q a = false) := by
  obtain ⟨a, h1, h2, h3⟩ := least_some (f := fun p => (sum (ranks t p), 0)) (plans_sorted t) h
  obtain ⟨h4, h5⟩ := mem_plans.1 h2
  refine ⟨a, h1, h4, h5, fun q hq ha => ?_⟩
  obtain ⟨h6, h7⟩ := h3 q (mem_plans.2 ⟨hq, ha⟩)
  refine ⟨by simp [lt2] at h6; omega, fun e => ?_⟩
  rcases h7 (by simp [e]) with h | h
  · rw [h]; exact before_irrefl _
  · exact before_asymm h
theorem fair_of {t : Town} (h : plans t ≠ []) : ∃ b, least (fun p => (most (ranks t p), sum (ranks t p))) (plans t) = some (b, (most (ranks t b), sum (ranks t b))) ∧ plan t b = true ∧ allowed t b = true ∧
    ∀ q, plan t q = true → allowed t q = true → most (ranks t b) ≤ most (ranks t q) ∧ (most (ranks t q) = most (ranks t b) → sum (ranks t b) ≤ sum (ranks t q) ∧ (sum (ranks t q) = sum (ranks t b) → before q b = false)) := by
  obtain ⟨b, h1, h2, h3⟩ := least_some (f := fun p => (most (ranks t p), sum (ranks t p))) (plans_sorted t) h
  obtain ⟨h4, h5⟩ := mem_plans.1 h2
  refine ⟨b, h1, h4, h5, fun q hq ha => ?_⟩
  obtain ⟨h6, h7⟩ := h3 q (mem_plans.2 ⟨hq, ha⟩)
  simp [lt2] at h6
  refine ⟨by omega, fun e => ⟨by omega, fun e2 => ?_⟩⟩
  rcases h7 (by simp [e, e2]) with h | h
  · rw [h]; exact before_irrefl _
  · exact before_asymm h
end M
end Go.Ab
namespace Go.Ab
open Go Go.RowKit
set_option linter.unusedVariables false
section
variable {P : Program} {b : Nat} {ro : Option Nat} {s : St} {K : Exit → St → Prop} {x : Code}
/-- A nil slice within a box may be read as a row of one's own that is still empty. -/
theorem T_ghostB (i c T0 : Nat) (cs : List V) (T sz : Nat) (ho : s.h[i]? = some (.box T0 cs)) (hc : cs[c]? = some .nil)
    (k : Ab.T P b ro x ⟨s.t, (s.h ++ [AObj.arr T sz [] false]).set i (AObj.box T0 (cs.set c (.arr s.h.length 0)))⟩ K) : Ab.T P b ro x s K := by
  intro C E0 m a w hb L S
  have hl := S.len
  have hlt : i < s.h.length := (List.getElem?_eq_some_iff.1 ho).1
  obtain ⟨S1, U1⟩ := S.add (o := .arr T sz [] false) (v := .slice none 0 0) (w' := w) (Below.refl _ w) (fun b hb => by cases hb) (fun _ => by
    refine ⟨[], ⟨by simp, .inl ⟨rfl, rfl⟩⟩, ?_, fun r hr => by cases hr⟩
    simp only [List.flatten_nil, RelL])
  have hi1 : (s.h ++ [AObj.arr T sz [] false])[i]? = some (.box T0 cs) := by rw [List.getElem?_append_left hlt]; exact ho
  have hmlt : i < m.length := by omega
  have hm1 : (m ++ [Value.slice none 0 0])[i]? = some m[i] := by rw [List.getElem?_append_left hmlt]; exact List.getElem?_eq_getElem hmlt
  obtain ⟨b', vs, hv, hb0, hheap, hR⟩ := S1.objs i _ _ hi1 hm1
  obtain ⟨S2, U2⟩ := S1.turn (o' := .box T0 (cs.set c (.arr s.h.length 0))) (v' := m[i]) hi1 hm1 rfl (.inl ⟨T0, cs, _, rfl, rfl, rfl⟩) (grownBy_refl w _) (.inl rfl) (fun L => by
    refine ⟨b', vs, hv, hb0, hheap, ?_⟩
    have hR' := hR.le L
    obtain ⟨u, hu, hr⟩ := RelL.get c hR' hc
    simp only [Rel] at hr; subst hr
    have h1 := RelL.set c (x := .arr s.h.length 0) (u := .slice none 0 0) hR' (by
      simp only [Rel, env]
      refine ⟨by simp, fun T' sz' rows fr ho' => ?_⟩
      rw [List.getElem?_set_ne (by omega)] at ho'
      simp only [List.getElem?_concat_length, Option.some.injEq, AObj.arr.injEq] at ho'
      obtain ⟨_, _, rfl, _⟩ := ho'
      exact ⟨by simp, fun _ => by rw [List.getElem?_set_ne (by omega), ← hl]; simp⟩)
    have h2 : vs.toList.set c (.slice none 0 0) = vs.toList := by
      obtain ⟨hlt, he⟩ := List.getElem?_eq_some_iff.1 hu
      rw [← he]
      exact List.set_getElem_self hlt
    rw [h2] at h1
    exact h1)
  exact k C E0 _ a w hb (L.trans (U1.trans U2).leN) S2
end
end Go.Ab
namespace Go.Ab
open Go Go.RowKit
set_option linter.unusedVariables false
/-! ### rows of one's own, read as data -/
theorem frozen_ok {C : Ctx} {s : St} {m : List Value} {a : Act} {w : World} (S : Sim C s m a w) : ∀ (i : Nat) (T : TypeId) (sz : Nat) (rows : List (List V)) (fr : Bool) (v : Value) (b : Nat), s.h[i]? = some (.arr T sz rows fr) → fr = true → m[i]? = some v → blk v = some b → ¬ (env C s.h m w).bad b := by
  intro i T sz rows fr v b ho hf hm hb hbad
  subst hf
  rcases hbad with hbad | ⟨k, o, v', h1, h2, h3, h4⟩
  · have h5 := S.out b hbad
    have h6 := (S.low i v b hm hb).1
    omega
  · by_cases hk : i = k
    · subst hk
      rw [ho] at h1; cases h1
      simp [AObj.live] at h2
    · exact S.apart i k v v' b hk hm h3 hb h4
theorem data_env {E : Env} (E' : Env) (hw : E'.w = E.w) (hb : ∀ b, b < E.w.heap.size → E'.bad b → E.bad b) {x : V} {u : Value} (hx : x.all (fun _ => false) = true) (h : Rel ⟨E.bad, [], [], E.w⟩ x u) : Rel E' x u := by
  refine Rel.mono (p := fun _ => false) (E := ⟨E.bad, [], [], E.w⟩) ⟨hb, fun b _ _ => by rw [hw], by rw [hw]; exact Nat.le_refl _, (fun _ hi => nomatch hi), (fun _ hi => nomatch hi), (fun _ hi => nomatch hi)⟩ x u hx h
section
variable {P : Program} {b : Nat} {ro : Option Nat} {s : St} {K : Exit → St → Prop} {x : Code}
/-- A slot that holds a row of one's own with nothing but data: it is written no more. -/
theorem T_data (d i n T sz : Nat) (rows : List (List V)) (hd : s.t[d]? = some (.arr i n)) (ho : s.h[i]? = some (.arr T sz rows false)) (hn : n = rows.length) (ha : V.allR (fun _ => false) rows = true)
    (k : Ab.T P b ro x ⟨s.t.set d (.sl sz rows), s.h.set i (.arr T sz rows true)⟩ K) : Ab.T P b ro x s K := by
  intro C E0 m a w hb L S
  obtain ⟨S1, U1⟩ := frz1_sound S (.arr i n)
  have hfz : frz1 s.h (.arr i n) = s.h.set i (.arr T sz rows true) := by simp [frz1, ho]
  rw [hfz] at S1 U1
  have hlt : i < s.h.length := (List.getElem?_eq_some_iff.1 ho).1
  obtain ⟨u, hu, hr⟩ := RelL.get d S1.slots hd
  have hc := conv_sound (ok := fun b => b) (bad := (env C (s.h.set i (.arr T sz rows true)) m w).bad) S1 (fun b _ h => h) (frozen_ok S1) (d := .sl sz rows) hr (by
    simp [conv, List.getElem?_set_self hlt, hn, ha])
  have hx := data_env (E := env C (s.h.set i (.arr T sz rows true)) m w) (env C (s.h.set i (.arr T sz rows true)) m w) rfl (fun b _ h => h) hc.2 hc.1
  have hslots := RelL.set d S1.slots hx
  have h2 : a.tmps.toList.set d u = a.tmps.toList := by
    obtain ⟨hlt, he⟩ := List.getElem?_eq_some_iff.1 hu
    rw [← he]
    exact List.set_getElem_self hlt
  rw [h2] at hslots
  exact k C E0 m a w hb (L.trans U1.leN) ⟨S1.below, S1.out, S1.len, hslots, S1.defers, S1.objs, S1.apart, S1.low⟩
/-- The rows of an object, read in another way. -/
theorem Sim.reread {C : Ctx} {m : List Value} {a : Act} {w : World} (S : Sim C s m a w) {i T sz : Nat} {rows rows2 : List (List V)} {fr : Bool} (ho : s.h[i]? = some (.arr T sz rows fr)) (hfr : fr = false) (hl : rows.length = rows2.length) (hsz : ∀ r ∈ rows2, r.length = sz)
    (hr : ∀ us, RelL (env C s.h m w) rows.flatten us → ∀ E2 : Env, E2.w = w → (∀ b, b < w.heap.size → E2.bad b → (env C s.h m w).bad b) → Env.Le (fun _ => true) (env C s.h m w) E2 → RelL E2 rows2.flatten us) :
    Sim C ⟨s.t, s.h.set i (.arr T sz rows2 fr)⟩ m a w ∧ Up (env C s.h m w) (env C (s.h.set i (.arr T sz rows2 fr)) m w) := by
  subst hfr
  have hlt : i < m.length := by rw [S.len]; exact (List.getElem?_eq_some_iff.1 ho).1
  have hm : m[i]? = some m[i] := List.getElem?_eq_getElem hlt
  obtain ⟨us, h1, h2, h3⟩ := S.objs i _ _ ho hm
  have key := S.turn (o' := .arr T sz rows2 false) (v' := m[i]) ho hm rfl (.inr (.inl ⟨T, sz, rows, rows2, false, false, rfl, rfl, Nat.le_of_eq hl, fun _ => rfl⟩)) (grownBy_refl w _) (.inl rfl) (fun L => by
    refine ⟨us, by rw [← hl]; exact h1, hr us h2 _ rfl (fun b hb => L.nb b hb) L, hsz⟩)
  rw [List.set_getElem_self] at key
  exact key
/-- The last row of an object leads to another row of one's own, with nothing but data: that one is written no more. -/
theorem T_own (i j n T sz' T' : Nat) (pre rows : List (List V)) (hij : i ≠ j) (hi : s.h[i]? = some (.arr T 1 (pre ++ [[.arr j n]]) false)) (hj : s.h[j]? = some (.arr T' sz' rows false)) (hn : n = rows.length) (ha : V.allR (fun _ => false) rows = true)
    (k : Ab.T P b ro x ⟨s.t, (s.h.set j (.arr T' sz' rows true)).set i (.arr T 1 (pre ++ [[.sl sz' rows]]) false)⟩ K) : Ab.T P b ro x s K := by
  intro C E0 m a w hb L S
  obtain ⟨S1, U1⟩ := frz1_sound S (.arr j n)
  have hfz : frz1 s.h (.arr j n) = s.h.set j (.arr T' sz' rows true) := by simp [frz1, hj]
  rw [hfz] at S1 U1
  have hltj : j < s.h.length := (List.getElem?_eq_some_iff.1 hj).1
  have hi1 : (s.h.set j (.arr T' sz' rows true))[i]? = some (.arr T 1 (pre ++ [[.arr j n]]) false) := by rw [List.getElem?_set_ne (fun e => hij e.symm)]; exact hi
  obtain ⟨us0, _, _, hs0⟩ := S1.objs i _ m[i]! hi1 (by
    have : i < m.length := by rw [S.len]; exact (List.getElem?_eq_some_iff.1 hi).1
    rw [List.getElem?_eq_getElem this, getElem!_pos m i this])
  obtain ⟨S2, U2⟩ := S1.reread (rows2 := pre ++ [[.sl sz' rows]]) hi1 rfl (by simp) (fun r hr => by
    rcases List.mem_append.1 hr with h | h
    · exact hs0 r (by simp [h])
    · simp only [List.mem_singleton] at h; subst h; rfl) (fun us hus E2 hw hbad L2 => by
    simp only [List.flatten_append, List.flatten_cons, List.flatten_nil, List.append_nil] at hus ⊢
    obtain ⟨p, q, rfl, hp, hq⟩ := RelL.split hus
    refine (hp.le L2).append ?_
    simp only [RelL] at hq ⊢
    obtain ⟨u, us', rfl, hu, rfl⟩ := hq
    have hc := conv_sound (ok := fun b => b) (bad := (env C (s.h.set j (.arr T' sz' rows true)) m w).bad) S1 (fun b _ h => h) (frozen_ok S1) (d := .sl sz' rows) hu (by
      simp [conv, List.getElem?_set_self hltj, hn, ha])
    exact ⟨u, [], rfl, data_env (E := env C (s.h.set j (.arr T' sz' rows true)) m w) E2 hw hbad hc.2 hc.1, rfl⟩)
  exact k C E0 m a w hb (L.trans (U1.trans U2).leN) S2
/-- A nil slice in the one row of an object, read as an empty one. -/
theorem T_nilRow (i T sz' : Nat) (hi : s.h[i]? = some (.arr T 1 [[.nil]] false)) (k : Ab.T P b ro x ⟨s.t, s.h.set i (.arr T 1 [[.sl sz' []]] false)⟩ K) : Ab.T P b ro x s K := by
  intro C E0 m a w hb L S
  obtain ⟨S2, U2⟩ := S.reread (rows2 := [[.sl sz' []]]) hi rfl rfl (fun r hr => by simp only [List.mem_singleton] at hr; subst hr; rfl) (fun us hus E2 hw hbad L2 => by
    simp only [List.flatten_cons, List.flatten_nil, List.append_nil] at hus ⊢
    have h3 := hus.le L2
    simp only [RelL, Rel] at h3 ⊢
    obtain ⟨u, us', rfl, hu, rfl⟩ := h3
    exact ⟨u, [], rfl, ⟨none, 0, hu, by simp, .inl trivial⟩, rfl⟩)
  exact k C E0 m a w hb (L.trans U2.leN) S2
end
end Go.Ab
namespace Go.Ab
open Go Go.RowKit
section
variable {P : Program} {b : Nat} {ro : Option Nat} {s : St} {K : Exit → St → Prop} {x : Code}
theorem T_fc (mask : List Bool) (n : Nat) (h1 : b ≤ n) (h2 : n ≤ s.h.length) (h3 : V.allL (fun i => decide (i < n)) (forget mask s.t) = true) (h4 : (s.h.take n).all (fun o => o.all (fun i => decide (i < n))) = true) (k : Ab.T P b ro x ⟨forget mask s.t, s.h.take n⟩ K) : Ab.T P b ro x s K := by
  refine T_forget mask ?_
  exact T_cut n h1 h2 h3 (by simpa using h4) k
/-- A nil slice in the one row of a slice, read as an empty one. -/
theorem T_nilSl (d sz' : Nat) (hd : s.t[d]? = some (.sl 1 [[.nil]])) (k : Ab.T P b ro x ⟨s.t.set d (.sl 1 [[.sl sz' []]]), s.h⟩ K) : Ab.T P b ro x s K := by
  intro C E0 m a w hb L S
  obtain ⟨u, hu, hr⟩ := RelL.get d S.slots hd
  have hx : Rel (env C s.h m w) (.sl 1 [[.sl sz' []]]) u := by
    simp only [Rel, RelRows, RelCells, and_true] at hr ⊢
    obtain ⟨A, c, rfl, h1, h2⟩ := hr
    refine ⟨A, c, rfl, h1, ?_⟩
    rcases h2 with h2 | ⟨ad, rfl, g1, g2, g3, v, g4, rfl⟩
    · cases h2
    · exact .inr ⟨ad, rfl, g1, g2, rfl, _, g4, none, 0, rfl, by simp, .inl trivial⟩
  have hslots := RelL.set d S.slots hx
  have h2 : a.tmps.toList.set d u = a.tmps.toList := by
    obtain ⟨hlt, he⟩ := List.getElem?_eq_some_iff.1 hu
    rw [← he]
    exact List.set_getElem_self hlt
  rw [h2] at hslots
  exact k C E0 m a w hb L ⟨S.below, S.out, S.len, hslots, S.defers, S.objs, S.apart, S.low⟩
end
end Go.Ab
namespace Go.Ab
open Go Go.RowKit Go.Proofs
set_option linter.unusedVariables false
theorem rL_snoc (l : List (List Int)) (p : List Int) : rL l ++ [[.sl 1 (rI p)]] = rL (l ++ [p]) := by simp [rL]
theorem rL_flat (p : Nat → Bool) (l : List (List Int)) : V.allL p (rL l).flatten = true := by rw [← allR_flatten]; exact rL_all p l
theorem rI_flat' (p : Nat → Bool) (l : List Int) : V.allL p (rI l).flatten = true := by rw [← allR_flatten]; exact rI_all p l
attribute [go_sem] rL_flat rI_flat'
theorem rI_cons (x : Int) (l : List Int) : rI (x :: l) = [.int .i64 x] :: rI l := rfl
theorem rI_one2 (h : List AObj) (l : List Int) : (rI l).flatten.all (V.one h) = true := by
  induction l with
  | nil => rfl
  | cons x l ih => rw [rI_cons, List.flatten_cons, List.all_append, ih]; rfl
theorem rL_allR (l : List (List Int)) : V.allR (fun _ => false) (rL l) = true := rL_all _ l
namespace M
/-! ### all plans, house by house -/
def extK (t : Town) (p : List Int) (k : Nat) : List (List Int) := ((List.range k).filter fun (n : Nat) => goesB t p (n : Int)).map fun (n : Nat) => p ++ [(n : Int)]
def ext (t : Town) (p : List Int) : List (List Int) := extK t p t.walk.length
def level (t : Town) : Nat → List (List Int)
  | 0 => [[]]
  | i + 1 => (level t i).flatMap (ext t)
def levels (t : Town) : Nat → List (List Int) → List (List Int)
  | 0, l => l
  | i + 1, l => levels t i (l.flatMap (ext t))
theorem levels_level (t : Town) : ∀ (i j : Nat), levels t i (level t j) = level t (j + i)
  | 0, j => rfl
  | i + 1, j => by
    unfold levels
    have := levels_level t i (j + 1)
    rw [show j + 1 + i = j + (i + 1) by omega] at this
    exact this
theorem levels_append (t : Town) : ∀ (i : Nat) (a b : List (List Int)), levels t i (a ++ b) = levels t i a ++ levels t i b
  | 0, a, b => rfl
  | i + 1, a, b => by
    unfold levels
    rw [List.flatMap_append, levels_append t i]
theorem levels_flat (t : Town) (i : Nat) (l : List (List Int)) : levels t i l = l.flatMap fun p => levels t i [p] := by
  induction l with
  | nil =>
    simp only [List.flatMap_nil]
    induction i with
    | zero => rfl
    | succ i ih => unfold levels; exact ih
  | cons p l ih =>
    rw [show p :: l = [p] ++ l from rfl, levels_append, ih]; rfl
theorem ext_flat (t : Town) (p : List Int) (f : List Int → List (List Int)) : (ext t p).flatMap f = (List.range t.walk.length).flatMap fun (k : Nat) => if goesB t p k = true then f (p ++ [(k : Int)]) else [] := by
  unfold ext extK
  generalize List.range t.walk.length = l
  induction l with
  | nil => rfl
  | cons n l ih =>
    rw [List.filter_cons, List.flatMap_cons]
    by_cases h : goesB t p n = true
    · rw [if_pos h, if_pos h, List.map_cons, List.flatMap_cons, ih]
    · rw [if_neg h, if_neg h, ih]; rfl
theorem dfs_levels (t : Town) : ∀ (m : Nat) (p : List Int), dfs t m p = (levels t m [p]).filter (allowed t)
  | 0, p => by
    unfold dfs levels
    rw [List.filter_cons, List.filter_nil]
  | m + 1, p => by
    unfold dfs levels
    rw [← ext_flat t p (dfs t m), List.flatMap_cons, List.flatMap_nil, List.append_nil, levels_flat, List.filter_flatMap]
    congr 1
    funext q
    exact dfs_levels t m q
theorem plans_level (t : Town) : plans t = (level t t.houses.length).filter (allowed t) := by
  unfold plans
  rw [dfs_levels, show [([] : List Int)] = level t 0 from rfl, levels_level, Nat.zero_add]
theorem extK_step_yes {t : Town} {p : List Int} {k : Nat} (h : goesB t p k = true) : extK t p (k + 1) = extK t p k ++ [p ++ [(k : Int)]] := by
  unfold extK
  rw [List.range_succ, List.filter_append, List.map_append]
  simp only [List.filter_cons, h, if_true, List.filter_nil, List.map_cons, List.map_nil]
theorem extK_step_no {t : Town} {p : List Int} {k : Nat} (h : goesB t p k = false) : extK t p (k + 1) = extK t p k := by
  unfold extK
  rw [List.range_succ, List.filter_append, List.map_append]
  simp only [List.filter_cons, h, Bool.false_eq_true, if_false, List.filter_nil, List.map_nil, List.append_nil]
theorem level_mem {t : Town} : ∀ {i : Nat} {p : List Int}, p ∈ level t i → p.length = i ∧ ∀ x ∈ p, lot t x = true
  | 0, p, h => by simp only [level, List.mem_singleton] at h; subst h; exact ⟨rfl, fun x hx => nomatch hx⟩
  | i + 1, p, h => by
    simp only [level, ext, extK, List.mem_flatMap, List.mem_map, List.mem_filter, List.mem_range] at h
    obtain ⟨q, hq, n, ⟨hn, _⟩, rfl⟩ := h
    obtain ⟨h1, h2⟩ := level_mem hq
    refine ⟨by simp [h1], fun x hx => ?_⟩
    rcases List.mem_append.1 hx with h | h
    · exact h2 x h
    · simp only [List.mem_singleton] at h; subst h; rw [lot_iff]; omega
theorem level_plan {t : Town} {p : List Int} (h : p ∈ level t t.houses.length) : plan t p = true := by
  obtain ⟨h1, h2⟩ := level_mem h
  rw [plan, Bool.and_eq_true, List.all_eq_true, beq_iff_eq]; exact ⟨h2, h1⟩
def nxt (t : Town) (i k : Nat) : List (List Int) := ((level t i).take k).flatMap (ext t)
theorem nxt_step {t : Town} {i k : Nat} (h : k < (level t i).length) : nxt t i (k + 1) = nxt t i k ++ ext t (level t i)[k] := by
  unfold nxt
  rw [List.take_succ_eq_append_getElem h, List.flatMap_append, List.flatMap_cons, List.flatMap_nil, List.append_nil]
theorem nxt_all {t : Town} {i k : Nat} (h : (level t i).length ≤ k) : nxt t i k = level t (i + 1) := by
  unfold nxt
  rw [List.take_of_length_le h]; rfl
theorem extK_len (t : Town) (p : List Int) (k : Nat) : (extK t p k).length ≤ k := by
  unfold extK
  rw [List.length_map]
  exact Nat.le_trans (List.length_filter_le _ _) (by simp)
theorem flat_len {α β : Type} {f : α → List β} {b : Nat} : ∀ (l : List α), (∀ x ∈ l, (f x).length ≤ b) → (l.flatMap f).length ≤ l.length * b
  | [], _ => by simp
  | x :: l, h => by
    rw [List.flatMap_cons, List.length_append, List.length_cons, Nat.add_mul, Nat.one_mul]
    have := flat_len l (fun y hy => h y (by simp [hy]))
    have := h x (by simp)
    omega
theorem level_len (t : Town) : ∀ i, (level t i).length ≤ t.walk.length ^ i
  | 0 => by simp [level]
  | i + 1 => by
    unfold level
    rw [Nat.pow_succ]
    exact Nat.le_trans (flat_len _ fun p _ => extK_len t p _) (Nat.mul_le_mul_right _ (level_len t i))
theorem level_small {t : Town} (ok : Ok t) {i : Nat} (hi : i ≤ t.houses.length) : (level t i).length ≤ 117649 := by
  have h1 := walk_le ok
  have h2 := houses_le ok
  refine Nat.le_trans (level_len t i) ?_
  refine Nat.le_trans (Nat.pow_le_pow_left h1.2 i) ?_
  exact Nat.le_trans (Nat.pow_le_pow_right (by omega) (show i ≤ 6 by omega)) (by decide)
theorem nxt_small {t : Town} (ok : Ok t) {i : Nat} (hi : i ≤ t.houses.length) (k : Nat) : (nxt t i k).length ≤ 117649 * 7 := by
  unfold nxt
  have h1 := walk_le ok
  have h2 := level_small ok hi
  refine Nat.le_trans (flat_len (b := 7) _ fun p _ => Nat.le_trans (extK_len t p _) h1.2) ?_
  have : ((level t i).take k).length ≤ (level t i).length := by simp; omega
  omega
def selP (t : Town) (k : Nat) : List (List Int) := ((level t t.houses.length).take k).filter (allowed t)
theorem selP_step {t : Town} {k : Nat} (h : k < (level t t.houses.length).length) : selP t (k + 1) = selP t k ++ (if allowed t (level t t.houses.length)[k] = true then [(level t t.houses.length)[k]] else []) := by
  unfold selP
  rw [List.take_succ_eq_append_getElem h, List.filter_append, List.filter_cons, List.filter_nil]
theorem selP_all {t : Town} {k : Nat} (h : (level t t.houses.length).length ≤ k) : selP t k = plans t := by
  unfold selP
  rw [List.take_of_length_le h, plans_level]
theorem selP_len (t : Town) (k : Nat) : (selP t k).length ≤ k := by
  unfold selP
  exact Nat.le_trans (List.length_filter_le _ _) (by simp; omega)
end M
end Go.Ab
namespace Go.Ab
open Go Go.RowKit Go.Proofs Fac
set_option linter.unusedVariables false
set_option linter.unusedSimpArgs false
set_option maxRecDepth 4000
set_option maxHeartbeats 1000000





theorem ref_plans (t : Town) (ok : M.Ok t) : Ret Try.prog 53 [.agg (cT t)] (.sl 1 (rL (M.plans t))) := by
  have hwl := M.walk_le ok
  have h6 := M.houses_le ok
  have hx0 : ∀ p, M.extK t p 0 = [] := fun p => rfl
  have hn0 : ∀ i, M.nxt t i 0 = [] := fun i => rfl
  have hgl0 := ok.gone
  apply Ret_fin (fn := Try.f53) Try.func53 rfl
  apply T_seq
  apply T_r F
  · (simp only [go_sem, Try.ntmps53, hx0, hn0]) <;> exact rfl
  apply K_seq
  apply T_seq
  apply T_r F
  · (simp only [go_sem, Try.ntmps53, hx0, hn0]) <;> exact rfl
  apply K_seq
  apply T_seq
  apply T_seq
  apply T_r F
  · (simp only [go_sem, Try.ntmps53, hx0, hn0]) <;> exact rfl
  apply K_seq
  apply T_block
  apply T_nilSl 3 1
  · (simp only [go_sem, Try.ntmps53, hx0, hn0]) <;> exact rfl
  apply T_lp (α := Nat) [false, true, false, true, true, false, false, false, false, false, false, false, false, false, false, false, false, false, false, false, false, false, false, false, false, false, false, false, false, false, false, false, false, false, false, false, false, false, false, false, false, false, false, false, false, false, false, false, false, false, false, false, false, false, false, false, false, false, false, false, false, false, false, false, false, false, false, false, false, false, false, false, false, false, false, false, false, false, false, false, false, false, false, false, false] (fun i => (⟨[.undef, .ptr 0 0, .undef, .sl 1 (rL (M.level t i)), .int .i64 (i : Int), .undef, .undef, .undef, .undef, .undef, .undef, .undef, .undef, .undef, .undef, .undef, .undef, .undef, .undef, .undef, .undef, .undef, .undef, .undef, .undef, .undef, .undef, .undef, .undef, .undef, .undef, .undef, .undef, .undef, .undef, .undef, .undef, .undef, .undef, .undef, .undef, .undef, .undef, .undef, .undef, .undef, .undef, .undef, .undef, .undef, .undef, .undef, .undef, .undef, .undef, .undef, .undef, .undef, .undef, .undef, .undef, .undef, .undef, .undef, .undef, .undef, .undef, .undef, .undef, .undef, .undef, .undef, .undef, .undef, .undef, .undef, .undef, .undef, .undef, .undef, .undef, .undef, .undef, .undef, .undef], [.box 28 (cT t)]⟩ : St)) (fun i => i ≤ t.houses.length) (fun i => t.houses.length - i) (0)
  · (simp only [go_sem, Try.ntmps53, hx0, hn0]) <;> exact rfl
  · exact Nat.zero_le _
  · rintro i hi
    apply T_seq
    apply T_seq
    apply T_r F
    · (simp only [go_sem, Try.ntmps53, hx0, hn0]) <;> exact rfl
    apply K_seq
    apply T_if
    · (simp only [go_sem, Try.ntmps53, hx0, hn0]) <;> exact rfl
    · intro bh0t
      have h0t := bh0t
      try simp only [CS] at h0t
      try simp only [BS] at bh0t
      try exact absurd bh0t (by decide)
      all_goals (
  have hib : i < 9223372036854775807 := by omega
  have hls := M.level_small ok (i := i) (by omega)
  apply T_skip
  apply K_seq
  apply T_seq
  apply T_block
  apply T_seq
  apply T_r F
  · (simp only [go_sem, Try.ntmps53, hx0, hn0, bh0t, hib]) <;> exact rfl
  apply K_seq
  apply T_seq
  apply T_seq
  apply T_r F
  · (simp only [go_sem, Try.ntmps53, hx0, hn0, bh0t, hib]) <;> exact rfl
  apply K_seq
  apply T_block
  apply T_ghost (d := 5) (T := 23) (sz := 1)
  · (simp only [go_sem, Try.ntmps53, hx0, hn0, bh0t, hib]) <;> exact rfl
  apply T_lp (α := Nat) [false, true, false, true, true, true, true, false, false, false, false, false, false, false, false, false, false, false, false, false, false, false, false, false, false, false, false, false, false, false, false, false, false, false, false, false, false, false, false, false, false, false, false, false, false, false, false, false, false, false, false, false, false, false, false, false, false, false, false, false, false, false, false, false, false, false, false, false, false, false, false, false, false, false, false, false, false, false, false, false, false, false, false, false, false] (fun k => (⟨[.undef, .ptr 0 0, .undef, .sl 1 (rL (M.level t i)), .int .i64 (i : Int), .arr 1 (M.nxt t i k).length, .int .i64 (k : Int), .undef, .undef, .undef, .undef, .undef, .undef, .undef, .undef, .undef, .undef, .undef, .undef, .undef, .undef, .undef, .undef, .undef, .undef, .undef, .undef, .undef, .undef, .undef, .undef, .undef, .undef, .undef, .undef, .undef, .undef, .undef, .undef, .undef, .undef, .undef, .undef, .undef, .undef, .undef, .undef, .undef, .undef, .undef, .undef, .undef, .undef, .undef, .undef, .undef, .undef, .undef, .undef, .undef, .undef, .undef, .undef, .undef, .undef, .undef, .undef, .undef, .undef, .undef, .undef, .undef, .undef, .undef, .undef, .undef, .undef, .undef, .undef, .undef, .undef, .undef, .undef, .undef, .undef], [.box 28 (cT t), .arr 23 1 (rL (M.nxt t i k)) false]⟩ : St)) (fun k => k ≤ (M.level t i).length) (fun k => (M.level t i).length - k) (0)
  · (simp only [go_sem, Try.ntmps53, hx0, hn0, bh0t, hib]) <;> exact rfl
  · exact Nat.zero_le _
  · rintro k hk
    apply T_seq
    apply T_seq
    apply T_r F
    · (simp only [go_sem, Try.ntmps53, hx0, hn0, bh0t, hib]) <;> exact rfl
    apply K_seq
    apply T_if
    · (simp only [go_sem, Try.ntmps53, hx0, hn0, bh0t, hib]) <;> exact rfl
    · intro bh1t
      have h1t := bh1t
      try simp only [CS] at h1t
      try simp only [BS] at bh1t
      try exact absurd bh1t (by decide)
      all_goals (
  have hkb : k < 9223372036854775807 := by omega
  have hmem := M.level_mem (List.getElem_mem h1t)
  have hnl := M.nxt_small ok (i := i) (by omega) k
  apply T_skip
  apply K_seq
  apply T_seq
  apply T_block
  apply T_seq
  apply T_r F
  · (simp only [go_sem, Try.ntmps53, hx0, hn0, bh0t, hib, bh1t, h1t, hkb, rL_get h1t]) <;> exact rfl
  apply K_seq
  apply T_block
  apply T_lp (α := Nat) [false, true, false, true, true, true, true, true, false, false, false, false, false, false, false, false, false, false, false, false, false, false, false, false, false, false, false, false, false, false, false, false, false, false, false, false, false, false, false, false, false, false, false, false, false, false, false, false, false, false, false, false, false, false, false, false, false, false, false, false, false, false, false, false, false, false, false, false, false, false, false, false, false, false, false, false, false, false, false, false, false, false, false, false, false] (fun n => (⟨[.undef, .ptr 0 0, .undef, .sl 1 (rL (M.level t i)), .int .i64 (i : Int), .arr 1 (M.nxt t i k ++ M.extK t (M.level t i)[k] n).length, .int .i64 (k : Int), .int .i64 (n : Int), .undef, .undef, .undef, .undef, .undef, .undef, .undef, .undef, .undef, .undef, .undef, .undef, .undef, .undef, .undef, .undef, .undef, .undef, .undef, .undef, .undef, .undef, .undef, .undef, .undef, .undef, .undef, .undef, .undef, .undef, .undef, .undef, .undef, .undef, .undef, .undef, .undef, .undef, .undef, .undef, .undef, .undef, .undef, .undef, .undef, .undef, .undef, .undef, .undef, .undef, .undef, .undef, .undef, .undef, .undef, .undef, .undef, .undef, .undef, .undef, .undef, .undef, .undef, .undef, .undef, .undef, .undef, .undef, .undef, .undef, .undef, .undef, .undef, .undef, .undef, .undef, .undef], [.box 28 (cT t), .arr 23 1 (rL (M.nxt t i k ++ M.extK t (M.level t i)[k] n)) false]⟩ : St)) (fun n => n ≤ t.walk.length) (fun n => t.walk.length - n) (0)
  · (simp only [go_sem, Try.ntmps53, hx0, hn0, bh0t, hib, bh1t, h1t, hkb, rL_get h1t]) <;> exact rfl
  · exact Nat.zero_le _
  · rintro n hn
    apply T_seq
    apply T_seq
    apply T_r F
    · (simp only [go_sem, Try.ntmps53, hx0, hn0, bh0t, hib, bh1t, h1t, hkb, rL_get h1t]) <;> exact rfl
    apply K_seq
    apply T_if
    · (simp only [go_sem, Try.ntmps53, hx0, hn0, bh0t, hib, bh1t, h1t, hkb, rL_get h1t]) <;> exact rfl
    · intro bh2t
      have h2t := bh2t
      try simp only [CS] at h2t
      try simp only [BS] at bh2t
      try exact absurd bh2t (by decide)
      all_goals (
  have hnb : n < 9223372036854775807 := by omega
  have hgl : n < t.gone.length := by omega
  have hgg : M.gone t (n : Int) = t.gone[n] := by simp [M.gone, hgl]
  have hel := M.extK_len t (M.level t i)[k] n
  have hcap : ((M.nxt t i k ++ M.extK t (M.level t i)[k] n).length + 1) * 24 ≤ 140737488355328 := by rw [List.length_append]; omega
  apply T_skip
  apply K_seq
  apply T_seq
  apply T_block
  apply T_seq
  apply T_wL F [0, 1, 2, 3, 4, 5, 6, 7, 8, 9, 10, 11, 12, 13, 14, 15, 16, 17, 18, 19, 20, 21] rfl
  apply W_pre [0, 1, 2, 3, 4] [5, 6, 7, 8, 9, 10, 11, 12, 13, 14, 15, 16, 17, 18, 19, 20, 21]
  · (simp only [go_sem, Try.ntmps53, hx0, hn0, bh0t, hib, bh1t, h1t, hkb, rL_get h1t, bh2t, hnb, hgl, rB_get hgl, hcap]) <;> exact rfl
  apply W_call -- call 0 of function 18
  · (simp only [go_sem, Try.ntmps53, hx0, hn0, bh0t, hib, bh1t, h1t, hkb, rL_get h1t, bh2t, hnb, hgl, rB_get hgl, hcap]) <;> exact rfl
  · (simp only [go_sem, Try.ntmps53, hx0, hn0, bh0t, hib, bh1t, h1t, hkb, rL_get h1t, bh2t, hnb, hgl, rB_get hgl, hcap]) <;> exact rfl
  · exact rfl
  · (simp only [go_sem, Try.ntmps53, hx0, hn0, bh0t, hib, bh1t, h1t, hkb, rL_get h1t, bh2t, hnb, hgl, rB_get hgl, hcap]) <;> exact rfl
  · (simp only [go_sem, Try.ntmps53, hx0, hn0, bh0t, hib, bh1t, h1t, hkb, rL_get h1t, bh2t, hnb, hgl, rB_get hgl, hcap]) <;> exact rfl
  · exact ⟨_, Try.func18, rfl, rfl⟩
  · (simp only [go_sem, Try.ntmps53, hx0, hn0, bh0t, hib, bh1t, h1t, hkb, rL_get h1t, bh2t, hnb, hgl, rB_get hgl, hcap]) <;> exact rfl
  · (simp only [go_sem, Try.ntmps53, hx0, hn0, bh0t, hib, bh1t, h1t, hkb, rL_get h1t, bh2t, hnb, hgl, rB_get hgl, hcap]) <;> exact rfl
  · exact ref_has _ _
  apply W_pre [6, 7] [8, 9, 10, 11, 12, 13, 14, 15, 16, 17, 18, 19, 20, 21]
  · (simp only [go_sem, Try.ntmps53, hx0, hn0, bh0t, hib, bh1t, h1t, hkb, rL_get h1t, bh2t, hnb, hgl, rB_get hgl, hcap]) <;> exact rfl
  apply W_guard
  · (simp only [go_sem, Try.ntmps53, hx0, hn0, bh0t, hib, bh1t, h1t, hkb, rL_get h1t, bh2t, hnb, hgl, rB_get hgl, hcap]) <;> exact rfl
  · (simp only [go_sem, Try.ntmps53, hx0, hn0, bh0t, hib, bh1t, h1t, hkb, rL_get h1t, bh2t, hnb, hgl, rB_get hgl, hcap]) <;> exact rfl
  · intro bg0t
    have g0t := bg0t
    try simp only [CS] at g0t
    try simp only [BS] at bg0t
    try exact absurd bg0t (by decide)
    all_goals (
  apply W_pre [8, 9, 10, 11] [12, 13, 14, 15, 16, 17, 18, 19, 20, 21]
  · (simp only [go_sem, Try.ntmps53, hx0, hn0, bh0t, hib, bh1t, h1t, hkb, rL_get h1t, bh2t, hnb, hgl, rB_get hgl, hcap, bg0t]) <;> exact rfl
  apply W_pre [12, 13, 14, 15] [16, 17, 18, 19, 20, 21]
  · (simp only [go_sem, Try.ntmps53, hx0, hn0, bh0t, hib, bh1t, h1t, hkb, rL_get h1t, bh2t, hnb, hgl, rB_get hgl, hcap, bg0t]) <;> exact rfl
  apply W_guard
  · (simp only [go_sem, Try.ntmps53, hx0, hn0, bh0t, hib, bh1t, h1t, hkb, rL_get h1t, bh2t, hnb, hgl, rB_get hgl, hcap, bg0t]) <;> exact rfl
  · (simp only [go_sem, Try.ntmps53, hx0, hn0, bh0t, hib, bh1t, h1t, hkb, rL_get h1t, bh2t, hnb, hgl, rB_get hgl, hcap, bg0t]) <;> exact rfl
  · intro bg1t
    have g1t := bg1t
    try simp only [CS] at g1t
    try simp only [BS] at bg1t
    try exact absurd bg1t (by decide)
    all_goals (
  apply W_pre [16, 17, 18] [19, 20, 21]
  · (simp only [go_sem, Try.ntmps53, hx0, hn0, bh0t, hib, bh1t, h1t, hkb, rL_get h1t, bh2t, hnb, hgl, rB_get hgl, hcap, bg0t, bg1t]) <;> exact rfl
  apply W_call -- call 1 of function 61
  · (simp only [go_sem, Try.ntmps53, hx0, hn0, bh0t, hib, bh1t, h1t, hkb, rL_get h1t, bh2t, hnb, hgl, rB_get hgl, hcap, bg0t, bg1t]) <;> exact rfl
  · (simp only [go_sem, Try.ntmps53, hx0, hn0, bh0t, hib, bh1t, h1t, hkb, rL_get h1t, bh2t, hnb, hgl, rB_get hgl, hcap, bg0t, bg1t]) <;> exact rfl
  · exact rfl
  · (simp only [go_sem, Try.ntmps53, hx0, hn0, bh0t, hib, bh1t, h1t, hkb, rL_get h1t, bh2t, hnb, hgl, rB_get hgl, hcap, bg0t, bg1t]) <;> exact rfl
  · (simp only [go_sem, Try.ntmps53, hx0, hn0, bh0t, hib, bh1t, h1t, hkb, rL_get h1t, bh2t, hnb, hgl, rB_get hgl, hcap, bg0t, bg1t]) <;> exact rfl
  · exact ⟨_, Try.func61, rfl, rfl⟩
  · (simp only [go_sem, Try.ntmps53, hx0, hn0, bh0t, hib, bh1t, h1t, hkb, rL_get h1t, bh2t, hnb, hgl, rB_get hgl, hcap, bg0t, bg1t]) <;> exact rfl
  · (simp only [go_sem, Try.ntmps53, hx0, hn0, bh0t, hib, bh1t, h1t, hkb, rL_get h1t, bh2t, hnb, hgl, rB_get hgl, hcap, bg0t, bg1t]) <;> exact rfl
  · exact ref_rank _ _ _ (by omega)
  apply W_run
  · (simp only [go_sem, Try.ntmps53, hx0, hn0, bh0t, hib, bh1t, h1t, hkb, rL_get h1t, bh2t, hnb, hgl, rB_get hgl, hcap, bg0t, bg1t]) <;> exact rfl
  apply W_nil
  apply K_seq
  apply T_if
  · (simp only [go_sem, Try.ntmps53, hx0, hn0, bh0t, hib, bh1t, h1t, hkb, rL_get h1t, bh2t, hnb, hgl, rB_get hgl, hcap, bg0t, bg1t]) <;> exact rfl
  · intro bh3t
    have h3t := bh3t
    try simp only [CS] at h3t
    try simp only [BS] at bh3t
    try exact absurd bh3t (by decide)
    all_goals (
  have hgo : M.goesB t (M.level t i)[k] (n : Int) = true := by simp only [M.goesB, hmem.1, hgg, bg0t, bg1t]; simpa using h3t
  have hst : M.extK t (M.level t i)[k] (n + 1) = M.extK t (M.level t i)[k] n ++ [(M.level t i)[k] ++ [(n : Int)]] := M.extK_step_yes hgo
  have hln : (M.nxt t i k ++ M.extK t (M.level t i)[k] (n + 1)).length = (M.nxt t i k ++ M.extK t (M.level t i)[k] n).length + 1 := by rw [hst]; simp; omega
  have hrw : rL (M.nxt t i k ++ M.extK t (M.level t i)[k] n) ++ [[.sl 1 (rI ((M.level t i)[k] ++ [(n : Int)]))]] = rL (M.nxt t i k ++ M.extK t (M.level t i)[k] (n + 1)) := by rw [hst, rL_snoc, List.append_assoc]
  have hri := rI_snoc (M.level t i)[k] (n : Int)
  rcases hp : (M.level t i)[k] with _ | ⟨x, l⟩
  · skip
    have hm1 := hmem.1
    rw [hp] at hln hrw hri hcap hm1
    have hr0 : rI ([] : List Int) = [] := rfl
    have hrn : rL (M.nxt t i k ++ M.extK t [] n) ++ [[.sl 1 [[.int .i64 (n : Int)]]]] = rL (M.nxt t i k ++ M.extK t [] (n + 1)) := hrw
    apply T_wL F [0, 1, 2, 3, 4, 5, 6, 7, 8, 9, 10, 11] rfl
    apply W_pre [0, 1, 2, 3] [4, 5, 6, 7, 8, 9, 10, 11]
    · (simp only [go_sem, Try.ntmps53, hx0, hn0, bh0t, hib, bh1t, h1t, hkb, rL_get h1t, bh2t, hnb, hgl, rB_get hgl, hcap, bg0t, bg1t, bh3t, hp, hln, hrn, hr0, hcap]) <;> exact rfl
    apply W_pre [4, 5, 6, 7] [8, 9, 10, 11]
    · (simp only [go_sem, Try.ntmps53, hx0, hn0, bh0t, hib, bh1t, h1t, hkb, rL_get h1t, bh2t, hnb, hgl, rB_get hgl, hcap, bg0t, bg1t, bh3t, hp, hln, hrn, hr0, hcap]) <;> exact rfl
    apply W_run
    · (simp only [go_sem, Try.ntmps53, hx0, hn0, bh0t, hib, bh1t, h1t, hkb, rL_get h1t, bh2t, hnb, hgl, rB_get hgl, hcap, bg0t, bg1t, bh3t, hp, hln, hrn, hr0, hcap]) <;> exact rfl
    apply W_nil
    apply K_blk
    apply K_seq
    apply T_own 1 2 _ 23 1 3 _ _ (by decide)
    · (simp only [go_sem, Try.ntmps53, hx0, hn0, bh0t, hib, bh1t, h1t, hkb, rL_get h1t, bh2t, hnb, hgl, rB_get hgl, hcap, bg0t, bg1t, bh3t, hp, hln, hrn, hr0, hcap]) <;> exact rfl
    · (simp only [go_sem, Try.ntmps53, hx0, hn0, bh0t, hib, bh1t, h1t, hkb, rL_get h1t, bh2t, hnb, hgl, rB_get hgl, hcap, bg0t, bg1t, bh3t, hp, hln, hrn, hr0, hcap]) <;> exact rfl
    · (simp only [go_sem, Try.ntmps53, hx0, hn0, bh0t, hib, bh1t, h1t, hkb, rL_get h1t, bh2t, hnb, hgl, rB_get hgl, hcap, bg0t, bg1t, bh3t, hp, hln, hrn, hr0, hcap]) <;> exact rfl
    · (simp only [go_sem, Try.ntmps53, hx0, hn0, bh0t, hib, bh1t, h1t, hkb, rL_get h1t, bh2t, hnb, hgl, rB_get hgl, hcap, bg0t, bg1t, bh3t, hp, hln, hrn, hr0, hcap]) <;> exact rfl
    apply T_r F
    · (simp only [go_sem, Try.ntmps53, hx0, hn0, bh0t, hib, bh1t, h1t, hkb, rL_get h1t, bh2t, hnb, hgl, rB_get hgl, hcap, bg0t, bg1t, bh3t, hp, hln, hrn, hr0, hcap]) <;> exact rfl
    refine K_lpc (n + 1) 2 (Nat.zero_le _) ?_ ?_ ?_ ?_ ?_
    · (simp only [go_sem, Try.ntmps53, hx0, hn0, bh0t, hib, bh1t, h1t, hkb, rL_get h1t, bh2t, hnb, hgl, rB_get hgl, hcap, bg0t, bg1t, bh3t, hp, hln, hrn, hr0, hcap]) <;> decide
    · (simp only [go_sem, Try.ntmps53, hx0, hn0, bh0t, hib, bh1t, h1t, hkb, rL_get h1t, bh2t, hnb, hgl, rB_get hgl, hcap, bg0t, bg1t, bh3t, hp, hln, hrn, hr0, hcap, Nat.reduceLT, decide_true, Nat.zero_lt_one, Nat.zero_lt_succ]) <;> rfl
    · (simp only [go_sem, Try.ntmps53, hx0, hn0, bh0t, hib, bh1t, h1t, hkb, rL_get h1t, bh2t, hnb, hgl, rB_get hgl, hcap, bg0t, bg1t, bh3t, hp, hln, hrn, hr0, hcap, Nat.reduceLT, decide_true, Nat.zero_lt_one, Nat.zero_lt_succ]) <;> rfl
    · (simp only [go_sem, Try.ntmps53, hx0, hn0, bh0t, hib, bh1t, h1t, hkb, rL_get h1t, bh2t, hnb, hgl, rB_get hgl, hcap, bg0t, bg1t, bh3t, hp, hln, hrn, hr0, hcap]) <;> exact rfl
    -- leaf 0 (loop2)
    omega
  · skip
    have hm1 := hmem.1
    rw [hp] at hln hrw hri hcap hm1
    have hc2 : (l.length + 1 + 1) * 8 ≤ 140737488355328 := by simp only [List.length_cons] at hm1; omega
    have hc3 : (l.length + 1) * 8 ≤ 140737488355328 := by omega
    have hri2 : rI l ++ [[.int .i64 (n : Int)]] = rI (l ++ [(n : Int)]) := rI_snoc _ _
    have hrn : rL (M.nxt t i k ++ M.extK t (x :: l) n) ++ [[.sl 1 ([.int .i64 x] :: rI (l ++ [(n : Int)]))]] = rL (M.nxt t i k ++ M.extK t (x :: l) (n + 1)) := hrw
    have hll : (l ++ [(n : Int)]).length = l.length + 1 := by simp
    apply T_wL F [0, 1, 2, 3, 4, 5, 6, 7, 8, 9, 10, 11] rfl
    apply W_pre [0, 1, 2, 3] [4, 5, 6, 7, 8, 9, 10, 11]
    · (simp only [go_sem, Try.ntmps53, hx0, hn0, bh0t, hib, bh1t, h1t, hkb, rL_get h1t, bh2t, hnb, hgl, rB_get hgl, hcap, bg0t, bg1t, bh3t, hp, hln, hrn, hri2, hll, hc2, hc3, hcap, rI_cons, rI_one2, List.all_append]) <;> exact rfl
    apply W_pre [4, 5, 6, 7] [8, 9, 10, 11]
    · (simp only [go_sem, Try.ntmps53, hx0, hn0, bh0t, hib, bh1t, h1t, hkb, rL_get h1t, bh2t, hnb, hgl, rB_get hgl, hcap, bg0t, bg1t, bh3t, hp, hln, hrn, hri2, hll, hc2, hc3, hcap, rI_cons, rI_one2, List.all_append]) <;> exact rfl
    apply W_run
    · (simp only [go_sem, Try.ntmps53, hx0, hn0, bh0t, hib, bh1t, h1t, hkb, rL_get h1t, bh2t, hnb, hgl, rB_get hgl, hcap, bg0t, bg1t, bh3t, hp, hln, hrn, hri2, hll, hc2, hc3, hcap, rI_cons, rI_one2, List.all_append]) <;> exact rfl
    apply W_nil
    apply K_blk
    apply K_seq
    apply T_own 1 2 _ 23 1 3 _ _ (by decide)
    · (simp only [go_sem, Try.ntmps53, hx0, hn0, bh0t, hib, bh1t, h1t, hkb, rL_get h1t, bh2t, hnb, hgl, rB_get hgl, hcap, bg0t, bg1t, bh3t, hp, hln, hrn, hri2, hll, hc2, hc3, hcap, rI_cons, rI_one2, List.all_append]) <;> exact rfl
    · (simp only [go_sem, Try.ntmps53, hx0, hn0, bh0t, hib, bh1t, h1t, hkb, rL_get h1t, bh2t, hnb, hgl, rB_get hgl, hcap, bg0t, bg1t, bh3t, hp, hln, hrn, hri2, hll, hc2, hc3, hcap, rI_cons, rI_one2, List.all_append]) <;> exact rfl
    · (simp only [go_sem, Try.ntmps53, hx0, hn0, bh0t, hib, bh1t, h1t, hkb, rL_get h1t, bh2t, hnb, hgl, rB_get hgl, hcap, bg0t, bg1t, bh3t, hp, hln, hrn, hri2, hll, hc2, hc3, hcap, rI_cons, rI_one2, List.all_append]) <;> exact rfl
    · (simp only [go_sem, Try.ntmps53, hx0, hn0, bh0t, hib, bh1t, h1t, hkb, rL_get h1t, bh2t, hnb, hgl, rB_get hgl, hcap, bg0t, bg1t, bh3t, hp, hln, hrn, hri2, hll, hc2, hc3, hcap, rI_cons, rI_one2, List.all_append]) <;> exact rfl
    apply T_r F
    · (simp only [go_sem, Try.ntmps53, hx0, hn0, bh0t, hib, bh1t, h1t, hkb, rL_get h1t, bh2t, hnb, hgl, rB_get hgl, hcap, bg0t, bg1t, bh3t, hp, hln, hrn, hri2, hll, hc2, hc3, hcap, rI_cons, rI_one2, List.all_append]) <;> exact rfl
    refine K_lpc (n + 1) 2 (Nat.zero_le _) ?_ ?_ ?_ ?_ ?_
    · (simp only [go_sem, Try.ntmps53, hx0, hn0, bh0t, hib, bh1t, h1t, hkb, rL_get h1t, bh2t, hnb, hgl, rB_get hgl, hcap, bg0t, bg1t, bh3t, hp, hln, hrn, hri2, hll, hc2, hc3, hcap, rI_cons, rI_one2, List.all_append]) <;> decide
    · (simp only [go_sem, Try.ntmps53, hx0, hn0, bh0t, hib, bh1t, h1t, hkb, rL_get h1t, bh2t, hnb, hgl, rB_get hgl, hcap, bg0t, bg1t, bh3t, hp, hln, hrn, hri2, hll, hc2, hc3, hcap, rI_cons, rI_one2, List.all_append, Nat.reduceLT, decide_true, Nat.zero_lt_one, Nat.zero_lt_succ]) <;> rfl
    · (simp only [go_sem, Try.ntmps53, hx0, hn0, bh0t, hib, bh1t, h1t, hkb, rL_get h1t, bh2t, hnb, hgl, rB_get hgl, hcap, bg0t, bg1t, bh3t, hp, hln, hrn, hri2, hll, hc2, hc3, hcap, rI_cons, rI_one2, List.all_append, Nat.reduceLT, decide_true, Nat.zero_lt_one, Nat.zero_lt_succ]) <;> rfl
    · (simp only [go_sem, Try.ntmps53, hx0, hn0, bh0t, hib, bh1t, h1t, hkb, rL_get h1t, bh2t, hnb, hgl, rB_get hgl, hcap, bg0t, bg1t, bh3t, hp, hln, hrn, hri2, hll, hc2, hc3, hcap, rI_cons, rI_one2, List.all_append]) <;> exact rfl
    -- leaf 1 (loop2)
    omega)
  · intro bh3f
    have h3f := bh3f
    try simp only [CS] at h3f
    try simp only [BS] at bh3f
    try exact absurd bh3f (by decide)
    all_goals (
  have hgo : M.goesB t (M.level t i)[k] (n : Int) = false := by simp only [M.goesB, hmem.1, hgg, bg0t, bg1t]; simpa using h3f
  have hst : M.extK t (M.level t i)[k] (n + 1) = M.extK t (M.level t i)[k] n := M.extK_step_no hgo
  apply T_skip
  apply K_blk
  apply K_seq
  apply T_r F
  · (simp only [go_sem, Try.ntmps53, hx0, hn0, bh0t, hib, bh1t, h1t, hkb, rL_get h1t, bh2t, hnb, hgl, rB_get hgl, hcap, bg0t, bg1t, bh3f, hst]) <;> exact rfl
  refine K_lpc (n + 1) 2 (Nat.zero_le _) ?_ ?_ ?_ ?_ ?_
  · (simp only [go_sem, Try.ntmps53, hx0, hn0, bh0t, hib, bh1t, h1t, hkb, rL_get h1t, bh2t, hnb, hgl, rB_get hgl, hcap, bg0t, bg1t, bh3f, hst]) <;> decide
  · (simp only [go_sem, Try.ntmps53, hx0, hn0, bh0t, hib, bh1t, h1t, hkb, rL_get h1t, bh2t, hnb, hgl, rB_get hgl, hcap, bg0t, bg1t, bh3f, hst, Nat.reduceLT, decide_true, Nat.zero_lt_one, Nat.zero_lt_succ]) <;> rfl
  · (simp only [go_sem, Try.ntmps53, hx0, hn0, bh0t, hib, bh1t, h1t, hkb, rL_get h1t, bh2t, hnb, hgl, rB_get hgl, hcap, bg0t, bg1t, bh3f, hst, Nat.reduceLT, decide_true, Nat.zero_lt_one, Nat.zero_lt_succ]) <;> rfl
  · (simp only [go_sem, Try.ntmps53, hx0, hn0, bh0t, hib, bh1t, h1t, hkb, rL_get h1t, bh2t, hnb, hgl, rB_get hgl, hcap, bg0t, bg1t, bh3f, hst]) <;> exact rfl
  -- leaf 2 (loop2)
  omega))
  · intro bg1f
    have g1f := bg1f
    try simp only [CS] at g1f
    try simp only [BS] at bg1f
    try exact absurd bg1f (by decide)
    all_goals (
  have hgo : M.goesB t (M.level t i)[k] (n : Int) = false := by simp only [M.goesB, hmem.1, hgg, bg0t, bg1f]; rfl
  have hst : M.extK t (M.level t i)[k] (n + 1) = M.extK t (M.level t i)[k] n := M.extK_step_no hgo
  apply W_run
  · (simp only [go_sem, Try.ntmps53, hx0, hn0, bh0t, hib, bh1t, h1t, hkb, rL_get h1t, bh2t, hnb, hgl, rB_get hgl, hcap, bg0t, bg1f, hst]) <;> exact rfl
  apply W_nil
  apply K_seq
  apply T_if
  · (simp only [go_sem, Try.ntmps53, hx0, hn0, bh0t, hib, bh1t, h1t, hkb, rL_get h1t, bh2t, hnb, hgl, rB_get hgl, hcap, bg0t, bg1f, hst]) <;> exact rfl
  · intro bh4t
    exact absurd bh4t (by simp)
  · intro bh4f
    have h4f := bh4f
    try simp only [CS] at h4f
    try simp only [BS] at bh4f
    try exact absurd bh4f (by decide)
    all_goals (
  apply T_skip
  apply K_blk
  apply K_seq
  apply T_r F
  · (simp only [go_sem, Try.ntmps53, hx0, hn0, bh0t, hib, bh1t, h1t, hkb, rL_get h1t, bh2t, hnb, hgl, rB_get hgl, hcap, bg0t, bg1f, hst, bh4f]) <;> exact rfl
  refine K_lpc (n + 1) 2 (Nat.zero_le _) ?_ ?_ ?_ ?_ ?_
  · (simp only [go_sem, Try.ntmps53, hx0, hn0, bh0t, hib, bh1t, h1t, hkb, rL_get h1t, bh2t, hnb, hgl, rB_get hgl, hcap, bg0t, bg1f, hst, bh4f]) <;> decide
  · (simp only [go_sem, Try.ntmps53, hx0, hn0, bh0t, hib, bh1t, h1t, hkb, rL_get h1t, bh2t, hnb, hgl, rB_get hgl, hcap, bg0t, bg1f, hst, bh4f, Nat.reduceLT, decide_true, Nat.zero_lt_one, Nat.zero_lt_succ]) <;> rfl
  · (simp only [go_sem, Try.ntmps53, hx0, hn0, bh0t, hib, bh1t, h1t, hkb, rL_get h1t, bh2t, hnb, hgl, rB_get hgl, hcap, bg0t, bg1f, hst, bh4f, Nat.reduceLT, decide_true, Nat.zero_lt_one, Nat.zero_lt_succ]) <;> rfl
  · (simp only [go_sem, Try.ntmps53, hx0, hn0, bh0t, hib, bh1t, h1t, hkb, rL_get h1t, bh2t, hnb, hgl, rB_get hgl, hcap, bg0t, bg1f, hst, bh4f]) <;> exact rfl
  -- leaf 3 (loop2)
  omega)))
  · intro bg0f
    have g0f := bg0f
    try simp only [CS] at g0f
    try simp only [BS] at bg0f
    try exact absurd bg0f (by decide)
    all_goals (
  have hgo : M.goesB t (M.level t i)[k] (n : Int) = false := by simp only [M.goesB, hmem.1, hgg, bg0f]; rfl
  have hst : M.extK t (M.level t i)[k] (n + 1) = M.extK t (M.level t i)[k] n := M.extK_step_no hgo
  apply W_pre [8, 9, 10, 11] [12, 13, 14, 15, 16, 17, 18, 19, 20, 21]
  · (simp only [go_sem, Try.ntmps53, hx0, hn0, bh0t, hib, bh1t, h1t, hkb, rL_get h1t, bh2t, hnb, hgl, rB_get hgl, hcap, bg0f, hst]) <;> exact rfl
  apply W_pre [12, 13, 14, 15] [16, 17, 18, 19, 20, 21]
  · (simp only [go_sem, Try.ntmps53, hx0, hn0, bh0t, hib, bh1t, h1t, hkb, rL_get h1t, bh2t, hnb, hgl, rB_get hgl, hcap, bg0f, hst]) <;> exact rfl
  apply W_run
  · (simp only [go_sem, Try.ntmps53, hx0, hn0, bh0t, hib, bh1t, h1t, hkb, rL_get h1t, bh2t, hnb, hgl, rB_get hgl, hcap, bg0f, hst]) <;> exact rfl
  apply W_nil
  apply K_seq
  apply T_if
  · (simp only [go_sem, Try.ntmps53, hx0, hn0, bh0t, hib, bh1t, h1t, hkb, rL_get h1t, bh2t, hnb, hgl, rB_get hgl, hcap, bg0f, hst]) <;> exact rfl
  · intro bh5t
    exact absurd bh5t (by simp)
  · intro bh5f
    have h5f := bh5f
    try simp only [CS] at h5f
    try simp only [BS] at bh5f
    try exact absurd bh5f (by decide)
    all_goals (
  apply T_skip
  apply K_blk
  apply K_seq
  apply T_r F
  · (simp only [go_sem, Try.ntmps53, hx0, hn0, bh0t, hib, bh1t, h1t, hkb, rL_get h1t, bh2t, hnb, hgl, rB_get hgl, hcap, bg0f, hst, bh5f]) <;> exact rfl
  refine K_lpc (n + 1) 2 (Nat.zero_le _) ?_ ?_ ?_ ?_ ?_
  · (simp only [go_sem, Try.ntmps53, hx0, hn0, bh0t, hib, bh1t, h1t, hkb, rL_get h1t, bh2t, hnb, hgl, rB_get hgl, hcap, bg0f, hst, bh5f]) <;> decide
  · (simp only [go_sem, Try.ntmps53, hx0, hn0, bh0t, hib, bh1t, h1t, hkb, rL_get h1t, bh2t, hnb, hgl, rB_get hgl, hcap, bg0f, hst, bh5f, Nat.reduceLT, decide_true, Nat.zero_lt_one, Nat.zero_lt_succ]) <;> rfl
  · (simp only [go_sem, Try.ntmps53, hx0, hn0, bh0t, hib, bh1t, h1t, hkb, rL_get h1t, bh2t, hnb, hgl, rB_get hgl, hcap, bg0f, hst, bh5f, Nat.reduceLT, decide_true, Nat.zero_lt_one, Nat.zero_lt_succ]) <;> rfl
  · (simp only [go_sem, Try.ntmps53, hx0, hn0, bh0t, hib, bh1t, h1t, hkb, rL_get h1t, bh2t, hnb, hgl, rB_get hgl, hcap, bg0f, hst, bh5f]) <;> exact rfl
  -- leaf 4 (loop2)
  omega)))
    · intro bh2f
      have h2f := bh2f
      try simp only [CS] at h2f
      try simp only [BS] at bh2f
      try exact absurd bh2f (by decide)
      all_goals (
  have hne : n = t.walk.length := by omega
  subst hne
  have hns : M.nxt t i (k + 1) = M.nxt t i k ++ M.extK t (M.level t i)[k] t.walk.length := M.nxt_step h1t
  apply T_exit
  apply K_seqE
  apply K_lpE
  apply K_blkE
  apply K_blk
  apply K_seq
  apply T_r F
  · (simp only [go_sem, Try.ntmps53, hx0, hn0, bh0t, hib, bh1t, h1t, hkb, rL_get h1t, bh2f, hns]) <;> exact rfl
  refine K_lp (k + 1) ?_ ?_
  · (simp only [go_sem, Try.ntmps53, hx0, hn0, bh0t, hib, bh1t, h1t, hkb, rL_get h1t, bh2f, hns]) <;> exact rfl
  -- leaf 5 (loop1)
  omega))
    · intro bh1f
      have h1f := bh1f
      try simp only [CS] at h1f
      try simp only [BS] at bh1f
      try exact absurd bh1f (by decide)
      all_goals (
  have hna := M.nxt_all (t := t) (i := i) (k := k) (by omega)
  apply T_exit
  apply K_seqE
  apply K_lpE
  apply K_blkE
  apply K_seq
  apply T_r F
  · (simp only [go_sem, Try.ntmps53, hx0, hn0, bh0t, hib, bh1f, hna]) <;> exact rfl
  apply K_blk
  apply K_seq
  apply T_data 3 1 _ 23 1 _
  · (simp only [go_sem, Try.ntmps53, hx0, hn0, bh0t, hib, bh1f, hna]) <;> exact rfl
  · (simp only [go_sem, Try.ntmps53, hx0, hn0, bh0t, hib, bh1f, hna]) <;> exact rfl
  · (simp only [go_sem, Try.ntmps53, hx0, hn0, bh0t, hib, bh1f, hna]) <;> exact rfl
  · (simp only [go_sem, Try.ntmps53, hx0, hn0, bh0t, hib, bh1f, hna]) <;> exact rfl
  apply T_r F
  · (simp only [go_sem, Try.ntmps53, hx0, hn0, bh0t, hib, bh1f, hna]) <;> exact rfl
  refine K_lpc (i + 1) 1 (Nat.zero_le _) ?_ ?_ ?_ ?_ ?_
  · (simp only [go_sem, Try.ntmps53, hx0, hn0, bh0t, hib, bh1f, hna]) <;> decide
  · (simp only [go_sem, Try.ntmps53, hx0, hn0, bh0t, hib, bh1f, hna, Nat.reduceLT, decide_true, Nat.zero_lt_one, Nat.zero_lt_succ]) <;> rfl
  · (simp only [go_sem, Try.ntmps53, hx0, hn0, bh0t, hib, bh1f, hna, Nat.reduceLT, decide_true, Nat.zero_lt_one, Nat.zero_lt_succ]) <;> rfl
  · (simp only [go_sem, Try.ntmps53, hx0, hn0, bh0t, hib, bh1f, hna]) <;> exact rfl
  -- leaf 6 (loop0)
  omega))
    · intro bh0f
      have h0f := bh0f
      try simp only [CS] at h0f
      try simp only [BS] at bh0f
      try exact absurd bh0f (by decide)
      all_goals (
  have hie : i = t.houses.length := by omega
  subst hie
  apply T_exit
  apply K_seqE
  apply K_lpE
  apply K_blkE
  apply K_seq
  apply T_seq
  apply T_r F
  · (simp only [go_sem, Try.ntmps53, hx0, hn0, bh0f]) <;> exact rfl
  apply K_seq
  apply T_seq
  apply T_seq
  apply T_r F
  · (simp only [go_sem, Try.ntmps53, hx0, hn0, bh0f]) <;> exact rfl
  apply K_seq
  apply T_block
  apply T_ghost (d := 8) (T := 23) (sz := 1)
  · (simp only [go_sem, Try.ntmps53, hx0, hn0, bh0f]) <;> exact rfl
  apply T_lp (α := Nat) [false, true, false, true, false, false, false, false, true, true, false, false, false, false, false, false, false, false, false, false, false, false, false, false, false, false, false, false, false, false, false, false, false, false, false, false, false, false, false, false, false, false, false, false, false, false, false, false, false, false, false, false, false, false, false, false, false, false, false, false, false, false, false, false, false, false, false, false, false, false, false, false, false, false, false, false, false, false, false, false, false, false, false, false, false] (fun k => (⟨[.undef, .ptr 0 0, .undef, .sl 1 (rL (M.level t t.houses.length)), .undef, .undef, .undef, .undef, .arr 1 (M.selP t k).length, .int .i64 (k : Int), .undef, .undef, .undef, .undef, .undef, .undef, .undef, .undef, .undef, .undef, .undef, .undef, .undef, .undef, .undef, .undef, .undef, .undef, .undef, .undef, .undef, .undef, .undef, .undef, .undef, .undef, .undef, .undef, .undef, .undef, .undef, .undef, .undef, .undef, .undef, .undef, .undef, .undef, .undef, .undef, .undef, .undef, .undef, .undef, .undef, .undef, .undef, .undef, .undef, .undef, .undef, .undef, .undef, .undef, .undef, .undef, .undef, .undef, .undef, .undef, .undef, .undef, .undef, .undef, .undef, .undef, .undef, .undef, .undef, .undef, .undef, .undef, .undef, .undef, .undef], [.box 28 (cT t), .arr 23 1 (rL (M.selP t k)) false]⟩ : St)) (fun k => k ≤ (M.level t t.houses.length).length) (fun k => (M.level t t.houses.length).length - k) (0)
  · (simp only [go_sem, Try.ntmps53, hx0, hn0, bh0f]) <;> exact rfl
  · exact Nat.zero_le _
  · rintro k hk
    apply T_seq
    apply T_seq
    apply T_r F
    · (simp only [go_sem, Try.ntmps53, hx0, hn0, bh0f]) <;> exact rfl
    apply K_seq
    apply T_if
    · (simp only [go_sem, Try.ntmps53, hx0, hn0, bh0f]) <;> exact rfl
    · intro bh6t
      have h6t := bh6t
      try simp only [CS] at h6t
      try simp only [BS] at bh6t
      try exact absurd bh6t (by decide)
      all_goals (
  have hls := M.level_small ok (i := t.houses.length) (Nat.le_refl _)
  have hkb : k < 9223372036854775807 := by omega
  have hsl := M.selP_len t k
  have hcap : ((M.selP t k).length + 1) * 24 ≤ 140737488355328 := by omega
  apply T_skip
  apply K_seq
  apply T_seq
  apply T_block
  apply T_seq
  apply T_qL F [0, 1, 2, 3, 4, 5] rfl (by kernel_rfl)
  apply Q_pre [0, 1, 2, 3, 4] [5]
  · (simp only [go_sem, Try.ntmps53, hx0, hn0, bh0f, bh6t, h6t, hkb, rL_get h6t, hcap]) <;> exact rfl
  apply Q_call -- call 2 of function 21
  · (simp only [go_sem, Try.ntmps53, hx0, hn0, bh0f, bh6t, h6t, hkb, rL_get h6t, hcap]) <;> exact rfl
  · (simp only [go_sem, Try.ntmps53, hx0, hn0, bh0f, bh6t, h6t, hkb, rL_get h6t, hcap]) <;> exact rfl
  · exact rfl
  · (simp only [go_sem, Try.ntmps53, hx0, hn0, bh0f, bh6t, h6t, hkb, rL_get h6t, hcap]) <;> exact rfl
  · (simp only [go_sem, Try.ntmps53, hx0, hn0, bh0f, bh6t, h6t, hkb, rL_get h6t, hcap]) <;> exact rfl
  · exact ⟨_, Try.func21, rfl, rfl⟩
  · (simp only [go_sem, Try.ntmps53, hx0, hn0, bh0f, bh6t, h6t, hkb, rL_get h6t, hcap]) <;> exact rfl
  · exact ref_allowed _ _ ok (M.level_plan (List.getElem_mem h6t))
  apply Q_run
  · (simp only [go_sem, Try.ntmps53, hx0, hn0, bh0f, bh6t, h6t, hkb, rL_get h6t, hcap]) <;> exact rfl
  apply Q_nil
  apply K_seq
  apply T_if
  · (simp only [go_sem, Try.ntmps53, hx0, hn0, bh0f, bh6t, h6t, hkb, rL_get h6t, hcap]) <;> exact rfl
  · intro bh7t
    have h7t := bh7t
    try simp only [CS] at h7t
    try simp only [BS] at bh7t
    try exact absurd bh7t (by decide)
    all_goals (
  have hse : M.selP t (k + 1) = M.selP t k ++ [(M.level t t.houses.length)[k]] := by rw [M.selP_step h6t, if_pos bh7t]
  have hln : (M.selP t (k + 1)).length = (M.selP t k).length + 1 := by rw [hse]; simp
  have hrw : rL (M.selP t k) ++ [[.sl 1 (rI (M.level t t.houses.length)[k])]] = rL (M.selP t (k + 1)) := by rw [hse, rL_snoc]
  apply T_wL F [0, 1, 2, 3, 4, 5, 6, 7] rfl
  apply W_pre [0, 1, 2, 3] [4, 5, 6, 7]
  · (simp only [go_sem, Try.ntmps53, hx0, hn0, bh0f, bh6t, h6t, hkb, rL_get h6t, hcap, bh7t, hln, hrw]) <;> exact rfl
  apply W_run
  · (simp only [go_sem, Try.ntmps53, hx0, hn0, bh0f, bh6t, h6t, hkb, rL_get h6t, hcap, bh7t, hln, hrw]) <;> exact rfl
  apply W_nil
  apply K_blk
  apply K_seq
  apply T_r F
  · (simp only [go_sem, Try.ntmps53, hx0, hn0, bh0f, bh6t, h6t, hkb, rL_get h6t, hcap, bh7t, hln, hrw]) <;> exact rfl
  refine K_lp (k + 1) ?_ ?_
  · (simp only [go_sem, Try.ntmps53, hx0, hn0, bh0f, bh6t, h6t, hkb, rL_get h6t, hcap, bh7t, hln, hrw]) <;> exact rfl
  -- leaf 7 (loop3)
  omega)
  · intro bh7f
    have h7f := bh7f
    try simp only [CS] at h7f
    try simp only [BS] at bh7f
    try exact absurd bh7f (by decide)
    all_goals (
  have hse : M.selP t (k + 1) = M.selP t k := by rw [M.selP_step h6t, if_neg (by simp [bh7f]), List.append_nil]
  apply T_skip
  apply K_blk
  apply K_seq
  apply T_r F
  · (simp only [go_sem, Try.ntmps53, hx0, hn0, bh0f, bh6t, h6t, hkb, rL_get h6t, hcap, bh7f, hse]) <;> exact rfl
  refine K_lp (k + 1) ?_ ?_
  · (simp only [go_sem, Try.ntmps53, hx0, hn0, bh0f, bh6t, h6t, hkb, rL_get h6t, hcap, bh7f, hse]) <;> exact rfl
  -- leaf 8 (loop3)
  omega))
    · intro bh6f
      have h6f := bh6f
      try simp only [CS] at h6f
      try simp only [BS] at bh6f
      try exact absurd bh6f (by decide)
      all_goals (
  have hsa := M.selP_all (t := t) (k := k) (by omega)
  apply T_exit
  apply K_seqE
  apply K_lpE
  apply K_blkE
  apply K_seq
  apply T_seq
  apply T_r F
  · (simp only [go_sem, Try.ntmps53, hx0, hn0, bh0f, bh6f, hsa]) <;> exact rfl
  apply K_seq
  apply T_ret
  apply fin_ret
  · (simp only [go_sem, Try.ntmps53, hx0, hn0, bh0f, bh6f, hsa, Try.f53]) <;> exact rfl
  -- leaf 9 (ret)
  simp only [go_sem, Try.ntmps53, hx0, hn0, bh0f, bh6f, hsa, V.bool.injEq, V.int.injEq, true_and]
  all_goals rfl))

end Go.Ab
namespace Go.Ab
open Go Go.RowKit Go.Proofs
set_option linter.unusedVariables false
theorem find_at {l : List (List Int)} {f : List Int → Bool} : ∀ {k : Nat} (hk : k < l.length), f l[k] = true → (∀ j (hj : j < l.length), j < k → f l[j] = false) → l.find? f = some l[k] := by
  induction l with
  | nil => intro k hk; simp at hk
  | cons x l ih =>
    intro k hk hf hb
    cases k with
    | zero => simp only [List.getElem_cons_zero] at hf ⊢; rw [List.find?_cons, hf]
    | succ k =>
      have h0 : f x = false := hb 0 (by simp) (by omega)
      rw [List.find?_cons, h0]
      exact ih (by simpa using hk) hf (fun j hj hlt => hb (j + 1) (by simpa using hj) (by omega))
theorem find_no {l : List (List Int)} {f : List Int → Bool} (h : ∀ j (hj : j < l.length), f l[j] = false) : l.find? f = none := by
  rw [List.find?_eq_none]
  intro x hx
  obtain ⟨j, hj, rfl⟩ := List.mem_iff_getElem.1 hx
  simp [h j hj]
namespace M
def bO (t : Town) := least (fun p => (sum (ranks t p), 0)) (plans t)
def fO (t : Town) := least (fun p => (most (ranks t p), sum (ranks t p))) (plans t)
def fK (t : Town) (k : Nat) := least (fun p => (most (ranks t p), sum (ranks t p))) ((plans t).take k)
theorem fK_step {t : Town} {k : Nat} (h : k < (plans t).length) : fK t (k + 1) = pick (fun p => (most (ranks t p), sum (ranks t p))) (fK t k) (plans t)[k] := by
  unfold fK least
  rw [List.take_succ_eq_append_getElem h, List.foldl_append]; rfl
theorem fK_all {t : Town} {k : Nat} (h : (plans t).length ≤ k) : fK t k = fO t := by
  unfold fK fO
  rw [List.take_of_length_le h]
theorem fK_some {t : Town} {k : Nat} {q : List Int} {m : Int × Int} (h : fK t k = some (q, m)) : q ∈ plans t ∧ m = (most (ranks t q), sum (ranks t q)) := by
  unfold fK at h
  by_cases hn : (plans t).take k = []
  · rw [hn] at h; cases h
  · obtain ⟨q', h1, h2, _⟩ := least_some (f := fun p => (most (ranks t p), sum (ranks t p))) (List.Pairwise.sublist (List.take_sublist _ _) (plans_sorted t)) hn
    rw [h1] at h
    simp only [Option.some.injEq, Prod.mk.injEq] at h
    obtain ⟨rfl, rfl⟩ := h
    exact ⟨List.mem_of_mem_take h2, rfl⟩
/-- Is the plan number i the best one, as the document's search says? -/
def Beats (t : Town) (i k : Nat) : Prop := sum (ranks t (at2 t k)) < sum (ranks t (at2 t i)) ∨ sum (ranks t (at2 t k)) = sum (ranks t (at2 t i)) ∧ k < i
where at2 (t : Town) (i : Nat) : List Int := ((plans t)[i]?).getD []
theorem at2_get {t : Town} {i : Nat} (h : i < (plans t).length) : Beats.at2 t i = (plans t)[i] := by simp [Beats.at2, h]
theorem first_best {t : Town} {i : Nat} (hi : i < (plans t).length) (h : ∀ k, k < (plans t).length → ¬ Beats t i k) : bO t = some ((plans t)[i], (sum (ranks t (plans t)[i]), 0)) := by
  have hn : plans t ≠ [] := fun e => by rw [e] at hi; simp at hi
  obtain ⟨a, h1, h2, h3, h4⟩ := best_of hn
  obtain ⟨j, hj, rfl⟩ := List.mem_iff_getElem.1 (mem_plans.2 ⟨h2, h3⟩)
  have hs := List.pairwise_iff_getElem.1 (plans_sorted t)
  obtain ⟨g1, g2⟩ := mem_plans.1 (List.getElem_mem hi)
  have hb := h j hj
  unfold Beats at hb
  rw [at2_get hi, at2_get hj] at hb
  have h5 := h4 _ g1 g2
  rcases Nat.lt_trichotomy i j with hlt | rfl | hlt
  · have := h5.2 (by omega)
    rw [hs i j hi hj hlt] at this; cases this
  · exact h1
  · exfalso; apply hb
    omega
theorem some_first {t : Town} (hn : plans t ≠ []) : ∃ i, i < (plans t).length ∧ ∀ k, k < (plans t).length → ¬ Beats t i k := by
  obtain ⟨a, h1, h2, h3, h4⟩ := best_of hn
  obtain ⟨j, hj, rfl⟩ := List.mem_iff_getElem.1 (mem_plans.2 ⟨h2, h3⟩)
  refine ⟨j, hj, fun k hk hb => ?_⟩
  unfold Beats at hb
  rw [at2_get hk, at2_get hj] at hb
  obtain ⟨g1, g2⟩ := mem_plans.1 (List.getElem_mem hk)
  have h5 := h4 _ g1 g2
  rcases hb with hb | ⟨hb, hlt⟩
  · exact h5.1 hb
  · have := h5.2 hb
    rw [List.pairwise_iff_getElem.1 (plans_sorted t) k j hk hj hlt] at this; cases this
theorem plans_small {t : Town} (ok : Ok t) : (plans t).length ≤ 117649 := by
  rw [plans_level]
  exact Nat.le_trans (List.length_filter_le _ _) (level_small ok (Nat.le_refl _))
theorem plan_get {t : Town} {k : Nat} (h : k < (plans t).length) : plan t (plans t)[k] = true ∧ allowed t (plans t)[k] = true ∧ (plans t)[k].length = t.houses.length := by
  obtain ⟨g1, g2⟩ := mem_plans.1 (List.getElem_mem h)
  exact ⟨g1, g2, (plan_iff.1 g1).1⟩
end M
end Go.Ab
namespace Go.Ab
open Go Go.RowKit Go.Proofs Fac
set_option linter.unusedVariables false
set_option linter.unusedSimpArgs false
set_option maxRecDepth 4000
set_option maxHeartbeats 1000000





theorem ref_exch (t : Town) (p : List Int) (ok : M.Ok t) (hp : p.length = t.houses.length) : Ret Try.prog 22 [.agg (cT t), .sl 1 (rI p)] (match M.exch t p with | some q => .tup [.sl 1 (rI q), .bool true] | none => .tup [.nil, .bool false]) := by
  have h6 := M.houses_le ok
  have hps := M.plans_small ok
  apply Ret_fin (fn := Try.f22) Try.func22 rfl
  apply T_seq
  apply T_r F
  · (simp only [go_sem, Try.ntmps22]) <;> exact rfl
  apply K_seq
  apply T_seq
  apply T_wL F [0, 1, 2] rfl
  apply W_pre [0] [1, 2]
  · (simp only [go_sem, Try.ntmps22]) <;> exact rfl
  apply W_call -- call 0 of function 53
  · (simp only [go_sem, Try.ntmps22]) <;> exact rfl
  · (simp only [go_sem, Try.ntmps22]) <;> exact rfl
  · exact rfl
  · (simp only [go_sem, Try.ntmps22]) <;> exact rfl
  · (simp only [go_sem, Try.ntmps22]) <;> exact rfl
  · exact ⟨_, Try.func53, rfl, rfl⟩
  · (simp only [go_sem, Try.ntmps22]) <;> exact rfl
  · (simp only [go_sem, Try.ntmps22]) <;> exact rfl
  · exact ref_plans _ ok
  apply W_run
  · (simp only [go_sem, Try.ntmps22]) <;> exact rfl
  apply W_nil
  apply K_seq
  apply T_seq
  apply T_seq
  apply T_r F
  · (simp only [go_sem, Try.ntmps22]) <;> exact rfl
  apply K_seq
  apply T_block
  apply T_lp (α := Nat) [false, true, true, false, false, false, true, true, false, false, false, false, false, false, false, false, false, false, false, false, false, false, false, false, false, false, false] (fun k => (⟨[.undef, .sl 1 (rI p), .ptr 0 0, .undef, .undef, .undef, .sl 1 (rL (M.plans t)), .int .i64 (k : Int), .undef, .undef, .undef, .undef, .undef, .undef, .undef, .undef, .undef, .undef, .undef, .undef, .undef, .undef, .undef, .undef, .undef, .undef, .undef], [.box 28 (cT t)]⟩ : St)) (fun k => k ≤ (M.plans t).length ∧ ∀ j (hj : j < (M.plans t).length), j < k → M.pleases t p (M.plans t)[j] = false) (fun k => (M.plans t).length - k) (0)
  · (simp only [go_sem, Try.ntmps22]) <;> exact rfl
  · exact ⟨Nat.zero_le _, fun j _ hj => absurd hj (Nat.not_lt_zero j)⟩
  · rintro k ⟨hk, hj⟩
    apply T_seq
    apply T_seq
    apply T_r F
    · (simp only [go_sem, Try.ntmps22]) <;> exact rfl
    apply K_seq
    apply T_if
    · (simp only [go_sem, Try.ntmps22]) <;> exact rfl
    · intro bh0t
      have h0t := bh0t
      try simp only [CS] at h0t
      try simp only [BS] at bh0t
      try exact absurd bh0t (by decide)
      all_goals (
  have hkb : k < 9223372036854775807 := by omega
  have hpg := M.plan_get h0t
  have hpl := hpg.2.2
  apply T_skip
  apply K_seq
  apply T_seq
  apply T_block
  apply T_seq
  apply T_qL F [0, 1, 2, 3, 4, 5, 6] rfl (by kernel_rfl)
  apply Q_pre [0, 1, 2, 3, 4, 5] [6]
  · (simp only [go_sem, Try.ntmps22, bh0t, h0t, hkb, rL_get h0t]) <;> exact rfl
  apply Q_call -- call 1 of function 54
  · (simp only [go_sem, Try.ntmps22, bh0t, h0t, hkb, rL_get h0t]) <;> exact rfl
  · (simp only [go_sem, Try.ntmps22, bh0t, h0t, hkb, rL_get h0t]) <;> exact rfl
  · exact rfl
  · (simp only [go_sem, Try.ntmps22, bh0t, h0t, hkb, rL_get h0t]) <;> exact rfl
  · (simp only [go_sem, Try.ntmps22, bh0t, h0t, hkb, rL_get h0t]) <;> exact rfl
  · exact ⟨_, Try.func54, rfl, rfl⟩
  · (simp only [go_sem, Try.ntmps22, bh0t, h0t, hkb, rL_get h0t]) <;> exact rfl
  · exact ref_pleases _ _ _ (by omega) (by omega)
  apply Q_run
  · (simp only [go_sem, Try.ntmps22, bh0t, h0t, hkb, rL_get h0t]) <;> exact rfl
  apply Q_nil
  apply K_seq
  apply T_if
  · (simp only [go_sem, Try.ntmps22, bh0t, h0t, hkb, rL_get h0t]) <;> exact rfl
  · intro bh1t
    have h1t := bh1t
    try simp only [CS] at h1t
    try simp only [BS] at bh1t
    try exact absurd bh1t (by decide)
    all_goals (
  have hx : M.exch t p = some (M.plans t)[k] := find_at h0t bh1t hj
  apply T_seq
  apply T_r F
  · (simp only [go_sem, Try.ntmps22, bh0t, h0t, hkb, rL_get h0t, bh1t, hx]) <;> exact rfl
  apply K_seq
  apply T_ret
  apply K_blkR
  apply K_seqR
  apply K_lpR
  apply K_blkR
  apply K_seqR
  apply fin_ret
  · (simp only [go_sem, Try.ntmps22, bh0t, h0t, hkb, rL_get h0t, bh1t, hx, Try.f22]) <;> exact rfl
  -- leaf 0 (ret)
  
  (simp only [go_sem, Try.ntmps22, bh0t, h0t, hkb, rL_get h0t, bh1t, hx]) <;> rfl)
  · intro bh1f
    have h1f := bh1f
    try simp only [CS] at h1f
    try simp only [BS] at bh1f
    try exact absurd bh1f (by decide)
    all_goals (
  apply T_skip
  apply K_blk
  apply K_seq
  apply T_r F
  · (simp only [go_sem, Try.ntmps22, bh0t, h0t, hkb, rL_get h0t, bh1f]) <;> exact rfl
  refine K_lp (k + 1) ?_ ?_
  · (simp only [go_sem, Try.ntmps22, bh0t, h0t, hkb, rL_get h0t, bh1f]) <;> exact rfl
  -- leaf 1 (loop0)
  refine ⟨⟨by omega, fun j hj1 hj2 => ?_⟩, by omega⟩
  rcases Nat.lt_or_ge j k with h | h
  · exact hj j hj1 h
  · obtain rfl : j = k := by omega
    exact bh1f))
    · intro bh0f
      have h0f := bh0f
      try simp only [CS] at h0f
      try simp only [BS] at bh0f
      try exact absurd bh0f (by decide)
      all_goals (
  have hx : M.exch t p = none := find_no fun j hj1 => hj j hj1 (by omega)
  apply T_exit
  apply K_seqE
  apply K_lpE
  apply K_blkE
  apply K_seq
  apply T_seq
  apply T_r F
  · (simp only [go_sem, Try.ntmps22, bh0f]) <;> exact rfl
  apply K_seq
  apply T_ret
  apply fin_ret
  · (simp only [go_sem, Try.ntmps22, bh0f, Try.f22]) <;> exact rfl
  -- leaf 2 (ret)
  
  rw [hx]
  rfl)

theorem ref_fairer (t : Town) (a b : List Int) (ok : M.Ok t) (ha : a.length = t.houses.length) (hb : b.length = t.houses.length) : Ret Try.prog 60 [.agg (cT t), .sl 1 (rI a), .sl 1 (rI b)] (.bool (M.lt2 (M.most (M.ranks t a), M.sum (M.ranks t a)) (M.most (M.ranks t b), M.sum (M.ranks t b)))) := by
  have h6 := M.houses_le ok
  have hra := M.ranks_length t a
  have hrb := M.ranks_length t b
  apply Ret_fin (fn := Try.f60) Try.func60 rfl
  apply T_seq
  apply T_r F
  · (simp only [go_sem, Try.ntmps60]) <;> exact rfl
  apply K_seq
  apply T_seq
  apply T_qL F [0, 1, 2, 3, 4, 5, 6, 7] rfl (by kernel_rfl)
  apply Q_pre [0, 1] [2, 3, 4, 5, 6, 7]
  · (simp only [go_sem, Try.ntmps60]) <;> exact rfl
  apply Q_call -- call 0 of function 31
  · (simp only [go_sem, Try.ntmps60]) <;> exact rfl
  · (simp only [go_sem, Try.ntmps60]) <;> exact rfl
  · exact rfl
  · (simp only [go_sem, Try.ntmps60]) <;> exact rfl
  · (simp only [go_sem, Try.ntmps60]) <;> exact rfl
  · exact ⟨_, Try.func31, rfl, rfl⟩
  · (simp only [go_sem, Try.ntmps60]) <;> exact rfl
  · exact ref_ranks _ _ (by omega) (by omega)
  apply Q_pre [3, 4] [5, 6, 7]
  · (simp only [go_sem, Try.ntmps60]) <;> exact rfl
  apply Q_call -- call 1 of function 31
  · (simp only [go_sem, Try.ntmps60]) <;> exact rfl
  · (simp only [go_sem, Try.ntmps60]) <;> exact rfl
  · exact rfl
  · (simp only [go_sem, Try.ntmps60]) <;> exact rfl
  · (simp only [go_sem, Try.ntmps60]) <;> exact rfl
  · exact ⟨_, Try.func31, rfl, rfl⟩
  · (simp only [go_sem, Try.ntmps60]) <;> exact rfl
  · exact ref_ranks _ _ (by omega) (by omega)
  apply Q_run
  · (simp only [go_sem, Try.ntmps60]) <;> exact rfl
  apply Q_nil
  apply K_seq
  apply T_seq
  apply T_wL F [0, 1, 2, 3, 4, 5, 6, 7, 8, 9, 10, 11, 12, 13, 14, 15, 16, 17, 18, 19] rfl
  apply W_pre [0] [1, 2, 3, 4, 5, 6, 7, 8, 9, 10, 11, 12, 13, 14, 15, 16, 17, 18, 19]
  · (simp only [go_sem, Try.ntmps60]) <;> exact rfl
  apply W_call -- call 2 of function 32
  · (simp only [go_sem, Try.ntmps60]) <;> exact rfl
  · (simp only [go_sem, Try.ntmps60]) <;> exact rfl
  · exact rfl
  · (simp only [go_sem, Try.ntmps60]) <;> exact rfl
  · (simp only [go_sem, Try.ntmps60]) <;> exact rfl
  · exact ⟨_, Try.func32, rfl, rfl⟩
  · (simp only [go_sem, Try.ntmps60]) <;> exact rfl
  · (simp only [go_sem, Try.ntmps60]) <;> exact rfl
  · exact ref_most _
  apply W_pre [2] [3, 4, 5, 6, 7, 8, 9, 10, 11, 12, 13, 14, 15, 16, 17, 18, 19]
  · (simp only [go_sem, Try.ntmps60]) <;> exact rfl
  apply W_call -- call 3 of function 32
  · (simp only [go_sem, Try.ntmps60]) <;> exact rfl
  · (simp only [go_sem, Try.ntmps60]) <;> exact rfl
  · exact rfl
  · (simp only [go_sem, Try.ntmps60]) <;> exact rfl
  · (simp only [go_sem, Try.ntmps60]) <;> exact rfl
  · exact ⟨_, Try.func32, rfl, rfl⟩
  · (simp only [go_sem, Try.ntmps60]) <;> exact rfl
  · (simp only [go_sem, Try.ntmps60]) <;> exact rfl
  · exact ref_most _
  apply W_pre [4, 5] [6, 7, 8, 9, 10, 11, 12, 13, 14, 15, 16, 17, 18, 19]
  · (simp only [go_sem, Try.ntmps60]) <;> exact rfl
  apply W_guard
  · (simp only [go_sem, Try.ntmps60]) <;> exact rfl
  · (simp only [go_sem, Try.ntmps60]) <;> exact rfl
  · intro bg0t
    have g0t := bg0t
    try simp only [CS] at g0t
    try simp only [BS] at bg0t
    try exact absurd bg0t (by decide)
    all_goals (
  apply W_pre [6] [7, 8, 9, 10, 11, 12, 13, 14, 15, 16, 17, 18, 19]
  · (simp only [go_sem, Try.ntmps60, bg0t]) <;> exact rfl
  apply W_call -- call 4 of function 32
  · (simp only [go_sem, Try.ntmps60, bg0t]) <;> exact rfl
  · (simp only [go_sem, Try.ntmps60, bg0t]) <;> exact rfl
  · exact rfl
  · (simp only [go_sem, Try.ntmps60, bg0t]) <;> exact rfl
  · (simp only [go_sem, Try.ntmps60, bg0t]) <;> exact rfl
  · exact ⟨_, Try.func32, rfl, rfl⟩
  · (simp only [go_sem, Try.ntmps60, bg0t]) <;> exact rfl
  · (simp only [go_sem, Try.ntmps60, bg0t]) <;> exact rfl
  · exact ref_most _
  apply W_pre [8] [9, 10, 11, 12, 13, 14, 15, 16, 17, 18, 19]
  · (simp only [go_sem, Try.ntmps60, bg0t]) <;> exact rfl
  apply W_call -- call 5 of function 32
  · (simp only [go_sem, Try.ntmps60, bg0t]) <;> exact rfl
  · (simp only [go_sem, Try.ntmps60, bg0t]) <;> exact rfl
  · exact rfl
  · (simp only [go_sem, Try.ntmps60, bg0t]) <;> exact rfl
  · (simp only [go_sem, Try.ntmps60, bg0t]) <;> exact rfl
  · exact ⟨_, Try.func32, rfl, rfl⟩
  · (simp only [go_sem, Try.ntmps60, bg0t]) <;> exact rfl
  · (simp only [go_sem, Try.ntmps60, bg0t]) <;> exact rfl
  · exact ref_most _
  apply W_pre [10, 11] [12, 13, 14, 15, 16, 17, 18, 19]
  · (simp only [go_sem, Try.ntmps60, bg0t]) <;> exact rfl
  apply W_guard
  · (simp only [go_sem, Try.ntmps60, bg0t]) <;> exact rfl
  · (simp only [go_sem, Try.ntmps60, bg0t]) <;> exact rfl
  · intro bg1t
    have g1t := bg1t
    try simp only [CS] at g1t
    try simp only [BS] at bg1t
    try exact absurd bg1t (by decide)
    all_goals (
  apply W_pre [12] [13, 14, 15, 16, 17, 18, 19]
  · (simp only [go_sem, Try.ntmps60, bg0t, bg1t]) <;> exact rfl
  apply W_call -- call 6 of function 30
  · (simp only [go_sem, Try.ntmps60, bg0t, bg1t]) <;> exact rfl
  · (simp only [go_sem, Try.ntmps60, bg0t, bg1t]) <;> exact rfl
  · exact rfl
  · (simp only [go_sem, Try.ntmps60, bg0t, bg1t]) <;> exact rfl
  · (simp only [go_sem, Try.ntmps60, bg0t, bg1t]) <;> exact rfl
  · exact ⟨_, Try.func30, rfl, rfl⟩
  · (simp only [go_sem, Try.ntmps60, bg0t, bg1t]) <;> exact rfl
  · (simp only [go_sem, Try.ntmps60, bg0t, bg1t]) <;> exact rfl
  · exact ref_sum _ (M.ranks_wide ok) (by omega)
  apply W_pre [14] [15, 16, 17, 18, 19]
  · (simp only [go_sem, Try.ntmps60, bg0t, bg1t]) <;> exact rfl
  apply W_call -- call 7 of function 30
  · (simp only [go_sem, Try.ntmps60, bg0t, bg1t]) <;> exact rfl
  · (simp only [go_sem, Try.ntmps60, bg0t, bg1t]) <;> exact rfl
  · exact rfl
  · (simp only [go_sem, Try.ntmps60, bg0t, bg1t]) <;> exact rfl
  · (simp only [go_sem, Try.ntmps60, bg0t, bg1t]) <;> exact rfl
  · exact ⟨_, Try.func30, rfl, rfl⟩
  · (simp only [go_sem, Try.ntmps60, bg0t, bg1t]) <;> exact rfl
  · (simp only [go_sem, Try.ntmps60, bg0t, bg1t]) <;> exact rfl
  · exact ref_sum _ (M.ranks_wide ok) (by omega)
  apply W_run
  · (simp only [go_sem, Try.ntmps60, bg0t, bg1t]) <;> exact rfl
  apply W_nil
  apply K_seq
  apply T_ret
  apply fin_ret
  · (simp only [go_sem, Try.ntmps60, bg0t, bg1t, Try.f60]) <;> exact rfl
  -- leaf 0 (ret)
  simp only [go_sem, Try.ntmps60, bg0t, bg1t, V.bool.injEq, V.int.injEq, true_and]
  grind [M.lt2])
  · intro bg1f
    have g1f := bg1f
    try simp only [CS] at g1f
    try simp only [BS] at bg1f
    try exact absurd bg1f (by decide)
    all_goals (
  apply W_pre [12, 13, 14, 15] [16, 17, 18, 19]
  · (simp only [go_sem, Try.ntmps60, bg0t, bg1f]) <;> exact rfl
  apply W_run
  · (simp only [go_sem, Try.ntmps60, bg0t, bg1f]) <;> exact rfl
  apply W_nil
  apply K_seq
  apply T_ret
  apply fin_ret
  · (simp only [go_sem, Try.ntmps60, bg0t, bg1f, Try.f60]) <;> exact rfl
  -- leaf 1 (ret)
  simp only [go_sem, Try.ntmps60, bg0t, bg1f, V.bool.injEq, V.int.injEq, true_and]
  grind [M.lt2]))
  · intro bg0f
    have g0f := bg0f
    try simp only [CS] at g0f
    try simp only [BS] at bg0f
    try exact absurd bg0f (by decide)
    all_goals (
  apply W_pre [6, 7, 8, 9] [10, 11, 12, 13, 14, 15, 16, 17, 18, 19]
  · (simp only [go_sem, Try.ntmps60, bg0f]) <;> exact rfl
  apply W_pre [10, 11, 12, 13] [14, 15, 16, 17, 18, 19]
  · (simp only [go_sem, Try.ntmps60, bg0f]) <;> exact rfl
  apply W_run
  · (simp only [go_sem, Try.ntmps60, bg0f]) <;> exact rfl
  apply W_nil
  apply K_seq
  apply T_ret
  apply fin_ret
  · (simp only [go_sem, Try.ntmps60, bg0f, Try.f60]) <;> exact rfl
  -- leaf 2 (ret)
  simp only [go_sem, Try.ntmps60, bg0f, V.bool.injEq, V.int.injEq, true_and]
  grind [M.lt2])

theorem ref_fairest (t : Town) (ok : M.Ok t) : Ret Try.prog 29 [.agg (cT t)] (.tup [oV (M.fO t), .bool (decide ((0 : Int) < ((M.plans t).length : Int)))]) := by
  have h6 := M.houses_le ok
  have hps := M.plans_small ok
  have hz : M.fK t 0 = none := rfl
  apply Ret_fin (fn := Try.f29) Try.func29 rfl
  apply T_seq
  apply T_r F
  · (simp only [go_sem, Try.ntmps29, hz, oV]) <;> exact rfl
  apply K_seq
  apply T_seq
  apply T_wL F [0, 1, 2] rfl
  apply W_pre [0] [1, 2]
  · (simp only [go_sem, Try.ntmps29, hz, oV]) <;> exact rfl
  apply W_call -- call 0 of function 53
  · (simp only [go_sem, Try.ntmps29, hz, oV]) <;> exact rfl
  · (simp only [go_sem, Try.ntmps29, hz, oV]) <;> exact rfl
  · exact rfl
  · (simp only [go_sem, Try.ntmps29, hz, oV]) <;> exact rfl
  · (simp only [go_sem, Try.ntmps29, hz, oV]) <;> exact rfl
  · exact ⟨_, Try.func53, rfl, rfl⟩
  · (simp only [go_sem, Try.ntmps29, hz, oV]) <;> exact rfl
  · (simp only [go_sem, Try.ntmps29, hz, oV]) <;> exact rfl
  · exact ref_plans _ ok
  apply W_run
  · (simp only [go_sem, Try.ntmps29, hz, oV]) <;> exact rfl
  apply W_nil
  apply K_seq
  apply T_seq
  apply T_r F
  · (simp only [go_sem, Try.ntmps29, hz, oV]) <;> exact rfl
  apply K_seq
  apply T_seq
  apply T_seq
  apply T_r F
  · (simp only [go_sem, Try.ntmps29, hz, oV]) <;> exact rfl
  apply K_seq
  apply T_block
  apply T_lp (α := Nat) [false, true, false, false, true, true, true, false, false, false, false, false, false, false, false, false, false, false, false, false, false, false, false, false, false, false, false, false, false, false, false, false, false, false] (fun k => (⟨[.undef, .ptr 0 0, .undef, .undef, .sl 1 (rL (M.plans t)), oV (M.fK t k), .int .i64 (k : Int), .undef, .undef, .undef, .undef, .undef, .undef, .undef, .undef, .undef, .undef, .undef, .undef, .undef, .undef, .undef, .undef, .undef, .undef, .undef, .undef, .undef, .undef, .undef, .undef, .undef, .undef, .undef], [.box 28 (cT t)]⟩ : St)) (fun k => k ≤ (M.plans t).length) (fun k => (M.plans t).length - k) (0)
  · (simp only [go_sem, Try.ntmps29, hz, oV]) <;> exact rfl
  · exact Nat.zero_le _
  · rintro k hk
    apply T_seq
    apply T_seq
    apply T_r F
    · (simp only [go_sem, Try.ntmps29, hz, oV]) <;> exact rfl
    apply K_seq
    apply T_if
    · (simp only [go_sem, Try.ntmps29, hz, oV]) <;> exact rfl
    · intro bh0t
      have h0t := bh0t
      try simp only [CS] at h0t
      try simp only [BS] at bh0t
      try exact absurd bh0t (by decide)
      all_goals (
  have hkb : k < 9223372036854775807 := by omega
  have hpg := M.plan_get h0t
  have hpl := hpg.2.2
  have hst := M.fK_step h0t
  apply T_skip
  apply K_seq
  apply T_seq
  apply T_block
  apply T_seq
  rcases ho : M.fK t k with _ | ⟨q, m⟩
  · skip
    rw [ho] at hst
    simp only [M.pick] at hst
    apply T_qL F [0, 1, 2, 3, 4, 5, 6, 7, 8, 9, 10] rfl (by kernel_rfl)
    apply Q_pre [0, 1, 2, 3] [4, 5, 6, 7, 8, 9, 10]
    · (simp only [go_sem, Try.ntmps29, hz, oV, bh0t, h0t, hkb, rL_get h0t, ho, hst]) <;> exact rfl
    apply Q_pre [4, 5, 6, 7] [8, 9, 10]
    · (simp only [go_sem, Try.ntmps29, hz, oV, bh0t, h0t, hkb, rL_get h0t, ho, hst]) <;> exact rfl
    apply Q_run
    · (simp only [go_sem, Try.ntmps29, hz, oV, bh0t, h0t, hkb, rL_get h0t, ho, hst]) <;> exact rfl
    apply Q_nil
    apply K_seq
    apply T_ifT -- h1
    · (simp only [go_sem, Try.ntmps29, hz, oV, bh0t, h0t, hkb, rL_get h0t, ho, hst]) <;> exact rfl
    try rw [if_pos bh1t] at hst
    apply T_r F
    · (simp only [go_sem, Try.ntmps29, hz, oV, bh0t, h0t, hkb, rL_get h0t, ho, hst, hst]) <;> exact rfl
    apply K_blk
    apply K_seq
    apply T_r F
    · (simp only [go_sem, Try.ntmps29, hz, oV, bh0t, h0t, hkb, rL_get h0t, ho, hst, hst]) <;> exact rfl
    refine K_lp (k + 1) ?_ ?_
    · (simp only [go_sem, Try.ntmps29, hz, oV, bh0t, h0t, hkb, rL_get h0t, ho, hst, hst]) <;> exact rfl
    -- leaf 0 (loop0)
    omega
  · skip
    rw [ho] at hst
    obtain ⟨hqm, rfl⟩ := M.fK_some ho
    simp only [M.pick] at hst
    have hql : q.length = t.houses.length := (M.plan_iff.1 (M.mem_plans.1 hqm).1).1
    obtain ⟨x, l, rfl⟩ : ∃ x l, q = x :: l := List.exists_cons_of_ne_nil (fun e => by rw [e] at hql; simp at hql; omega)
    apply T_qL F [0, 1, 2, 3, 4, 5, 6, 7, 8, 9, 10] rfl (by kernel_rfl)
    apply Q_pre [0, 1, 2, 3] [4, 5, 6, 7, 8, 9, 10]
    · (simp only [go_sem, Try.ntmps29, hz, oV, bh0t, h0t, hkb, rL_get h0t, ho, rI_cons]) <;> exact rfl
    apply Q_pre [4, 5, 6, 7, 8] [9, 10]
    · (simp only [go_sem, Try.ntmps29, hz, oV, bh0t, h0t, hkb, rL_get h0t, ho, rI_cons]) <;> exact rfl
    apply Q_call -- call 1 of function 60
    · (simp only [go_sem, Try.ntmps29, hz, oV, bh0t, h0t, hkb, rL_get h0t, ho, rI_cons]) <;> exact rfl
    · (simp only [go_sem, Try.ntmps29, hz, oV, bh0t, h0t, hkb, rL_get h0t, ho, rI_cons]) <;> exact rfl
    · exact rfl
    · (simp only [go_sem, Try.ntmps29, hz, oV, bh0t, h0t, hkb, rL_get h0t, ho, rI_cons]) <;> exact rfl
    · (simp only [go_sem, Try.ntmps29, hz, oV, bh0t, h0t, hkb, rL_get h0t, ho, rI_cons]) <;> exact rfl
    · exact ⟨_, Try.func60, rfl, rfl⟩
    · (simp only [go_sem, Try.ntmps29, hz, oV, bh0t, h0t, hkb, rL_get h0t, ho, rI_cons]) <;> exact rfl
    · exact ref_fairer t _ (x :: l) ok (by omega) hql
    apply Q_run
    · (simp only [go_sem, Try.ntmps29, hz, oV, bh0t, h0t, hkb, rL_get h0t, ho, rI_cons]) <;> exact rfl
    apply Q_nil
    apply K_seq
    apply T_if
    · (simp only [go_sem, Try.ntmps29, hz, oV, bh0t, h0t, hkb, rL_get h0t, ho, rI_cons]) <;> exact rfl
    · intro bh1t
      have h1t := bh1t
      try simp only [CS] at h1t
      try simp only [BS] at bh1t
      try exact absurd bh1t (by decide)
      all_goals (
  try rw [if_pos bh1t] at hst
  apply T_r F
  · (simp only [go_sem, Try.ntmps29, hz, oV, bh0t, h0t, hkb, rL_get h0t, ho, rI_cons, bh1t, hst]) <;> exact rfl
  apply K_blk
  apply K_seq
  apply T_r F
  · (simp only [go_sem, Try.ntmps29, hz, oV, bh0t, h0t, hkb, rL_get h0t, ho, rI_cons, bh1t, hst]) <;> exact rfl
  refine K_lp (k + 1) ?_ ?_
  · (simp only [go_sem, Try.ntmps29, hz, oV, bh0t, h0t, hkb, rL_get h0t, ho, rI_cons, bh1t, hst]) <;> exact rfl
  -- leaf 1 (loop0)
  omega)
    · intro bh1f
      have h1f := bh1f
      try simp only [CS] at h1f
      try simp only [BS] at bh1f
      try exact absurd bh1f (by decide)
      all_goals (
  rw [if_neg (by simp [bh1f])] at hst
  apply T_skip
  apply K_blk
  apply K_seq
  apply T_r F
  · (simp only [go_sem, Try.ntmps29, hz, oV, bh0t, h0t, hkb, rL_get h0t, ho, rI_cons, bh1f, hst]) <;> exact rfl
  refine K_lp (k + 1) ?_ ?_
  · (simp only [go_sem, Try.ntmps29, hz, oV, bh0t, h0t, hkb, rL_get h0t, ho, rI_cons, bh1f, hst]) <;> exact rfl
  -- leaf 2 (loop0)
  omega))
    · intro bh0f
      have h0f := bh0f
      try simp only [CS] at h0f
      try simp only [BS] at bh0f
      try exact absurd bh0f (by decide)
      all_goals (
  have hfa := M.fK_all (t := t) (k := k) (by omega)
  apply T_exit
  apply K_seqE
  apply K_lpE
  apply K_blkE
  apply K_seq
  apply T_seq
  rcases hfo : M.fO t with _ | ⟨q, m⟩
  · skip
    apply T_r F
    · (simp only [go_sem, Try.ntmps29, hz, oV, bh0f, hfa, hfo]) <;> exact rfl
    apply K_seq
    apply T_ret
    apply fin_ret
    · (simp only [go_sem, Try.ntmps29, hz, oV, bh0f, hfa, hfo, Try.f29]) <;> exact rfl
    -- leaf 3 (ret)
    simp only [go_sem, Try.ntmps29, hz, oV, bh0f, hfa, hfo, V.bool.injEq, V.int.injEq, true_and]
    all_goals rfl
  · skip
    apply T_r F
    · (simp only [go_sem, Try.ntmps29, hz, oV, bh0f, hfa, hfo]) <;> exact rfl
    apply K_seq
    apply T_ret
    apply fin_ret
    · (simp only [go_sem, Try.ntmps29, hz, oV, bh0f, hfa, hfo, Try.f29]) <;> exact rfl
    -- leaf 4 (ret)
    simp only [go_sem, Try.ntmps29, hz, oV, bh0f, hfa, hfo, V.bool.injEq, V.int.injEq, true_and]
    all_goals rfl)

theorem ref_best (t : Town) (ok : M.Ok t) : Ret Try.prog 28 [.agg (cT t)] (match M.bO t with | some (q, _) => .tup [.sl 1 (rI q), .bool true] | none => .tup [.nil, .bool false]) := by
  have h6 := M.houses_le ok
  have hps := M.plans_small ok
  apply Ret_fin (fn := Try.f28) Try.func28 rfl
  apply T_seq
  apply T_r F
  · (simp only [go_sem, Try.ntmps28]) <;> exact rfl
  apply K_seq
  apply T_seq
  apply T_wL F [0, 1, 2] rfl
  apply W_pre [0] [1, 2]
  · (simp only [go_sem, Try.ntmps28]) <;> exact rfl
  apply W_call -- call 0 of function 53
  · (simp only [go_sem, Try.ntmps28]) <;> exact rfl
  · (simp only [go_sem, Try.ntmps28]) <;> exact rfl
  · exact rfl
  · (simp only [go_sem, Try.ntmps28]) <;> exact rfl
  · (simp only [go_sem, Try.ntmps28]) <;> exact rfl
  · exact ⟨_, Try.func53, rfl, rfl⟩
  · (simp only [go_sem, Try.ntmps28]) <;> exact rfl
  · (simp only [go_sem, Try.ntmps28]) <;> exact rfl
  · exact ref_plans _ ok
  apply W_run
  · (simp only [go_sem, Try.ntmps28]) <;> exact rfl
  apply W_nil
  apply K_seq
  apply T_seq
  apply T_seq
  apply T_r F
  · (simp only [go_sem, Try.ntmps28]) <;> exact rfl
  apply K_seq
  apply T_block
  apply T_lp (α := Nat) [false, true, false, false, true, true, false, false, false, false, false, false, false, false, false, false, false, false, false, false, false, false, false, false, false, false, false, false, false, false, false, false, false, false, false, false, false, false, false, false, false, false, false, false, false, false, false, false, false, false, false, false, false, false, false, false] (fun i => (⟨[.undef, .ptr 0 0, .undef, .undef, .sl 1 (rL (M.plans t)), .int .i64 (i : Int), .undef, .undef, .undef, .undef, .undef, .undef, .undef, .undef, .undef, .undef, .undef, .undef, .undef, .undef, .undef, .undef, .undef, .undef, .undef, .undef, .undef, .undef, .undef, .undef, .undef, .undef, .undef, .undef, .undef, .undef, .undef, .undef, .undef, .undef, .undef, .undef, .undef, .undef, .undef, .undef, .undef, .undef, .undef, .undef, .undef, .undef, .undef, .undef, .undef, .undef], [.box 28 (cT t)]⟩ : St)) (fun i => i ≤ (M.plans t).length ∧ ∀ j, j < i → ∃ k, k < (M.plans t).length ∧ M.Beats t j k) (fun i => (M.plans t).length - i) (0)
  · (simp only [go_sem, Try.ntmps28]) <;> exact rfl
  · exact ⟨Nat.zero_le _, fun j hj => absurd hj (Nat.not_lt_zero j)⟩
  · rintro i ⟨hi, hij⟩
    apply T_seq
    apply T_seq
    apply T_r F
    · (simp only [go_sem, Try.ntmps28]) <;> exact rfl
    apply K_seq
    apply T_if
    · (simp only [go_sem, Try.ntmps28]) <;> exact rfl
    · intro bh0t
      have h0t := bh0t
      try simp only [CS] at h0t
      try simp only [BS] at bh0t
      try exact absurd bh0t (by decide)
      all_goals (
  have hib : i < 9223372036854775807 := by omega
  have hpg := M.plan_get h0t
  have hpl := hpg.2.2
  have hli := M.ranks_length t (M.plans t)[i]
  apply T_skip
  apply K_seq
  apply T_seq
  apply T_block
  apply T_seq
  apply T_r F
  · (simp only [go_sem, Try.ntmps28, bh0t, h0t, hib, rL_get h0t]) <;> exact rfl
  apply K_seq
  apply T_seq
  apply T_seq
  apply T_r F
  · (simp only [go_sem, Try.ntmps28, bh0t, h0t, hib, rL_get h0t]) <;> exact rfl
  apply K_seq
  apply T_block
  apply T_lp (α := Nat) [false, true, false, false, true, true, true, true, false, false, false, false, false, false, false, false, false, false, false, false, false, false, false, false, false, false, false, false, false, false, false, false, false, false, false, false, false, false, false, false, false, false, false, false, false, false, false, false, false, false, false, false, false, false, false, false] (fun k => (⟨[.undef, .ptr 0 0, .undef, .undef, .sl 1 (rL (M.plans t)), .int .i64 (i : Int), .bool true, .int .i64 (k : Int), .undef, .undef, .undef, .undef, .undef, .undef, .undef, .undef, .undef, .undef, .undef, .undef, .undef, .undef, .undef, .undef, .undef, .undef, .undef, .undef, .undef, .undef, .undef, .undef, .undef, .undef, .undef, .undef, .undef, .undef, .undef, .undef, .undef, .undef, .undef, .undef, .undef, .undef, .undef, .undef, .undef, .undef, .undef, .undef, .undef, .undef, .undef, .undef], [.box 28 (cT t)]⟩ : St)) (fun k => k ≤ (M.plans t).length ∧ ∀ j, j < k → ¬ M.Beats t i j) (fun k => (M.plans t).length - k) (0)
  · (simp only [go_sem, Try.ntmps28, bh0t, h0t, hib, rL_get h0t]) <;> exact rfl
  · exact ⟨Nat.zero_le _, fun j hj => absurd hj (Nat.not_lt_zero j)⟩
  · rintro k ⟨hk, hkj⟩
    apply T_seq
    apply T_seq
    apply T_r F
    · (simp only [go_sem, Try.ntmps28, bh0t, h0t, hib, rL_get h0t]) <;> exact rfl
    apply K_seq
    apply T_if
    · (simp only [go_sem, Try.ntmps28, bh0t, h0t, hib, rL_get h0t]) <;> exact rfl
    · intro bh1t
      have h1t := bh1t
      try simp only [CS] at h1t
      try simp only [BS] at bh1t
      try exact absurd bh1t (by decide)
      all_goals (
  have hkb : k < 9223372036854775807 := by omega
  have hpk := M.plan_get h1t
  have hpl2 := hpk.2.2
  have hlk := M.ranks_length t (M.plans t)[k]
  have hB := M.Beats.eq_1 t i k
  rw [M.at2_get h0t, M.at2_get h1t] at hB
  apply T_skip
  apply K_seq
  apply T_seq
  apply T_block
  apply T_seq
  apply T_qL F [0, 1, 2, 3, 4, 5, 6, 7, 8, 9, 10, 11, 12, 13, 14, 15] rfl (by kernel_rfl)
  apply Q_pre [0, 1, 2, 3, 4] [5, 6, 7, 8, 9, 10, 11, 12, 13, 14, 15]
  · (simp only [go_sem, Try.ntmps28, bh0t, h0t, hib, rL_get h0t, bh1t, h1t, hkb, rL_get h1t]) <;> exact rfl
  apply Q_call -- call 1 of function 31
  · (simp only [go_sem, Try.ntmps28, bh0t, h0t, hib, rL_get h0t, bh1t, h1t, hkb, rL_get h1t]) <;> exact rfl
  · (simp only [go_sem, Try.ntmps28, bh0t, h0t, hib, rL_get h0t, bh1t, h1t, hkb, rL_get h1t]) <;> exact rfl
  · exact rfl
  · (simp only [go_sem, Try.ntmps28, bh0t, h0t, hib, rL_get h0t, bh1t, h1t, hkb, rL_get h1t]) <;> exact rfl
  · (simp only [go_sem, Try.ntmps28, bh0t, h0t, hib, rL_get h0t, bh1t, h1t, hkb, rL_get h1t]) <;> exact rfl
  · exact ⟨_, Try.func31, rfl, rfl⟩
  · (simp only [go_sem, Try.ntmps28, bh0t, h0t, hib, rL_get h0t, bh1t, h1t, hkb, rL_get h1t]) <;> exact rfl
  · exact ref_ranks _ _ (by omega) (by omega)
  apply Q_call -- call 2 of function 30
  · (simp only [go_sem, Try.ntmps28, bh0t, h0t, hib, rL_get h0t, bh1t, h1t, hkb, rL_get h1t]) <;> exact rfl
  · (simp only [go_sem, Try.ntmps28, bh0t, h0t, hib, rL_get h0t, bh1t, h1t, hkb, rL_get h1t]) <;> exact rfl
  · exact rfl
  · (simp only [go_sem, Try.ntmps28, bh0t, h0t, hib, rL_get h0t, bh1t, h1t, hkb, rL_get h1t]) <;> exact rfl
  · (simp only [go_sem, Try.ntmps28, bh0t, h0t, hib, rL_get h0t, bh1t, h1t, hkb, rL_get h1t]) <;> exact rfl
  · exact ⟨_, Try.func30, rfl, rfl⟩
  · (simp only [go_sem, Try.ntmps28, bh0t, h0t, hib, rL_get h0t, bh1t, h1t, hkb, rL_get h1t]) <;> exact rfl
  · exact ref_sum _ (M.ranks_wide ok) (by omega)
  apply Q_pre [7, 8, 9, 10, 11] [12, 13, 14, 15]
  · (simp only [go_sem, Try.ntmps28, bh0t, h0t, hib, rL_get h0t, bh1t, h1t, hkb, rL_get h1t]) <;> exact rfl
  apply Q_call -- call 3 of function 31
  · (simp only [go_sem, Try.ntmps28, bh0t, h0t, hib, rL_get h0t, bh1t, h1t, hkb, rL_get h1t]) <;> exact rfl
  · (simp only [go_sem, Try.ntmps28, bh0t, h0t, hib, rL_get h0t, bh1t, h1t, hkb, rL_get h1t]) <;> exact rfl
  · exact rfl
  · (simp only [go_sem, Try.ntmps28, bh0t, h0t, hib, rL_get h0t, bh1t, h1t, hkb, rL_get h1t]) <;> exact rfl
  · (simp only [go_sem, Try.ntmps28, bh0t, h0t, hib, rL_get h0t, bh1t, h1t, hkb, rL_get h1t]) <;> exact rfl
  · exact ⟨_, Try.func31, rfl, rfl⟩
  · (simp only [go_sem, Try.ntmps28, bh0t, h0t, hib, rL_get h0t, bh1t, h1t, hkb, rL_get h1t]) <;> exact rfl
  · exact ref_ranks _ _ (by omega) (by omega)
  apply Q_call -- call 4 of function 30
  · (simp only [go_sem, Try.ntmps28, bh0t, h0t, hib, rL_get h0t, bh1t, h1t, hkb, rL_get h1t]) <;> exact rfl
  · (simp only [go_sem, Try.ntmps28, bh0t, h0t, hib, rL_get h0t, bh1t, h1t, hkb, rL_get h1t]) <;> exact rfl
  · exact rfl
  · (simp only [go_sem, Try.ntmps28, bh0t, h0t, hib, rL_get h0t, bh1t, h1t, hkb, rL_get h1t]) <;> exact rfl
  · (simp only [go_sem, Try.ntmps28, bh0t, h0t, hib, rL_get h0t, bh1t, h1t, hkb, rL_get h1t]) <;> exact rfl
  · exact ⟨_, Try.func30, rfl, rfl⟩
  · (simp only [go_sem, Try.ntmps28, bh0t, h0t, hib, rL_get h0t, bh1t, h1t, hkb, rL_get h1t]) <;> exact rfl
  · exact ref_sum _ (M.ranks_wide ok) (by omega)
  apply Q_run
  · (simp only [go_sem, Try.ntmps28, bh0t, h0t, hib, rL_get h0t, bh1t, h1t, hkb, rL_get h1t]) <;> exact rfl
  apply Q_nil
  apply K_seq
  apply T_seq
  apply T_wL F [0, 1, 2, 3, 4, 5, 6, 7, 8, 9, 10, 11, 12] rfl
  apply W_pre [0, 1, 2, 3] [4, 5, 6, 7, 8, 9, 10, 11, 12]
  · (simp only [go_sem, Try.ntmps28, bh0t, h0t, hib, rL_get h0t, bh1t, h1t, hkb, rL_get h1t]) <;> exact rfl
  apply W_guard
  · (simp only [go_sem, Try.ntmps28, bh0t, h0t, hib, rL_get h0t, bh1t, h1t, hkb, rL_get h1t]) <;> exact rfl
  · (simp only [go_sem, Try.ntmps28, bh0t, h0t, hib, rL_get h0t, bh1t, h1t, hkb, rL_get h1t]) <;> exact rfl
  · intro bg0t
    have g0t := bg0t
    try simp only [CS] at g0t
    try simp only [BS] at bg0t
    try exact absurd bg0t (by decide)
    all_goals (
  apply W_pre [4, 5, 6, 7] [8, 9, 10, 11, 12]
  · (simp only [go_sem, Try.ntmps28, bh0t, h0t, hib, rL_get h0t, bh1t, h1t, hkb, rL_get h1t, bg0t]) <;> exact rfl
  apply W_guard
  · (simp only [go_sem, Try.ntmps28, bh0t, h0t, hib, rL_get h0t, bh1t, h1t, hkb, rL_get h1t, bg0t]) <;> exact rfl
  · (simp only [go_sem, Try.ntmps28, bh0t, h0t, hib, rL_get h0t, bh1t, h1t, hkb, rL_get h1t, bg0t]) <;> exact rfl
  · intro bg1t
    have g1t := bg1t
    try simp only [CS] at g1t
    try simp only [BS] at bg1t
    try exact absurd bg1t (by decide)
    all_goals (
  apply W_run
  · (simp only [go_sem, Try.ntmps28, bh0t, h0t, hib, rL_get h0t, bh1t, h1t, hkb, rL_get h1t, bg0t, bg1t]) <;> exact rfl
  apply W_nil
  apply K_seq
  apply T_if
  · (simp only [go_sem, Try.ntmps28, bh0t, h0t, hib, rL_get h0t, bh1t, h1t, hkb, rL_get h1t, bg0t, bg1t]) <;> exact rfl
  · intro bh2t
    have h2t := bh2t
    try simp only [CS] at h2t
    try simp only [BS] at bh2t
    try exact absurd bh2t (by decide)
    all_goals (
  apply T_seq
  apply T_r F
  · (simp only [go_sem, Try.ntmps28, bh0t, h0t, hib, rL_get h0t, bh1t, h1t, hkb, rL_get h1t, bg0t, bg1t, bh2t]) <;> exact rfl
  apply K_seq
  apply T_exit
  apply K_blkX rfl
  apply K_seqE
  apply K_lpE
  apply K_blkE
  apply K_seq
  apply T_seq
  apply T_r F
  · (simp only [go_sem, Try.ntmps28, bh0t, h0t, hib, rL_get h0t, bh1t, h1t, hkb, rL_get h1t, bg0t, bg1t, bh2t]) <;> exact rfl
  apply K_seq
  apply T_if
  · (simp only [go_sem, Try.ntmps28, bh0t, h0t, hib, rL_get h0t, bh1t, h1t, hkb, rL_get h1t, bg0t, bg1t, bh2t]) <;> exact rfl
  · intro bh3t
    exact absurd bh3t (by simp)
  · intro bh3f
    have h3f := bh3f
    try simp only [CS] at h3f
    try simp only [BS] at bh3f
    try exact absurd bh3f (by decide)
    all_goals (
  apply T_skip
  apply K_blk
  apply K_seq
  apply T_r F
  · (simp only [go_sem, Try.ntmps28, bh0t, h0t, hib, rL_get h0t, bh1t, h1t, hkb, rL_get h1t, bg0t, bg1t, bh2t, bh3f]) <;> exact rfl
  refine K_lp (i + 1) ?_ ?_
  · (simp only [go_sem, Try.ntmps28, bh0t, h0t, hib, rL_get h0t, bh1t, h1t, hkb, rL_get h1t, bg0t, bg1t, bh2t, bh3f]) <;> exact rfl
  -- leaf 0 (loop0)
  refine ⟨⟨by omega, fun j hj => ?_⟩, by omega⟩
  rcases Nat.lt_or_ge j i with h | h
  · exact hij j h
  · have e : j = i := by omega
    rw [e]
    exact ⟨k, h1t, by rw [hB]; exact .inr ⟨g1t, h2t⟩⟩))
  · intro bh2f
    have h2f := bh2f
    try simp only [CS] at h2f
    try simp only [BS] at bh2f
    try exact absurd bh2f (by decide)
    all_goals (
  apply T_skip
  apply K_blk
  apply K_seq
  apply T_r F
  · (simp only [go_sem, Try.ntmps28, bh0t, h0t, hib, rL_get h0t, bh1t, h1t, hkb, rL_get h1t, bg0t, bg1t, bh2f]) <;> exact rfl
  refine K_lp (k + 1) ?_ ?_
  · (simp only [go_sem, Try.ntmps28, bh0t, h0t, hib, rL_get h0t, bh1t, h1t, hkb, rL_get h1t, bg0t, bg1t, bh2f]) <;> exact rfl
  -- leaf 1 (loop1)
  grind))
  · intro bg1f
    have g1f := bg1f
    try simp only [CS] at g1f
    try simp only [BS] at bg1f
    try exact absurd bg1f (by decide)
    all_goals (
  apply W_run
  · (simp only [go_sem, Try.ntmps28, bh0t, h0t, hib, rL_get h0t, bh1t, h1t, hkb, rL_get h1t, bg0t, bg1f]) <;> exact rfl
  apply W_nil
  apply K_seq
  apply T_if
  · (simp only [go_sem, Try.ntmps28, bh0t, h0t, hib, rL_get h0t, bh1t, h1t, hkb, rL_get h1t, bg0t, bg1f]) <;> exact rfl
  · intro bh4t
    exact absurd bh4t (by simp)
  · intro bh4f
    have h4f := bh4f
    try simp only [CS] at h4f
    try simp only [BS] at bh4f
    try exact absurd bh4f (by decide)
    all_goals (
  apply T_skip
  apply K_blk
  apply K_seq
  apply T_r F
  · (simp only [go_sem, Try.ntmps28, bh0t, h0t, hib, rL_get h0t, bh1t, h1t, hkb, rL_get h1t, bg0t, bg1f, bh4f]) <;> exact rfl
  refine K_lp (k + 1) ?_ ?_
  · (simp only [go_sem, Try.ntmps28, bh0t, h0t, hib, rL_get h0t, bh1t, h1t, hkb, rL_get h1t, bg0t, bg1f, bh4f]) <;> exact rfl
  -- leaf 2 (loop1)
  grind)))
  · intro bg0f
    have g0f := bg0f
    try simp only [CS] at g0f
    try simp only [BS] at bg0f
    try exact absurd bg0f (by decide)
    all_goals (
  apply W_pre [4, 5, 6, 7] [8, 9, 10, 11, 12]
  · (simp only [go_sem, Try.ntmps28, bh0t, h0t, hib, rL_get h0t, bh1t, h1t, hkb, rL_get h1t, bg0f]) <;> exact rfl
  apply W_run
  · (simp only [go_sem, Try.ntmps28, bh0t, h0t, hib, rL_get h0t, bh1t, h1t, hkb, rL_get h1t, bg0f]) <;> exact rfl
  apply W_nil
  apply K_seq
  apply T_if
  · (simp only [go_sem, Try.ntmps28, bh0t, h0t, hib, rL_get h0t, bh1t, h1t, hkb, rL_get h1t, bg0f]) <;> exact rfl
  · intro bh5t
    have h5t := bh5t
    try simp only [CS] at h5t
    try simp only [BS] at bh5t
    try exact absurd bh5t (by decide)
    all_goals (
  apply T_seq
  apply T_r F
  · (simp only [go_sem, Try.ntmps28, bh0t, h0t, hib, rL_get h0t, bh1t, h1t, hkb, rL_get h1t, bg0f, bh5t]) <;> exact rfl
  apply K_seq
  apply T_exit
  apply K_blkX rfl
  apply K_seqE
  apply K_lpE
  apply K_blkE
  apply K_seq
  apply T_seq
  apply T_r F
  · (simp only [go_sem, Try.ntmps28, bh0t, h0t, hib, rL_get h0t, bh1t, h1t, hkb, rL_get h1t, bg0f, bh5t]) <;> exact rfl
  apply K_seq
  apply T_if
  · (simp only [go_sem, Try.ntmps28, bh0t, h0t, hib, rL_get h0t, bh1t, h1t, hkb, rL_get h1t, bg0f, bh5t]) <;> exact rfl
  · intro bh6t
    exact absurd bh6t (by simp)
  · intro bh6f
    have h6f := bh6f
    try simp only [CS] at h6f
    try simp only [BS] at bh6f
    try exact absurd bh6f (by decide)
    all_goals (
  apply T_skip
  apply K_blk
  apply K_seq
  apply T_r F
  · (simp only [go_sem, Try.ntmps28, bh0t, h0t, hib, rL_get h0t, bh1t, h1t, hkb, rL_get h1t, bg0f, bh5t, bh6f]) <;> exact rfl
  refine K_lp (i + 1) ?_ ?_
  · (simp only [go_sem, Try.ntmps28, bh0t, h0t, hib, rL_get h0t, bh1t, h1t, hkb, rL_get h1t, bg0f, bh5t, bh6f]) <;> exact rfl
  -- leaf 3 (loop0)
  refine ⟨⟨by omega, fun j hj => ?_⟩, by omega⟩
  rcases Nat.lt_or_ge j i with h | h
  · exact hij j h
  · have e : j = i := by omega
    rw [e]
    exact ⟨k, h1t, by rw [hB]; exact .inl g0f⟩))
  · intro bh5f
    exact absurd bh5f (by simp)))
    · intro bh1f
      have h1f := bh1f
      try simp only [CS] at h1f
      try simp only [BS] at bh1f
      try exact absurd bh1f (by decide)
      all_goals (
  apply T_exit
  apply K_seqE
  apply K_lpE
  apply K_blkE
  apply K_seq
  apply T_seq
  apply T_r F
  · (simp only [go_sem, Try.ntmps28, bh0t, h0t, hib, rL_get h0t, bh1f]) <;> exact rfl
  apply K_seq
  apply T_if
  · (simp only [go_sem, Try.ntmps28, bh0t, h0t, hib, rL_get h0t, bh1f]) <;> exact rfl
  · intro bh7t
    have h7t := bh7t
    try simp only [CS] at h7t
    try simp only [BS] at bh7t
    try exact absurd bh7t (by decide)
    all_goals (
  apply T_seq
  apply T_r F
  · (simp only [go_sem, Try.ntmps28, bh0t, h0t, hib, rL_get h0t, bh1f, bh7t]) <;> exact rfl
  apply K_seq
  apply T_ret
  apply K_blkR
  apply K_seqR
  apply K_lpR
  apply K_blkR
  apply K_seqR
  apply fin_ret
  · (simp only [go_sem, Try.ntmps28, bh0t, h0t, hib, rL_get h0t, bh1f, bh7t, Try.f28]) <;> exact rfl
  -- leaf 4 (ret)
  
  have hx := M.first_best h0t (fun k1 hk1 => hkj k1 (by omega))
  rw [hx]
  simp only [go_sem, Try.ntmps28, bh0t, h0t, hib, rL_get h0t, bh1f, bh7t])
  · intro bh7f
    have h7f := bh7f
    try simp only [CS] at h7f
    try simp only [BS] at bh7f
    try exact absurd bh7f (by decide)
    all_goals (
  apply T_skip
  apply K_blk
  apply K_seq
  apply T_r F
  · (simp only [go_sem, Try.ntmps28, bh0t, h0t, hib, rL_get h0t, bh1f, bh7f]) <;> exact rfl
  refine K_lp (i + 1) ?_ ?_
  · (simp only [go_sem, Try.ntmps28, bh0t, h0t, hib, rL_get h0t, bh1f, bh7f]) <;> exact rfl
  -- leaf 5 (loop0)
  grind)))
    · intro bh0f
      have h0f := bh0f
      try simp only [CS] at h0f
      try simp only [BS] at bh0f
      try exact absurd bh0f (by decide)
      all_goals (
  apply T_exit
  apply K_seqE
  apply K_lpE
  apply K_blkE
  apply K_seq
  apply T_seq
  apply T_r F
  · (simp only [go_sem, Try.ntmps28, bh0f]) <;> exact rfl
  apply K_seq
  apply T_ret
  apply fin_ret
  · (simp only [go_sem, Try.ntmps28, bh0f, Try.f28]) <;> exact rfl
  -- leaf 6 (ret)
  
  have hn : M.plans t = [] := by
    rcases Classical.em (M.plans t = []) with h | h
    · exact h
    · obtain ⟨i1, h1, h2⟩ := M.some_first h
      obtain ⟨k1, h3, h4⟩ := hij i1 (by omega)
      exact absurd h4 (h2 k1 h3)
  have hx : M.bO t = none := by unfold M.bO; rw [hn]; rfl
  rw [hx]
  rfl)


/-- With the document's search. -/
theorem ref_exchS {t : Town} {p q : List Int} (ok : M.Ok t) (hp : p.length = t.houses.length) (h : M.exch t p = some q) : Ret Try.prog 22 [.agg (cT t), .sl 1 (rI p)] (.tup [.sl 1 (rI q), .bool true]) := by
  have := ref_exch t p ok hp
  rw [h] at this; exact this
theorem ref_exchN {t : Town} {p : List Int} (ok : M.Ok t) (hp : p.length = t.houses.length) (h : M.exch t p = none) : Ret Try.prog 22 [.agg (cT t), .sl 1 (rI p)] (.tup [.nil, .bool false]) := by
  have := ref_exch t p ok hp
  rw [h] at this; exact this
theorem ref_bestS {t : Town} {q : List Int} {m : Int × Int} (ok : M.Ok t) (h : M.bO t = some (q, m)) : Ret Try.prog 28 [.agg (cT t)] (.tup [.sl 1 (rI q), .bool true]) := by
  have := ref_best t ok
  rw [h] at this; exact this
theorem ref_bestN {t : Town} (ok : M.Ok t) (h : M.bO t = none) : Ret Try.prog 28 [.agg (cT t)] (.tup [.nil, .bool false]) := by
  have := ref_best t ok
  rw [h] at this; exact this
end Go.Ab
namespace Go.Ab
open Go Go.RowKit Go.Proofs Fac
set_option linter.unusedVariables false
set_option linter.unusedSimpArgs false
set_option maxRecDepth 4000
set_option maxHeartbeats 1000000





theorem law_bestsA (t : Town) (hs : ¬ M.Small t) : Ret Try.prog 6 [.agg (cT t)] (.bool true) := by
  apply Ret_fin (fn := Try.f6) Try.func6 rfl
  apply T_seq
  apply T_r F
  · (simp only [go_sem, Try.ntmps6, hs]) <;> exact rfl
  apply K_seq
  apply T_seq
  apply T_seq
  apply T_wL F [0, 1, 2] rfl
  apply W_pre [0] [1, 2]
  · (simp only [go_sem, Try.ntmps6, hs]) <;> exact rfl
  apply W_call -- call 0 of function 19
  · (simp only [go_sem, Try.ntmps6, hs]) <;> exact rfl
  · (simp only [go_sem, Try.ntmps6, hs]) <;> exact rfl
  · exact rfl
  · (simp only [go_sem, Try.ntmps6, hs]) <;> exact rfl
  · (simp only [go_sem, Try.ntmps6, hs]) <;> exact rfl
  · exact ⟨_, Try.func19, rfl, rfl⟩
  · (simp only [go_sem, Try.ntmps6, hs]) <;> exact rfl
  · (simp only [go_sem, Try.ntmps6, hs]) <;> exact rfl
  · exact law_small _
  apply W_run
  · (simp only [go_sem, Try.ntmps6, hs]) <;> exact rfl
  apply W_nil
  apply K_seq
  apply T_ifT -- h0
  · (simp only [go_sem, Try.ntmps6, hs]) <;> exact rfl
  apply T_seq
  apply T_wL F [0, 1] rfl
  apply W_call -- call 1 of function 16
  · (simp only [go_sem, Try.ntmps6, hs]) <;> exact rfl
  · (simp only [go_sem, Try.ntmps6, hs]) <;> exact rfl
  · exact rfl
  · (simp only [go_sem, Try.ntmps6, hs]) <;> exact rfl
  · (simp only [go_sem, Try.ntmps6, hs]) <;> exact rfl
  · exact ⟨_, Try.func16, rfl, rfl⟩
  · (simp only [go_sem, Try.ntmps6, hs]) <;> exact rfl
  · (simp only [go_sem, Try.ntmps6, hs]) <;> exact rfl
  · exact known_ok
  apply W_run
  · (simp only [go_sem, Try.ntmps6, hs]) <;> exact rfl
  apply W_nil
  apply K_seq
  apply T_ret
  apply K_seqR
  apply fin_ret
  · (simp only [go_sem, Try.ntmps6, hs, Try.f6]) <;> exact rfl
  -- leaf 0 (ret)
  
  all_goals rfl

theorem law_bestsB (t : Town) (hs : M.Small t) (ok : ¬ M.Ok t) : Ret Try.prog 6 [.agg (cT t)] (.bool true) := by
  have hh : t.houses.length ≤ 1000 := by have := hs.1.2.2.2.2.2.1; omega
  have hw0 : IntKind.i64.wrap (0 + 0) = 0 := by decide
  apply Ret_fin (fn := Try.f6) Try.func6 rfl
  apply T_seq
  apply T_r F
  · (simp only [go_sem, Try.ntmps6, hs, ok, hw0]) <;> exact rfl
  apply K_seq
  apply T_seq
  apply T_seq
  apply T_wL F [0, 1, 2] rfl
  apply W_pre [0] [1, 2]
  · (simp only [go_sem, Try.ntmps6, hs, ok, hw0]) <;> exact rfl
  apply W_call -- call 0 of function 19
  · (simp only [go_sem, Try.ntmps6, hs, ok, hw0]) <;> exact rfl
  · (simp only [go_sem, Try.ntmps6, hs, ok, hw0]) <;> exact rfl
  · exact rfl
  · (simp only [go_sem, Try.ntmps6, hs, ok, hw0]) <;> exact rfl
  · (simp only [go_sem, Try.ntmps6, hs, ok, hw0]) <;> exact rfl
  · exact ⟨_, Try.func19, rfl, rfl⟩
  · (simp only [go_sem, Try.ntmps6, hs, ok, hw0]) <;> exact rfl
  · (simp only [go_sem, Try.ntmps6, hs, ok, hw0]) <;> exact rfl
  · exact law_small _
  apply W_run
  · (simp only [go_sem, Try.ntmps6, hs, ok, hw0]) <;> exact rfl
  apply W_nil
  apply K_seq
  apply T_ifF -- h0
  · (simp only [go_sem, Try.ntmps6, hs, ok, hw0]) <;> exact rfl
  apply T_skip
  apply K_seq
  apply T_seq
  apply T_wL F [0, 1, 2, 3, 4, 5, 6, 7, 8] rfl
  apply W_pre [0] [1, 2, 3, 4, 5, 6, 7, 8]
  · (simp only [go_sem, Try.ntmps6, hs, ok, hw0]) <;> exact rfl
  apply W_call -- call 1 of function 26
  · (simp only [go_sem, Try.ntmps6, hs, ok, hw0]) <;> exact rfl
  · (simp only [go_sem, Try.ntmps6, hs, ok, hw0]) <;> exact rfl
  · exact rfl
  · (simp only [go_sem, Try.ntmps6, hs, ok, hw0]) <;> exact rfl
  · (simp only [go_sem, Try.ntmps6, hs, ok, hw0]) <;> exact rfl
  · exact ⟨_, Try.func26, rfl, rfl⟩
  · (simp only [go_sem, Try.ntmps6, hs, ok, hw0]) <;> exact rfl
  · (simp only [go_sem, Try.ntmps6, hs, ok, hw0]) <;> exact rfl
  · exact mv_BestA t hh ok
  apply W_pre [2, 3, 4, 5] [6, 7, 8]
  · (simp only [go_sem, Try.ntmps6, hs, ok, hw0]) <;> exact rfl
  apply W_run
  · (simp only [go_sem, Try.ntmps6, hs, ok, hw0]) <;> exact rfl
  apply W_nil
  apply K_seq
  apply T_seq
  apply T_wL F [0, 1, 2, 3, 4, 5, 6, 7, 8] rfl
  apply W_pre [0] [1, 2, 3, 4, 5, 6, 7, 8]
  · (simp only [go_sem, Try.ntmps6, hs, ok, hw0]) <;> exact rfl
  apply W_call -- call 2 of function 27
  · (simp only [go_sem, Try.ntmps6, hs, ok, hw0]) <;> exact rfl
  · (simp only [go_sem, Try.ntmps6, hs, ok, hw0]) <;> exact rfl
  · exact rfl
  · (simp only [go_sem, Try.ntmps6, hs, ok, hw0]) <;> exact rfl
  · (simp only [go_sem, Try.ntmps6, hs, ok, hw0]) <;> exact rfl
  · exact ⟨_, Try.func27, rfl, rfl⟩
  · (simp only [go_sem, Try.ntmps6, hs, ok, hw0]) <;> exact rfl
  · (simp only [go_sem, Try.ntmps6, hs, ok, hw0]) <;> exact rfl
  · exact mv_FairestA t hh ok
  apply W_pre [2, 3, 4, 5] [6, 7, 8]
  · (simp only [go_sem, Try.ntmps6, hs, ok, hw0]) <;> exact rfl
  apply W_run
  · (simp only [go_sem, Try.ntmps6, hs, ok, hw0]) <;> exact rfl
  apply W_nil
  apply K_seq
  apply T_seq
  apply T_seq
  apply T_wL F [0, 1, 2] rfl
  apply W_pre [0] [1, 2]
  · (simp only [go_sem, Try.ntmps6, hs, ok, hw0]) <;> exact rfl
  apply W_call -- call 3 of function 13
  · (simp only [go_sem, Try.ntmps6, hs, ok, hw0]) <;> exact rfl
  · (simp only [go_sem, Try.ntmps6, hs, ok, hw0]) <;> exact rfl
  · exact rfl
  · (simp only [go_sem, Try.ntmps6, hs, ok, hw0]) <;> exact rfl
  · (simp only [go_sem, Try.ntmps6, hs, ok, hw0]) <;> exact rfl
  · exact ⟨_, Try.func13, rfl, rfl⟩
  · (simp only [go_sem, Try.ntmps6, hs, ok, hw0]) <;> exact rfl
  · (simp only [go_sem, Try.ntmps6, hs, ok, hw0]) <;> exact rfl
  · exact ref_town _
  apply W_run
  · (simp only [go_sem, Try.ntmps6, hs, ok, hw0]) <;> exact rfl
  apply W_nil
  apply K_seq
  apply T_ifT -- h1
  · (simp only [go_sem, Try.ntmps6, hs, ok, hw0]) <;> exact rfl
  apply T_seq
  apply T_wL F [0, 1, 2, 3, 4, 5, 6, 7, 8, 9, 10, 11, 12, 13, 14, 15, 16, 17, 18, 19, 20, 21, 22, 23, 24, 25] rfl
  apply W_pre [0, 1, 2, 3] [4, 5, 6, 7, 8, 9, 10, 11, 12, 13, 14, 15, 16, 17, 18, 19, 20, 21, 22, 23, 24, 25]
  · (simp only [go_sem, Try.ntmps6, hs, ok, hw0]) <;> exact rfl
  apply W_pre [4, 5, 6, 7] [8, 9, 10, 11, 12, 13, 14, 15, 16, 17, 18, 19, 20, 21, 22, 23, 24, 25]
  · (simp only [go_sem, Try.ntmps6, hs, ok, hw0]) <;> exact rfl
  apply W_pre [8, 9, 10, 11] [12, 13, 14, 15, 16, 17, 18, 19, 20, 21, 22, 23, 24, 25]
  · (simp only [go_sem, Try.ntmps6, hs, ok, hw0]) <;> exact rfl
  apply W_pre [12, 13, 14, 15] [16, 17, 18, 19, 20, 21, 22, 23, 24, 25]
  · (simp only [go_sem, Try.ntmps6, hs, ok, hw0]) <;> exact rfl
  apply W_pre [16, 17, 18, 19] [20, 21, 22, 23, 24, 25]
  · (simp only [go_sem, Try.ntmps6, hs, ok, hw0]) <;> exact rfl
  apply W_pre [20, 21, 22] [23, 24, 25]
  · (simp only [go_sem, Try.ntmps6, hs, ok, hw0]) <;> exact rfl
  apply W_call -- call 4 of function 16
  · (simp only [go_sem, Try.ntmps6, hs, ok, hw0]) <;> exact rfl
  · (simp only [go_sem, Try.ntmps6, hs, ok, hw0]) <;> exact rfl
  · exact rfl
  · (simp only [go_sem, Try.ntmps6, hs, ok, hw0]) <;> exact rfl
  · (simp only [go_sem, Try.ntmps6, hs, ok, hw0]) <;> exact rfl
  · exact ⟨_, Try.func16, rfl, rfl⟩
  · (simp only [go_sem, Try.ntmps6, hs, ok, hw0]) <;> exact rfl
  · (simp only [go_sem, Try.ntmps6, hs, ok, hw0]) <;> exact rfl
  · exact known_ok
  apply W_run
  · (simp only [go_sem, Try.ntmps6, hs, ok, hw0]) <;> exact rfl
  apply W_nil
  apply K_seq
  apply T_ret
  apply K_seqR
  apply fin_ret
  · (simp only [go_sem, Try.ntmps6, hs, ok, hw0, Try.f6]) <;> exact rfl
  -- leaf 0 (ret)
  
  all_goals rfl

theorem law_bestsC (t : Town) (hs : M.Small t) (ok : M.Ok t) (hn : M.plans t = []) : Ret Try.prog 6 [.agg (cT t)] (.bool true) := by
  have hh : t.houses.length ≤ 1000 := by have := hs.1.2.2.2.2.2.1; omega
  have hw0 : IntKind.i64.wrap (0 + 0) = 0 := by decide
  have hb : M.bO t = none := by unfold M.bO; rw [hn]; rfl
  apply Ret_fin (fn := Try.f6) Try.func6 rfl
  apply T_seq
  apply T_r F
  · (simp only [go_sem, Try.ntmps6, hs, ok, hw0]) <;> exact rfl
  apply K_seq
  apply T_seq
  apply T_seq
  apply T_wL F [0, 1, 2] rfl
  apply W_pre [0] [1, 2]
  · (simp only [go_sem, Try.ntmps6, hs, ok, hw0]) <;> exact rfl
  apply W_call -- call 0 of function 19
  · (simp only [go_sem, Try.ntmps6, hs, ok, hw0]) <;> exact rfl
  · (simp only [go_sem, Try.ntmps6, hs, ok, hw0]) <;> exact rfl
  · exact rfl
  · (simp only [go_sem, Try.ntmps6, hs, ok, hw0]) <;> exact rfl
  · (simp only [go_sem, Try.ntmps6, hs, ok, hw0]) <;> exact rfl
  · exact ⟨_, Try.func19, rfl, rfl⟩
  · (simp only [go_sem, Try.ntmps6, hs, ok, hw0]) <;> exact rfl
  · (simp only [go_sem, Try.ntmps6, hs, ok, hw0]) <;> exact rfl
  · exact law_small _
  apply W_run
  · (simp only [go_sem, Try.ntmps6, hs, ok, hw0]) <;> exact rfl
  apply W_nil
  apply K_seq
  apply T_ifF -- h0
  · (simp only [go_sem, Try.ntmps6, hs, ok, hw0]) <;> exact rfl
  apply T_skip
  apply K_seq
  apply T_seq
  apply T_wL F [0, 1, 2, 3, 4, 5, 6, 7, 8] rfl
  apply W_pre [0] [1, 2, 3, 4, 5, 6, 7, 8]
  · (simp only [go_sem, Try.ntmps6, hs, ok, hw0]) <;> exact rfl
  apply W_call -- call 1 of function 26
  · (simp only [go_sem, Try.ntmps6, hs, ok, hw0]) <;> exact rfl
  · (simp only [go_sem, Try.ntmps6, hs, ok, hw0]) <;> exact rfl
  · exact rfl
  · (simp only [go_sem, Try.ntmps6, hs, ok, hw0]) <;> exact rfl
  · (simp only [go_sem, Try.ntmps6, hs, ok, hw0]) <;> exact rfl
  · exact ⟨_, Try.func26, rfl, rfl⟩
  · (simp only [go_sem, Try.ntmps6, hs, ok, hw0]) <;> exact rfl
  · (simp only [go_sem, Try.ntmps6, hs, ok, hw0]) <;> exact rfl
  · exact mv_BestB t hh ok hb
  apply W_pre [2, 3, 4, 5] [6, 7, 8]
  · (simp only [go_sem, Try.ntmps6, hs, ok, hw0]) <;> exact rfl
  apply W_run
  · (simp only [go_sem, Try.ntmps6, hs, ok, hw0]) <;> exact rfl
  apply W_nil
  apply K_seq
  apply T_seq
  apply T_wL F [0, 1, 2, 3, 4, 5, 6, 7, 8] rfl
  apply W_pre [0] [1, 2, 3, 4, 5, 6, 7, 8]
  · (simp only [go_sem, Try.ntmps6, hs, ok, hw0]) <;> exact rfl
  apply W_call -- call 2 of function 27
  · (simp only [go_sem, Try.ntmps6, hs, ok, hw0]) <;> exact rfl
  · (simp only [go_sem, Try.ntmps6, hs, ok, hw0]) <;> exact rfl
  · exact rfl
  · (simp only [go_sem, Try.ntmps6, hs, ok, hw0]) <;> exact rfl
  · (simp only [go_sem, Try.ntmps6, hs, ok, hw0]) <;> exact rfl
  · exact ⟨_, Try.func27, rfl, rfl⟩
  · (simp only [go_sem, Try.ntmps6, hs, ok, hw0]) <;> exact rfl
  · (simp only [go_sem, Try.ntmps6, hs, ok, hw0]) <;> exact rfl
  · exact mv_FairestB t hh ok (by rw [hn]; rfl)
  apply W_pre [2, 3, 4, 5] [6, 7, 8]
  · (simp only [go_sem, Try.ntmps6, hs, ok, hw0]) <;> exact rfl
  apply W_run
  · (simp only [go_sem, Try.ntmps6, hs, ok, hw0]) <;> exact rfl
  apply W_nil
  apply K_seq
  apply T_seq
  apply T_seq
  apply T_wL F [0, 1, 2] rfl
  apply W_pre [0] [1, 2]
  · (simp only [go_sem, Try.ntmps6, hs, ok, hw0]) <;> exact rfl
  apply W_call -- call 3 of function 13
  · (simp only [go_sem, Try.ntmps6, hs, ok, hw0]) <;> exact rfl
  · (simp only [go_sem, Try.ntmps6, hs, ok, hw0]) <;> exact rfl
  · exact rfl
  · (simp only [go_sem, Try.ntmps6, hs, ok, hw0]) <;> exact rfl
  · (simp only [go_sem, Try.ntmps6, hs, ok, hw0]) <;> exact rfl
  · exact ⟨_, Try.func13, rfl, rfl⟩
  · (simp only [go_sem, Try.ntmps6, hs, ok, hw0]) <;> exact rfl
  · (simp only [go_sem, Try.ntmps6, hs, ok, hw0]) <;> exact rfl
  · exact ref_town _
  apply W_run
  · (simp only [go_sem, Try.ntmps6, hs, ok, hw0]) <;> exact rfl
  apply W_nil
  apply K_seq
  apply T_ifF -- h1
  · (simp only [go_sem, Try.ntmps6, hs, ok, hw0]) <;> exact rfl
  apply T_skip
  apply K_seq
  apply T_seq
  apply T_wL F [0, 1, 2, 3, 4, 5, 6] rfl
  apply W_pre [0] [1, 2, 3, 4, 5, 6]
  · (simp only [go_sem, Try.ntmps6, hs, ok, hw0]) <;> exact rfl
  apply W_call -- call 4 of function 28
  · (simp only [go_sem, Try.ntmps6, hs, ok, hw0]) <;> exact rfl
  · (simp only [go_sem, Try.ntmps6, hs, ok, hw0]) <;> exact rfl
  · exact rfl
  · (simp only [go_sem, Try.ntmps6, hs, ok, hw0]) <;> exact rfl
  · (simp only [go_sem, Try.ntmps6, hs, ok, hw0]) <;> exact rfl
  · exact ⟨_, Try.func28, rfl, rfl⟩
  · (simp only [go_sem, Try.ntmps6, hs, ok, hw0]) <;> exact rfl
  · (simp only [go_sem, Try.ntmps6, hs, ok, hw0]) <;> exact rfl
  · exact ref_bestN ok hb
  apply W_run
  · (simp only [go_sem, Try.ntmps6, hs, ok, hw0]) <;> exact rfl
  apply W_nil
  apply K_seq
  apply T_seq
  apply T_wL F [0, 1, 2, 3, 4, 5, 6] rfl
  apply W_pre [0] [1, 2, 3, 4, 5, 6]
  · (simp only [go_sem, Try.ntmps6, hs, ok, hw0]) <;> exact rfl
  apply W_call -- call 5 of function 29
  · (simp only [go_sem, Try.ntmps6, hs, ok, hw0]) <;> exact rfl
  · (simp only [go_sem, Try.ntmps6, hs, ok, hw0]) <;> exact rfl
  · exact rfl
  · (simp only [go_sem, Try.ntmps6, hs, ok, hw0]) <;> exact rfl
  · (simp only [go_sem, Try.ntmps6, hs, ok, hw0]) <;> exact rfl
  · exact ⟨_, Try.func29, rfl, rfl⟩
  · (simp only [go_sem, Try.ntmps6, hs, ok, hw0]) <;> exact rfl
  · (simp only [go_sem, Try.ntmps6, hs, ok, hw0]) <;> exact rfl
  · exact ref_fairest t ok
  apply W_run
  · (simp only [go_sem, Try.ntmps6, hs, ok, hw0]) <;> exact rfl
  apply W_nil
  apply K_seq
  apply T_seq
  apply T_seq
  apply T_r F
  · (simp only [go_sem, Try.ntmps6, hs, ok, hw0]) <;> exact rfl
  apply K_seq
  apply T_ifT -- h2
  · (simp only [go_sem, Try.ntmps6, hs, ok, hw0]) <;> exact rfl
  apply T_seq
  apply T_wL F [0, 1, 2, 3, 4, 5, 6, 7, 8, 9, 10, 11, 12, 13, 14, 15, 16, 17, 18, 19, 20, 21, 22, 23, 24, 25] rfl
  apply W_pre [0, 1, 2, 3] [4, 5, 6, 7, 8, 9, 10, 11, 12, 13, 14, 15, 16, 17, 18, 19, 20, 21, 22, 23, 24, 25]
  · (simp only [go_sem, Try.ntmps6, hs, ok, hw0]) <;> exact rfl
  apply W_pre [4, 5, 6, 7] [8, 9, 10, 11, 12, 13, 14, 15, 16, 17, 18, 19, 20, 21, 22, 23, 24, 25]
  · (simp only [go_sem, Try.ntmps6, hs, ok, hw0]) <;> exact rfl
  apply W_pre [8, 9, 10, 11] [12, 13, 14, 15, 16, 17, 18, 19, 20, 21, 22, 23, 24, 25]
  · (simp only [go_sem, Try.ntmps6, hs, ok, hw0]) <;> exact rfl
  apply W_pre [12, 13, 14, 15] [16, 17, 18, 19, 20, 21, 22, 23, 24, 25]
  · (simp only [go_sem, Try.ntmps6, hs, ok, hw0]) <;> exact rfl
  apply W_pre [16, 17, 18, 19] [20, 21, 22, 23, 24, 25]
  · (simp only [go_sem, Try.ntmps6, hs, ok, hw0]) <;> exact rfl
  apply W_pre [20, 21, 22] [23, 24, 25]
  · (simp only [go_sem, Try.ntmps6, hs, ok, hw0]) <;> exact rfl
  apply W_call -- call 6 of function 16
  · (simp only [go_sem, Try.ntmps6, hs, ok, hw0]) <;> exact rfl
  · (simp only [go_sem, Try.ntmps6, hs, ok, hw0]) <;> exact rfl
  · exact rfl
  · (simp only [go_sem, Try.ntmps6, hs, ok, hw0]) <;> exact rfl
  · (simp only [go_sem, Try.ntmps6, hs, ok, hw0]) <;> exact rfl
  · exact ⟨_, Try.func16, rfl, rfl⟩
  · (simp only [go_sem, Try.ntmps6, hs, ok, hw0]) <;> exact rfl
  · (simp only [go_sem, Try.ntmps6, hs, ok, hw0]) <;> exact rfl
  · exact known_ok
  apply W_run
  · (simp only [go_sem, Try.ntmps6, hs, ok, hw0]) <;> exact rfl
  apply W_nil
  apply K_seq
  apply T_ret
  apply K_seqR
  apply fin_ret
  · (simp only [go_sem, Try.ntmps6, hs, ok, hw0, Try.f6]) <;> exact rfl
  -- leaf 0 (ret)
  
  all_goals rfl

theorem law_bestsD (t : Town) (hs : M.Small t) (ok : M.Ok t) (hn : M.plans t ≠ []) : Ret Try.prog 6 [.agg (cT t)] (.bool true) := by
  have hh : t.houses.length ≤ 1000 := by have := hs.1.2.2.2.2.2.1; omega
  obtain ⟨a, hBest, ha, aa, bB⟩ := M.best_of hn
  obtain ⟨b, hFair, hb, ab, bF⟩ := M.fair_of hn
  have hFO : M.fO t = some (b, (M.most (M.ranks t b), M.sum (M.ranks t b))) := hFair
  have hla := (M.plan_iff.1 ha).1
  have hlb := (M.plan_iff.1 hb).1
  have lra := M.ranks_length t a
  have lrb := M.ranks_length t b
  have h6 := M.houses_le ok
  apply Ret_fin (fn := Try.f6) Try.func6 rfl
  apply T_seq
  apply T_r F
  · (simp only [go_sem, Try.ntmps6, hs, ok, hFO, oV]) <;> exact rfl
  apply K_seq
  apply T_seq
  apply T_seq
  apply T_wL F [0, 1, 2] rfl
  apply W_pre [0] [1, 2]
  · (simp only [go_sem, Try.ntmps6, hs, ok, hFO, oV]) <;> exact rfl
  apply W_call -- call 0 of function 19
  · (simp only [go_sem, Try.ntmps6, hs, ok, hFO, oV]) <;> exact rfl
  · (simp only [go_sem, Try.ntmps6, hs, ok, hFO, oV]) <;> exact rfl
  · exact rfl
  · (simp only [go_sem, Try.ntmps6, hs, ok, hFO, oV]) <;> exact rfl
  · (simp only [go_sem, Try.ntmps6, hs, ok, hFO, oV]) <;> exact rfl
  · exact ⟨_, Try.func19, rfl, rfl⟩
  · (simp only [go_sem, Try.ntmps6, hs, ok, hFO, oV]) <;> exact rfl
  · (simp only [go_sem, Try.ntmps6, hs, ok, hFO, oV]) <;> exact rfl
  · exact law_small _
  apply W_run
  · (simp only [go_sem, Try.ntmps6, hs, ok, hFO, oV]) <;> exact rfl
  apply W_nil
  apply K_seq
  apply T_ifF -- h0
  · (simp only [go_sem, Try.ntmps6, hs, ok, hFO, oV]) <;> exact rfl
  apply T_skip
  apply K_seq
  apply T_seq
  apply T_wL F [0, 1, 2, 3, 4, 5, 6, 7, 8] rfl
  apply W_pre [0] [1, 2, 3, 4, 5, 6, 7, 8]
  · (simp only [go_sem, Try.ntmps6, hs, ok, hFO, oV]) <;> exact rfl
  apply W_call -- call 1 of function 26
  · (simp only [go_sem, Try.ntmps6, hs, ok, hFO, oV]) <;> exact rfl
  · (simp only [go_sem, Try.ntmps6, hs, ok, hFO, oV]) <;> exact rfl
  · exact rfl
  · (simp only [go_sem, Try.ntmps6, hs, ok, hFO, oV]) <;> exact rfl
  · (simp only [go_sem, Try.ntmps6, hs, ok, hFO, oV]) <;> exact rfl
  · exact ⟨_, Try.func26, rfl, rfl⟩
  · (simp only [go_sem, Try.ntmps6, hs, ok, hFO, oV]) <;> exact rfl
  · (simp only [go_sem, Try.ntmps6, hs, ok, hFO, oV]) <;> exact rfl
  · exact mv_BestC t hh ok a _ hBest
  apply W_pre [2, 3, 4, 5] [6, 7, 8]
  · (simp only [go_sem, Try.ntmps6, hs, ok, hFO, oV]) <;> exact rfl
  apply W_run
  · (simp only [go_sem, Try.ntmps6, hs, ok, hFO, oV]) <;> exact rfl
  apply W_nil
  apply K_seq
  apply T_seq
  apply T_wL F [0, 1, 2, 3, 4, 5, 6, 7, 8] rfl
  apply W_pre [0] [1, 2, 3, 4, 5, 6, 7, 8]
  · (simp only [go_sem, Try.ntmps6, hs, ok, hFO, oV]) <;> exact rfl
  apply W_call -- call 2 of function 27
  · (simp only [go_sem, Try.ntmps6, hs, ok, hFO, oV]) <;> exact rfl
  · (simp only [go_sem, Try.ntmps6, hs, ok, hFO, oV]) <;> exact rfl
  · exact rfl
  · (simp only [go_sem, Try.ntmps6, hs, ok, hFO, oV]) <;> exact rfl
  · (simp only [go_sem, Try.ntmps6, hs, ok, hFO, oV]) <;> exact rfl
  · exact ⟨_, Try.func27, rfl, rfl⟩
  · (simp only [go_sem, Try.ntmps6, hs, ok, hFO, oV]) <;> exact rfl
  · (simp only [go_sem, Try.ntmps6, hs, ok, hFO, oV]) <;> exact rfl
  · exact mv_FairestC t hh ok b _ hFair
  apply W_pre [2, 3, 4, 5] [6, 7, 8]
  · (simp only [go_sem, Try.ntmps6, hs, ok, hFO, oV]) <;> exact rfl
  apply W_run
  · (simp only [go_sem, Try.ntmps6, hs, ok, hFO, oV]) <;> exact rfl
  apply W_nil
  apply K_seq
  apply T_seq
  apply T_seq
  apply T_wL F [0, 1, 2] rfl
  apply W_pre [0] [1, 2]
  · (simp only [go_sem, Try.ntmps6, hs, ok, hFO, oV]) <;> exact rfl
  apply W_call -- call 3 of function 13
  · (simp only [go_sem, Try.ntmps6, hs, ok, hFO, oV]) <;> exact rfl
  · (simp only [go_sem, Try.ntmps6, hs, ok, hFO, oV]) <;> exact rfl
  · exact rfl
  · (simp only [go_sem, Try.ntmps6, hs, ok, hFO, oV]) <;> exact rfl
  · (simp only [go_sem, Try.ntmps6, hs, ok, hFO, oV]) <;> exact rfl
  · exact ⟨_, Try.func13, rfl, rfl⟩
  · (simp only [go_sem, Try.ntmps6, hs, ok, hFO, oV]) <;> exact rfl
  · (simp only [go_sem, Try.ntmps6, hs, ok, hFO, oV]) <;> exact rfl
  · exact ref_town _
  apply W_run
  · (simp only [go_sem, Try.ntmps6, hs, ok, hFO, oV]) <;> exact rfl
  apply W_nil
  apply K_seq
  apply T_ifF -- h1
  · (simp only [go_sem, Try.ntmps6, hs, ok, hFO, oV]) <;> exact rfl
  apply T_skip
  apply K_seq
  apply T_seq
  apply T_wL F [0, 1, 2, 3, 4, 5, 6] rfl
  apply W_pre [0] [1, 2, 3, 4, 5, 6]
  · (simp only [go_sem, Try.ntmps6, hs, ok, hFO, oV]) <;> exact rfl
  apply W_call -- call 4 of function 28
  · (simp only [go_sem, Try.ntmps6, hs, ok, hFO, oV]) <;> exact rfl
  · (simp only [go_sem, Try.ntmps6, hs, ok, hFO, oV]) <;> exact rfl
  · exact rfl
  · (simp only [go_sem, Try.ntmps6, hs, ok, hFO, oV]) <;> exact rfl
  · (simp only [go_sem, Try.ntmps6, hs, ok, hFO, oV]) <;> exact rfl
  · exact ⟨_, Try.func28, rfl, rfl⟩
  · (simp only [go_sem, Try.ntmps6, hs, ok, hFO, oV]) <;> exact rfl
  · (simp only [go_sem, Try.ntmps6, hs, ok, hFO, oV]) <;> exact rfl
  · exact ref_bestS ok hBest
  apply W_run
  · (simp only [go_sem, Try.ntmps6, hs, ok, hFO, oV]) <;> exact rfl
  apply W_nil
  apply K_seq
  apply T_seq
  apply T_wL F [0, 1, 2, 3, 4, 5, 6] rfl
  apply W_pre [0] [1, 2, 3, 4, 5, 6]
  · (simp only [go_sem, Try.ntmps6, hs, ok, hFO, oV]) <;> exact rfl
  apply W_call -- call 5 of function 29
  · (simp only [go_sem, Try.ntmps6, hs, ok, hFO, oV]) <;> exact rfl
  · (simp only [go_sem, Try.ntmps6, hs, ok, hFO, oV]) <;> exact rfl
  · exact rfl
  · (simp only [go_sem, Try.ntmps6, hs, ok, hFO, oV]) <;> exact rfl
  · (simp only [go_sem, Try.ntmps6, hs, ok, hFO, oV]) <;> exact rfl
  · exact ⟨_, Try.func29, rfl, rfl⟩
  · (simp only [go_sem, Try.ntmps6, hs, ok, hFO, oV]) <;> exact rfl
  · (simp only [go_sem, Try.ntmps6, hs, ok, hFO, oV]) <;> exact rfl
  · exact ref_fairest t ok
  apply W_run
  · (simp only [go_sem, Try.ntmps6, hs, ok, hFO, oV]) <;> exact rfl
  apply W_nil
  apply K_seq
  apply T_seq
  apply T_seq
  apply T_r F
  · (simp only [go_sem, Try.ntmps6, hs, ok, hFO, oV]) <;> exact rfl
  apply K_seq
  apply T_ifF -- h2
  · (simp only [go_sem, Try.ntmps6, hs, ok, hFO, oV]) <;> exact rfl
  apply T_skip
  apply K_seq
  apply T_seq
  apply T_wL F [0, 1, 2, 3, 4, 5, 6, 7, 8, 9, 10, 11, 12, 13, 14, 15, 16, 17, 18, 19, 20, 21, 22, 23, 24, 25, 26, 27, 28, 29, 30, 31, 32, 33, 34, 35] rfl
  apply W_pre [0, 1, 2, 3, 4] [5, 6, 7, 8, 9, 10, 11, 12, 13, 14, 15, 16, 17, 18, 19, 20, 21, 22, 23, 24, 25, 26, 27, 28, 29, 30, 31, 32, 33, 34, 35]
  · (simp only [go_sem, Try.ntmps6, hs, ok, hFO, oV]) <;> exact rfl
  apply W_call -- call 6 of function 23
  · (simp only [go_sem, Try.ntmps6, hs, ok, hFO, oV]) <;> exact rfl
  · (simp only [go_sem, Try.ntmps6, hs, ok, hFO, oV]) <;> exact rfl
  · exact rfl
  · (simp only [go_sem, Try.ntmps6, hs, ok, hFO, oV]) <;> exact rfl
  · (simp only [go_sem, Try.ntmps6, hs, ok, hFO, oV]) <;> exact rfl
  · exact ⟨_, Try.func23, rfl, rfl⟩
  · (simp only [go_sem, Try.ntmps6, hs, ok, hFO, oV]) <;> exact rfl
  · (simp only [go_sem, Try.ntmps6, hs, ok, hFO, oV]) <;> exact rfl
  · exact ref_same _ _
  apply W_pre [6, 7, 8, 9, 10] [11, 12, 13, 14, 15, 16, 17, 18, 19, 20, 21, 22, 23, 24, 25, 26, 27, 28, 29, 30, 31, 32, 33, 34, 35]
  · (simp only [go_sem, Try.ntmps6, hs, ok, hFO, oV]) <;> exact rfl
  apply W_call -- call 7 of function 31
  · (simp only [go_sem, Try.ntmps6, hs, ok, hFO, oV]) <;> exact rfl
  · (simp only [go_sem, Try.ntmps6, hs, ok, hFO, oV]) <;> exact rfl
  · exact rfl
  · (simp only [go_sem, Try.ntmps6, hs, ok, hFO, oV]) <;> exact rfl
  · (simp only [go_sem, Try.ntmps6, hs, ok, hFO, oV]) <;> exact rfl
  · exact ⟨_, Try.func31, rfl, rfl⟩
  · (simp only [go_sem, Try.ntmps6, hs, ok, hFO, oV]) <;> exact rfl
  · (simp only [go_sem, Try.ntmps6, hs, ok, hFO, oV]) <;> exact rfl
  · exact ref_ranks _ _ (by omega) (by omega)
  apply W_call -- call 8 of function 30
  · (simp only [go_sem, Try.ntmps6, hs, ok, hFO, oV]) <;> exact rfl
  · (simp only [go_sem, Try.ntmps6, hs, ok, hFO, oV]) <;> exact rfl
  · exact rfl
  · (simp only [go_sem, Try.ntmps6, hs, ok, hFO, oV]) <;> exact rfl
  · (simp only [go_sem, Try.ntmps6, hs, ok, hFO, oV]) <;> exact rfl
  · exact ⟨_, Try.func30, rfl, rfl⟩
  · (simp only [go_sem, Try.ntmps6, hs, ok, hFO, oV]) <;> exact rfl
  · (simp only [go_sem, Try.ntmps6, hs, ok, hFO, oV]) <;> exact rfl
  · exact ref_sum _ (M.ranks_wide ok) (by omega)
  apply W_pre [13, 14, 15, 16] [17, 18, 19, 20, 21, 22, 23, 24, 25, 26, 27, 28, 29, 30, 31, 32, 33, 34, 35]
  · (simp only [go_sem, Try.ntmps6, hs, ok, hFO, oV]) <;> exact rfl
  apply W_pre [17, 18, 19, 20, 21] [22, 23, 24, 25, 26, 27, 28, 29, 30, 31, 32, 33, 34, 35]
  · (simp only [go_sem, Try.ntmps6, hs, ok, hFO, oV]) <;> exact rfl
  apply W_call -- call 9 of function 23
  · (simp only [go_sem, Try.ntmps6, hs, ok, hFO, oV]) <;> exact rfl
  · (simp only [go_sem, Try.ntmps6, hs, ok, hFO, oV]) <;> exact rfl
  · exact rfl
  · (simp only [go_sem, Try.ntmps6, hs, ok, hFO, oV]) <;> exact rfl
  · (simp only [go_sem, Try.ntmps6, hs, ok, hFO, oV]) <;> exact rfl
  · exact ⟨_, Try.func23, rfl, rfl⟩
  · (simp only [go_sem, Try.ntmps6, hs, ok, hFO, oV]) <;> exact rfl
  · (simp only [go_sem, Try.ntmps6, hs, ok, hFO, oV]) <;> exact rfl
  · exact ref_same _ _
  apply W_pre [23, 24, 25, 26, 27] [28, 29, 30, 31, 32, 33, 34, 35]
  · (simp only [go_sem, Try.ntmps6, hs, ok, hFO, oV]) <;> exact rfl
  apply W_call -- call 10 of function 31
  · (simp only [go_sem, Try.ntmps6, hs, ok, hFO, oV]) <;> exact rfl
  · (simp only [go_sem, Try.ntmps6, hs, ok, hFO, oV]) <;> exact rfl
  · exact rfl
  · (simp only [go_sem, Try.ntmps6, hs, ok, hFO, oV]) <;> exact rfl
  · (simp only [go_sem, Try.ntmps6, hs, ok, hFO, oV]) <;> exact rfl
  · exact ⟨_, Try.func31, rfl, rfl⟩
  · (simp only [go_sem, Try.ntmps6, hs, ok, hFO, oV]) <;> exact rfl
  · (simp only [go_sem, Try.ntmps6, hs, ok, hFO, oV]) <;> exact rfl
  · exact ref_ranks _ _ (by omega) (by omega)
  apply W_call -- call 11 of function 32
  · (simp only [go_sem, Try.ntmps6, hs, ok, hFO, oV]) <;> exact rfl
  · (simp only [go_sem, Try.ntmps6, hs, ok, hFO, oV]) <;> exact rfl
  · exact rfl
  · (simp only [go_sem, Try.ntmps6, hs, ok, hFO, oV]) <;> exact rfl
  · (simp only [go_sem, Try.ntmps6, hs, ok, hFO, oV]) <;> exact rfl
  · exact ⟨_, Try.func32, rfl, rfl⟩
  · (simp only [go_sem, Try.ntmps6, hs, ok, hFO, oV]) <;> exact rfl
  · (simp only [go_sem, Try.ntmps6, hs, ok, hFO, oV]) <;> exact rfl
  · exact ref_most _
  apply W_pre [30, 31, 32] [33, 34, 35]
  · (simp only [go_sem, Try.ntmps6, hs, ok, hFO, oV]) <;> exact rfl
  apply W_call -- call 12 of function 16
  · (simp only [go_sem, Try.ntmps6, hs, ok, hFO, oV]) <;> exact rfl
  · (simp only [go_sem, Try.ntmps6, hs, ok, hFO, oV]) <;> exact rfl
  · exact rfl
  · (simp only [go_sem, Try.ntmps6, hs, ok, hFO, oV]) <;> exact rfl
  · (simp only [go_sem, Try.ntmps6, hs, ok, hFO, oV]) <;> exact rfl
  · exact ⟨_, Try.func16, rfl, rfl⟩
  · (simp only [go_sem, Try.ntmps6, hs, ok, hFO, oV]) <;> exact rfl
  · (simp only [go_sem, Try.ntmps6, hs, ok, hFO, oV]) <;> exact rfl
  · exact known_ok
  apply W_run
  · (simp only [go_sem, Try.ntmps6, hs, ok, hFO, oV]) <;> exact rfl
  apply W_nil
  apply K_seq
  apply T_ret
  apply fin_ret
  · (simp only [go_sem, Try.ntmps6, hs, ok, hFO, oV, Try.f6]) <;> exact rfl
  -- leaf 0 (ret)
  
  all_goals rfl


theorem law_bests (t : Town) : Ret Try.prog 6 [.agg (cT t)] (.bool true) := by
  by_cases hs : M.Small t
  · by_cases ok : M.Ok t
    · by_cases hn : M.plans t = []
      · exact law_bestsC t hs ok hn
      · exact law_bestsD t hs ok hn
    · exact law_bestsB t hs ok
  · exact law_bestsA t hs
end Go.Ab
namespace Go.Proofs.Ytahflobpopclpaa.moveBests
open Go.ChangeShapes Go.WideShapes Go.ChangeAt Go.RowKit Go.Ab
set_option linter.unusedVariables false
theorem own : ownKnob Try.prog.godebug = none := by kernel_rfl
theorem laidOut : laidOutB Try.prog = true := by kernel_rfl
set_option maxRecDepth 100000 in
theorem lifted (os : Os) (started : os.Started) (H : Type) (enc : TypeId × Value → H) :
    ReturnsInHanded {} Try.checked os 6 .any (Rows.moveBestsSpec.pre6 enc Try.prog Try.f6 Rows.moveBestsRow.domain false) (Rows.moveBestsSpec.post enc Try.prog Try.f6 false true false false) := by
  refine returnsInHanded_of_change_sized (C := Try.checked) own started (by kernel_rfl) Try.func6
    (ChangeSpec.witness6 (enc := enc) (C := Try.checked) false ⟨#[], #[.agg #[.slice none 0 0, .int .i64 0, .slice none 0 0, .slice none 0 0, .slice none 0 0, .slice none 0 0]], []⟩ 8 (by kernel_rfl) (by kernel_rfl) (by kernel_rfl) (by kernel_rfl)) ?_
  intro W base args ds gs before hval0 hW hcnd hsz0 _
  have hval : ∀ (j : Nat) t v, Try.f6.params[j]? = some t → args[j]? = some v → Value.okWide Try.prog W .any base t v := hval0
  have hW' := hW
  obtain ⟨p, q, hA0, hV, rfl, hfz, hnd⟩ := hW
  have hA : DataW.TrodAll enc Try.prog W 0 (fun _ => true) true Try.f6.params.toList args.toList ds p := hA0
  rw [Try.params6] at hA hval
  obtain ⟨v0, vs0, d0, ds0, p0, q0, hargs, rfl, rfl, h0, r0⟩ := trodAll_cons hA
  obtain ⟨rfl, rfl, rfl⟩ := trodAll_nil r0
  obtain rfl : args = #[v0] := by cases args; simp_all
  obtain ⟨rfl, rfl⟩ := trodVars_none hV
  have lt0 : ∀ x ∈ p0, x.block < W.heap.size := by obtain ⟨m, hm⟩ := h0; exact DataW.trod_lt m _ _ _ hm
  obtain ⟨t0, ht0⟩ := town_in h0
  clear hA0 hval0 hsz0
  have hargsR : RelL ⟨fun _ => False, [], [], W⟩ [.agg (cT t0)] (#[v0] : Array Value).toList := by
    simp only [RelL]
    exact ⟨_, _, rfl, ht0, rfl⟩
  refine (law_bests t0 (fun _ => False) W _ (fun _ h => h.elim) hargsR).mono fun e W' ⟨v, he, hr, bel⟩ => ?_
  simp only [Rel] at hr
  subst hr
  subst he
  exact ⟨_, rfl, _, _, _, [], _, [], hW', trodAll_mk1 (shut_bool Try.underlying4 _), (trodAll_cons_mk (Below.trod laidOut (by kernel_rfl) (of_decide_eq_true (by kernel_rfl)) h0 bel lt0) trodAll_mk0), rfl, bel.frame _, fun h => by cases h⟩
theorem over : Rows.moveBestsRow.holds Try.pinned (OpenSpec.ofChange Rows.moveBestsSpec) :=
  OpenClaim.holds_of_wide 6 Try.f6 rfl rfl rfl rfl rfl rfl rfl ⟨rfl, rfl, rfl, rfl, rfl⟩ rfl rfl rfl rfl rfl (by kernel_rfl) Try.func6 (by kernel_rfl)
    (of_decide_eq_true (by kernel_rfl)) (by unfold Func.isWrapper; first | (rw [if_pos (by decide +kernel)]; kernel_rfl) | (rw [if_neg (by decide +kernel)]; exact ⟨rfl, rfl⟩))
    (fun os started H enc _ => lifted os started H enc)
end Go.Proofs.Ytahflobpopclpaa.moveBests
namespace Go.Proofs.Ytahflobpopclpaa
theorem moveBests_holds : Rows.MoveBestsSaid := moveBests.over
end Go.Proofs.Ytahflobpopclpaa
