/- The law MoveSettled holds of the given program for every input: it returns true, and the input reads as it did. -/
import Derived.Test.YtahflobpopclpaaSe4
import Derived.Test.YtahflobpopclpaaRows
import Derived.WalkKit
import Derived.ProofKit
import Derived.OpenShut
import Derived.ShutString
import Derived.ChangeOld
import Derived.Below
import Derived.SizedLaws
set_option linter.unusedVariables false
set_option linter.unusedSimpArgs false
namespace Go.Ab
open Go Go.RowKit Go.Proofs Fac
set_option linter.unusedVariables false
set_option linter.unusedSimpArgs false
set_option maxRecDepth 4000
set_option maxHeartbeats 1000000





theorem sl_equal (l m : List Int) : Ret Try.prog 52 [.sl 1 (rI l), .sl 1 (rI m)] (.bool (l == m)) := by
  refine Ret.of_fits fun hfits => ?_
  simp only [V.fits, V.fitsL, V.fitsR, rI_length] at hfits
  have hl := hfits.1.1
  have hlm := hfits.2.1.1
  apply Ret_fin (fn := Try.f52) Try.func52 rfl
  apply T_seq
  apply T_r F
  · (simp only [go_sem, Try.ntmps52]) <;> exact rfl
  apply K_seq
  apply T_seq
  apply T_seq
  apply T_r F
  · (simp only [go_sem, Try.ntmps52]) <;> exact rfl
  apply K_seq
  apply T_if
  · (simp only [go_sem, Try.ntmps52]) <;> exact rfl
  · intro bh0t
    have h0t := bh0t
    try simp only [CS] at h0t
    try simp only [BS] at bh0t
    try exact absurd bh0t (by decide)
    all_goals (
  apply T_seq
  apply T_r F
  · (simp only [go_sem, Try.ntmps52, bh0t]) <;> exact rfl
  apply K_seq
  apply T_ret
  apply K_seqR
  apply fin_ret
  · (simp only [go_sem, Try.ntmps52, bh0t, Try.f52]) <;> exact rfl
  -- leaf 0 (ret)
  simp only [go_sem, Try.ntmps52, bh0t, V.bool.injEq, V.int.injEq, true_and]
  grind)
  · intro bh0f
    have h0f := bh0f
    try simp only [CS] at h0f
    try simp only [BS] at bh0f
    try exact absurd bh0f (by decide)
    all_goals (
  apply T_skip
  apply K_seq
  apply T_seq
  apply T_seq
  apply T_r F
  · (simp only [go_sem, Try.ntmps52, bh0f]) <;> exact rfl
  apply K_seq
  apply T_block
  apply T_lp (α := Nat) [true, true, false, false, false, false, false, false, false, false, false, false, true, true, false, false, false, false, false, false, false, false, false, false, false, false] (fun k => (⟨[.sl 1 (rI l), .sl 1 (rI m), .undef, .undef, .undef, .undef, .undef, .undef, .undef, .undef, .undef, .undef, .int .i64 (l.length : Int), .int .i64 (k : Int), .undef, .undef, .undef, .undef, .undef, .undef, .undef, .undef, .undef, .undef, .undef, .undef], []⟩ : St)) (fun k => k ≤ l.length ∧ (l.drop k == m.drop k) = (l == m)) (fun k => l.length - k) (0)
  · (simp only [go_sem, Try.ntmps52, bh0f]) <;> exact rfl
  · simp
  · rintro k ⟨hk, hj⟩
    apply T_seq
    apply T_r F
    · (simp only [go_sem, Try.ntmps52, bh0f]) <;> exact rfl
    apply K_seq
    apply T_seq
    apply T_if
    · (simp only [go_sem, Try.ntmps52, bh0f]) <;> exact rfl
    · intro bh1t
      have h1t := bh1t
      try simp only [CS] at h1t
      try simp only [BS] at bh1t
      try exact absurd bh1t (by decide)
      all_goals (
  have hb : k < 9223372036854775807 := by omega
  have hm : k < m.length := by omega
  have hd := List.drop_eq_getElem_cons h1t
  have he := List.drop_eq_getElem_cons hm
  apply T_skip
  apply K_seq
  apply T_seq
  apply T_block
  apply T_seq
  apply T_r F
  · (simp only [go_sem, Try.ntmps52, bh0f, bh1t, h1t, rI_get h1t, hb, hm, rI_get hm]) <;> exact rfl
  apply K_seq
  apply T_seq
  apply T_qL F [0, 1, 2, 3, 4, 5, 6, 7, 8] rfl (by kernel_rfl)
  apply Q_pre [0, 1, 2, 3] [4, 5, 6, 7, 8]
  · (simp only [go_sem, Try.ntmps52, bh0f, bh1t, h1t, rI_get h1t, hb, hm, rI_get hm]) <;> exact rfl
  apply Q_run
  · (simp only [go_sem, Try.ntmps52, bh0f, bh1t, h1t, rI_get h1t, hb, hm, rI_get hm]) <;> exact rfl
  apply Q_nil
  apply K_seq
  apply T_if
  · (simp only [go_sem, Try.ntmps52, bh0f, bh1t, h1t, rI_get h1t, hb, hm, rI_get hm]) <;> exact rfl
  · intro bh2t
    have h2t := bh2t
    try simp only [CS] at h2t
    try simp only [BS] at bh2t
    try exact absurd bh2t (by decide)
    all_goals (
  apply T_seq
  apply T_r F
  · (simp only [go_sem, Try.ntmps52, bh0f, bh1t, h1t, rI_get h1t, hb, hm, rI_get hm, bh2t]) <;> exact rfl
  apply K_seq
  apply T_ret
  apply K_blkR
  apply K_seqR
  apply K_lpR
  apply K_blkR
  apply K_seqR
  apply fin_ret
  · (simp only [go_sem, Try.ntmps52, bh0f, bh1t, h1t, rI_get h1t, hb, hm, rI_get hm, bh2t, Try.f52]) <;> exact rfl
  -- leaf 1 (ret)
  simp only [go_sem, Try.ntmps52, bh0f, bh1t, h1t, rI_get h1t, hb, hm, rI_get hm, bh2t, V.bool.injEq, V.int.injEq, true_and]
  grind)
  · intro bh2f
    have h2f := bh2f
    try simp only [CS] at h2f
    try simp only [BS] at bh2f
    try exact absurd bh2f (by decide)
    all_goals (
  apply T_skip
  apply K_blk
  apply K_seq
  apply T_r F
  · (simp only [go_sem, Try.ntmps52, bh0f, bh1t, h1t, rI_get h1t, hb, hm, rI_get hm, bh2f]) <;> exact rfl
  refine K_lp (k + 1) ?_ ?_
  · (simp only [go_sem, Try.ntmps52, bh0f, bh1t, h1t, rI_get h1t, hb, hm, rI_get hm, bh2f]) <;> exact rfl
  -- leaf 2 (loop0)
  grind))
    · intro bh1f
      have h1f := bh1f
      try simp only [CS] at h1f
      try simp only [BS] at bh1f
      try exact absurd bh1f (by decide)
      all_goals (
  apply T_exit
  apply K_seqE
  apply K_lpE
  apply K_blkE
  apply K_seq
  apply T_seq
  apply T_r F
  · (simp only [go_sem, Try.ntmps52, bh0f, bh1f]) <;> exact rfl
  apply K_seq
  apply T_ret
  apply fin_ret
  · (simp only [go_sem, Try.ntmps52, bh0f, bh1f, Try.f52]) <;> exact rfl
  -- leaf 3 (ret)
  simp only [go_sem, Try.ntmps52, bh0f, bh1f, V.bool.injEq, V.int.injEq, true_and]
  grind))

theorem mv_exchY (t : Town) (p q : List Int) (o : V) (ok : M.Ok t) (hp : M.plan t p = true) (hq : M.plan t q = true) (ho : ∀ q, o.all q = true) : RetY Try.prog 6 [.sl 1 (rI q)] (hpE t p o .ready none ++ extP t (.sl 1 (rI p)) 6 7) (.bool (!M.pleases t p q)) (if M.pleases t p q = true then hpE t p (.sl 1 (rI q)) .done (some .ret) ++ extP t (.sl 1 (rI p)) 6 7 else hpE t p o .ready none ++ extP t (.sl 1 (rI p)) 6 7) := by
  have hpl := (M.plan_iff.1 hp).1
  have hql := (M.plan_iff.1 hq).1
  have h6 := M.houses_le ok
  have hlpq : p.length = q.length := by omega
  have hpi := M.pleases_iff (t := t) hlpq
  have hrp : (M.ranks t p).length = p.length := M.ranks_length t p
  have hrq : (M.ranks t q).length = q.length := M.ranks_length t q
  refine RetY_intro (pe := none) (tm := tmE t p) (ps := #[24]) (asg := asOf Try.f20) (bd := bdOf Try.f20) rfl rfl fun ro => ?_
  apply T_r F
  · (simp only [go_sem, hpE, extP, tmE, zipSet, cX_eq, cW_eq, hrp, hrq]) <;> exact rfl
  apply yas_next
  · (simp only [go_sem, hpE, extP, tmE, zipSet, cX_eq, cW_eq, hrp, hrq]) <;> exact rfl
  apply T_block
  apply T_seq
  apply T_seq
  apply T_wL F [0, 1, 2] rfl
  apply W_pre [0, 1] [2]
  · (simp only [go_sem, hpE, extP, tmE, zipSet, cX_eq, cW_eq, hrp, hrq]) <;> exact rfl
  apply W_call -- call 0 of function 52
  · (simp only [go_sem, hpE, extP, tmE, zipSet, cX_eq, cW_eq, hrp, hrq]) <;> exact rfl
  · (simp only [go_sem, hpE, extP, tmE, zipSet, cX_eq, cW_eq, hrp, hrq]) <;> exact rfl
  · exact rfl
  · (simp only [go_sem, hpE, extP, tmE, zipSet, cX_eq, cW_eq, hrp, hrq]) <;> exact rfl
  · (simp only [go_sem, hpE, extP, tmE, zipSet, cX_eq, cW_eq, hrp, hrq]) <;> exact rfl
  · exact ⟨_, Try.func52, rfl, rfl⟩
  · (simp only [go_sem, hpE, extP, tmE, zipSet, cX_eq, cW_eq, hrp, hrq]) <;> exact rfl
  · (simp only [go_sem, hpE, extP, tmE, zipSet, cX_eq, cW_eq, hrp, hrq]) <;> exact rfl
  · exact sl_equal _ _
  apply W_run
  · (simp only [go_sem, hpE, extP, tmE, zipSet, cX_eq, cW_eq, hrp, hrq]) <;> exact rfl
  apply W_nil
  apply K_seq
  apply T_if
  · (simp only [go_sem, hpE, extP, tmE, zipSet, cX_eq, cW_eq, hrp, hrq]) <;> exact rfl
  · intro bh0t
    have h0t := bh0t
    try simp only [CS] at h0t
    try simp only [BS] at bh0t
    try exact absurd bh0t (by decide)
    all_goals (
  have hpv : M.pleases t p q = false := by
    rw [← Bool.not_eq_true, hpi]
    intro h
    exact h.1 h0t.symm
  apply T_exit
  apply K_seqE
  apply K_blkE
  apply round_normal
  · (simp only [go_sem, hpE, extP, tmE, zipSet, cX_eq, cW_eq, hrp, hrq, bh0t, hpv]) <;> exact rfl
  · simp only [go_sem, hpE, extP, tmE, zipSet, cX_eq, cW_eq, hrp, hrq, bh0t, hpv]
  · simp only [go_sem, hpE, extP, tmE, zipSet, cX_eq, cW_eq, hrp, hrq, bh0t, hpv]
  · simp only [go_sem, hpE, extP, tmE, zipSet, cX_eq, cW_eq, hrp, hrq, bh0t, hpv]
  · rw [hpv]
    first | exact cloE ho | exact cloE (sl_all q))
  · intro bh0f
    have h0f := bh0f
    try simp only [CS] at h0f
    try simp only [BS] at bh0f
    try exact absurd bh0f (by decide)
    all_goals (
  apply T_skip
  apply K_seq
  apply T_seq
  apply T_seq
  apply T_wL F [0, 1, 2, 3, 4, 5] rfl
  apply W_pre [0, 1, 2] [3, 4, 5]
  · (simp only [go_sem, hpE, extP, tmE, zipSet, cX_eq, cW_eq, hrp, hrq, bh0f]) <;> exact rfl
  apply W_call -- call 1 of function 50
  · (simp only [go_sem, hpE, extP, tmE, zipSet, cX_eq, cW_eq, hrp, hrq, bh0f]) <;> exact rfl
  · (simp only [go_sem, hpE, extP, tmE, zipSet, cX_eq, cW_eq, hrp, hrq, bh0f]) <;> exact rfl
  · exact rfl
  · (simp only [go_sem, hpE, extP, tmE, zipSet, cX_eq, cW_eq, hrp, hrq, bh0f]) <;> exact rfl
  · (simp only [go_sem, hpE, extP, tmE, zipSet, cX_eq, cW_eq, hrp, hrq, bh0f]) <;> exact rfl
  · exact ⟨_, Try.func50, rfl, rfl⟩
  · (simp only [go_sem, hpE, extP, tmE, zipSet, cX_eq, cW_eq, hrp, hrq, bh0f]) <;> exact rfl
  · (simp only [go_sem, hpE, extP, tmE, zipSet, cX_eq, cW_eq, hrp, hrq, bh0f]) <;> exact rfl
  · exact mv_ranks _ _ (by omega) (by omega)
  apply W_run
  · (simp only [go_sem, hpE, extP, tmE, zipSet, cX_eq, cW_eq, hrp, hrq, bh0f]) <;> exact rfl
  apply W_nil
  apply K_seq
  apply T_block
  apply T_lp (α := Nat) [false, false, false, true, true, true, false, false, true, true, false, false, false, false, false, false, false, false, false, false, false, false, false, false, false, false, false, false, false, false, false, true, true, true, false, false, false, false, false, false, false, false, false, false, false, false, false, false, false, false, false, false, false, false, false, false, false] (fun k => (⟨[.undef, .undef, .undef, .ptr 1 0, .ptr 2 0, .ptr 3 0, .undef, .undef, .ptr 5 0, .sl 1 (rI q), .undef, .undef, .undef, .undef, .undef, .undef, .undef, .undef, .undef, .undef, .undef, .undef, .undef, .undef, .undef, .undef, .undef, .undef, .undef, .undef, .undef, .sl 1 (rI (M.ranks t q)), .int .i64 (q.length : Int), .int .i64 (k : Int), .undef, .undef, .undef, .undef, .undef, .undef, .undef, .undef, .undef, .undef, .undef, .undef, .undef, .undef, .undef, .undef, .undef, .undef, .undef, .undef, .undef, .undef, .undef], hpE t p o .busy none ++ extP t (.sl 1 (rI p)) 6 7⟩ : St)) (fun k => k ≤ q.length ∧ ∀ j (h1 : j < p.length) (h2 : j < q.length), j < k → p[j] = q[j] ∨ M.rank t j q[j] < M.rank t j p[j]) (fun k => q.length - k) (0)
  · (simp only [go_sem, hpE, extP, tmE, zipSet, cX_eq, cW_eq, hrp, hrq, bh0f]) <;> exact rfl
  · simp
  · rintro k ⟨hk, hj⟩
    apply T_seq
    apply T_r F
    · (simp only [go_sem, hpE, extP, tmE, zipSet, cX_eq, cW_eq, hrp, hrq, bh0f]) <;> exact rfl
    apply K_seq
    apply T_seq
    apply T_if
    · (simp only [go_sem, hpE, extP, tmE, zipSet, cX_eq, cW_eq, hrp, hrq, bh0f]) <;> exact rfl
    · intro bh1t
      have h1t := bh1t
      try simp only [CS] at h1t
      try simp only [BS] at bh1t
      try exact absurd bh1t (by decide)
      all_goals (
  have hb : k < 9223372036854775807 := by omega
  have hkp : k < p.length := by omega
  have hr1 : k < (M.ranks t q).length := by omega
  have hr2 : k < (M.ranks t p).length := by omega
  have hg1 := M.rank_len (t := t) h1t
  have hg2 := M.rank_len (t := t) hkp
  apply T_skip
  apply K_seq
  apply T_seq
  apply T_block
  apply T_seq
  apply T_r F
  · (simp only [go_sem, hpE, extP, tmE, zipSet, cX_eq, cW_eq, hrp, hrq, bh0f, bh1t, h1t, hb, rI_get hr1, hr1, rI_get hr2, hr2, rI_get h1t, rI_get hkp, hkp, hg1, hg2]) <;> exact rfl
  apply K_seq
  apply T_seq
  apply T_qL F [0, 1, 2, 3, 4, 5, 6, 7, 8, 9, 10, 11, 12, 13, 14, 15, 16] rfl (by kernel_rfl)
  apply Q_pre [0, 1, 2, 3] [4, 5, 6, 7, 8, 9, 10, 11, 12, 13, 14, 15, 16]
  · (simp only [go_sem, hpE, extP, tmE, zipSet, cX_eq, cW_eq, hrp, hrq, bh0f, bh1t, h1t, hb, rI_get hr1, hr1, rI_get hr2, hr2, rI_get h1t, rI_get hkp, hkp, hg1, hg2]) <;> exact rfl
  apply Q_pre [4, 5, 6, 7, 8, 9] [10, 11, 12, 13, 14, 15, 16]
  · (simp only [go_sem, hpE, extP, tmE, zipSet, cX_eq, cW_eq, hrp, hrq, bh0f, bh1t, h1t, hb, rI_get hr1, hr1, rI_get hr2, hr2, rI_get h1t, rI_get hkp, hkp, hg1, hg2]) <;> exact rfl
  apply Q_guard
  · (simp only [go_sem, hpE, extP, tmE, zipSet, cX_eq, cW_eq, hrp, hrq, bh0f, bh1t, h1t, hb, rI_get hr1, hr1, rI_get hr2, hr2, rI_get h1t, rI_get hkp, hkp, hg1, hg2]) <;> exact rfl
  · (simp only [go_sem, hpE, extP, tmE, zipSet, cX_eq, cW_eq, hrp, hrq, bh0f, bh1t, h1t, hb, rI_get hr1, hr1, rI_get hr2, hr2, rI_get h1t, rI_get hkp, hkp, hg1, hg2]) <;> exact rfl
  · intro bg0t
    have g0t := bg0t
    try simp only [CS] at g0t
    try simp only [BS] at bg0t
    try exact absurd bg0t (by decide)
    all_goals (
  apply Q_pre [10, 11, 12, 13] [14, 15, 16]
  · (simp only [go_sem, hpE, extP, tmE, zipSet, cX_eq, cW_eq, hrp, hrq, bh0f, bh1t, h1t, hb, rI_get hr1, hr1, rI_get hr2, hr2, rI_get h1t, rI_get hkp, hkp, hg1, hg2, bg0t]) <;> exact rfl
  apply Q_run
  · (simp only [go_sem, hpE, extP, tmE, zipSet, cX_eq, cW_eq, hrp, hrq, bh0f, bh1t, h1t, hb, rI_get hr1, hr1, rI_get hr2, hr2, rI_get h1t, rI_get hkp, hkp, hg1, hg2, bg0t]) <;> exact rfl
  apply Q_nil
  apply K_seq
  apply T_if
  · (simp only [go_sem, hpE, extP, tmE, zipSet, cX_eq, cW_eq, hrp, hrq, bh0f, bh1t, h1t, hb, rI_get hr1, hr1, rI_get hr2, hr2, rI_get h1t, rI_get hkp, hkp, hg1, hg2, bg0t]) <;> exact rfl
  · intro bh2t
    have h2t := bh2t
    try simp only [CS] at h2t
    try simp only [BS] at bh2t
    try exact absurd bh2t (by decide)
    all_goals (
  have hpv : M.pleases t p q = false := by
    rw [← Bool.not_eq_true, hpi]
    intro h
    have := h.2 k hkp h1t
    grind
  apply T_exit
  apply K_blkX rfl
  apply K_seqE
  apply K_lpE
  apply K_blkX rfl
  apply K_seqE
  apply K_blkE
  apply round_normal
  · (simp only [go_sem, hpE, extP, tmE, zipSet, cX_eq, cW_eq, hrp, hrq, bh0f, bh1t, h1t, hb, rI_get hr1, hr1, rI_get hr2, hr2, rI_get h1t, rI_get hkp, hkp, hg1, hg2, bg0t, bh2t, hpv]) <;> exact rfl
  · simp only [go_sem, hpE, extP, tmE, zipSet, cX_eq, cW_eq, hrp, hrq, bh0f, bh1t, h1t, hb, rI_get hr1, hr1, rI_get hr2, hr2, rI_get h1t, rI_get hkp, hkp, hg1, hg2, bg0t, bh2t, hpv]
  · simp only [go_sem, hpE, extP, tmE, zipSet, cX_eq, cW_eq, hrp, hrq, bh0f, bh1t, h1t, hb, rI_get hr1, hr1, rI_get hr2, hr2, rI_get h1t, rI_get hkp, hkp, hg1, hg2, bg0t, bh2t, hpv]
  · simp only [go_sem, hpE, extP, tmE, zipSet, cX_eq, cW_eq, hrp, hrq, bh0f, bh1t, h1t, hb, rI_get hr1, hr1, rI_get hr2, hr2, rI_get h1t, rI_get hkp, hkp, hg1, hg2, bg0t, bh2t, hpv]
  · rw [hpv]
    first | exact cloE ho | exact cloE (sl_all q))
  · intro bh2f
    have h2f := bh2f
    try simp only [CS] at h2f
    try simp only [BS] at bh2f
    try exact absurd bh2f (by decide)
    all_goals (
  apply T_skip
  apply K_blk
  apply K_seq
  apply T_r F
  · (simp only [go_sem, hpE, extP, tmE, zipSet, cX_eq, cW_eq, hrp, hrq, bh0f, bh1t, h1t, hb, rI_get hr1, hr1, rI_get hr2, hr2, rI_get h1t, rI_get hkp, hkp, hg1, hg2, bg0t, bh2f]) <;> exact rfl
  refine K_lp (k + 1) ?_ ?_
  · (simp only [go_sem, hpE, extP, tmE, zipSet, cX_eq, cW_eq, hrp, hrq, bh0f, bh1t, h1t, hb, rI_get hr1, hr1, rI_get hr2, hr2, rI_get h1t, rI_get hkp, hkp, hg1, hg2, bg0t, bh2f]) <;> exact rfl
  -- leaf 0 (loop0)
  grind))
  · intro bg0f
    have g0f := bg0f
    try simp only [CS] at g0f
    try simp only [BS] at bg0f
    try exact absurd bg0f (by decide)
    all_goals (
  apply Q_pre [10, 11, 12, 13] [14, 15, 16]
  · (simp only [go_sem, hpE, extP, tmE, zipSet, cX_eq, cW_eq, hrp, hrq, bh0f, bh1t, h1t, hb, rI_get hr1, hr1, rI_get hr2, hr2, rI_get h1t, rI_get hkp, hkp, hg1, hg2, bg0f]) <;> exact rfl
  apply Q_run
  · (simp only [go_sem, hpE, extP, tmE, zipSet, cX_eq, cW_eq, hrp, hrq, bh0f, bh1t, h1t, hb, rI_get hr1, hr1, rI_get hr2, hr2, rI_get h1t, rI_get hkp, hkp, hg1, hg2, bg0f]) <;> exact rfl
  apply Q_nil
  apply K_seq
  apply T_if
  · (simp only [go_sem, hpE, extP, tmE, zipSet, cX_eq, cW_eq, hrp, hrq, bh0f, bh1t, h1t, hb, rI_get hr1, hr1, rI_get hr2, hr2, rI_get h1t, rI_get hkp, hkp, hg1, hg2, bg0f]) <;> exact rfl
  · intro bh3t
    exact absurd bh3t (by simp)
  · intro bh3f
    have h3f := bh3f
    try simp only [CS] at h3f
    try simp only [BS] at bh3f
    try exact absurd bh3f (by decide)
    all_goals (
  apply T_skip
  apply K_blk
  apply K_seq
  apply T_r F
  · (simp only [go_sem, hpE, extP, tmE, zipSet, cX_eq, cW_eq, hrp, hrq, bh0f, bh1t, h1t, hb, rI_get hr1, hr1, rI_get hr2, hr2, rI_get h1t, rI_get hkp, hkp, hg1, hg2, bg0f, bh3f]) <;> exact rfl
  refine K_lp (k + 1) ?_ ?_
  · (simp only [go_sem, hpE, extP, tmE, zipSet, cX_eq, cW_eq, hrp, hrq, bh0f, bh1t, h1t, hb, rI_get hr1, hr1, rI_get hr2, hr2, rI_get h1t, rI_get hkp, hkp, hg1, hg2, bg0f, bh3f]) <;> exact rfl
  -- leaf 1 (loop0)
  grind)))
    · intro bh1f
      have h1f := bh1f
      try simp only [CS] at h1f
      try simp only [BS] at bh1f
      try exact absurd bh1f (by decide)
      all_goals (
  have hpv : M.pleases t p q = true := by
    rw [hpi]
    exact ⟨fun e => h0f e.symm, fun j h1 h2 => hj j h1 h2 (by omega)⟩
  apply T_exit
  apply K_seqE
  apply K_lpE
  apply K_blkE
  apply K_seq
  apply T_seq
  apply T_r F
  · (simp only [go_sem, hpE, extP, tmE, zipSet, cX_eq, cW_eq, hrp, hrq, bh0f, bh1f, hpv]) <;> exact rfl
  apply K_seq
  apply T_ret
  apply K_blkR
  apply round_ret
  · (simp only [go_sem, hpE, extP, tmE, zipSet, cX_eq, cW_eq, hrp, hrq, bh0f, bh1f, hpv]) <;> exact rfl
  · simp only [go_sem, hpE, extP, tmE, zipSet, cX_eq, cW_eq, hrp, hrq, bh0f, bh1f, hpv]
  · simp only [go_sem, hpE, extP, tmE, zipSet, cX_eq, cW_eq, hrp, hrq, bh0f, bh1f, hpv]
  · simp only [go_sem, hpE, extP, tmE, zipSet, cX_eq, cW_eq, hrp, hrq, bh0f, bh1f, hpv]
  · rw [hpv]
    first | exact cloE ho | exact cloE (sl_all q)))


theorem feedE {t : Town} {p : List Int} (ok : M.Ok t) (hp : M.plan t p = true) : ∀ (l : List (List Int)), (∀ q ∈ l, q ∈ M.plans t) →
    (l.find? (M.pleases t p) = none → FeedP t (.sl 1 (rI p)) 6 7 8 9 10 l (hpE t p .nil .ready none ++ extP t (.sl 1 (rI p)) 6 7) true (hpE t p .nil .ready none ++ extP t (.sl 1 (rI p)) 6 7)) ∧
    (∀ q, l.find? (M.pleases t p) = some q → FeedP t (.sl 1 (rI p)) 6 7 8 9 10 l (hpE t p .nil .ready none ++ extP t (.sl 1 (rI p)) 6 7) false (hpE t p (.sl 1 (rI q)) .done (some .ret) ++ extP t (.sl 1 (rI p)) 6 7))
  | [], _ => ⟨fun _ => .nil ⟨cloE (fun _ => rfl), rfl, rfl, rfl, rfl⟩, fun q h => by simp at h⟩
  | x :: l, hl => by
    have hx := mv_exchY t p x .nil ok hp (M.mem_plans.1 (hl x (by simp))).1 (fun _ => rfl)
    have ih := feedE ok hp l (fun q hq => hl q (by simp [hq]))
    rw [List.find?_cons]
    cases hpv : M.pleases t p x with
    | true =>
      refine ⟨fun h => by simp at h, fun q h => ?_⟩
      simp only [Option.some.injEq] at h; subst h
      rw [hpv, if_pos rfl] at hx
      exact .stop ⟨cloE (fun _ => rfl), rfl, rfl, rfl, rfl⟩ ⟨cloE (sl_all x), rfl, rfl, rfl, rfl⟩ hx
    | false =>
      rw [hpv, if_neg (by simp)] at hx
      exact ⟨fun h => .go ⟨cloE (fun _ => rfl), rfl, rfl, rfl, rfl⟩ hx (ih.1 h), fun q h => .go ⟨cloE (fun _ => rfl), rfl, rfl, rfl, rfl⟩ hx (ih.2 q h)⟩
def M.exch (t : Town) (p : List Int) : Option (List Int) := (M.plans t).find? (M.pleases t p)

theorem mv_ExchangeA (t : Town) (p : List Int) (hh : t.houses.length ≤ 1000) (he : (M.err t p != 0) = true) : Ret Try.prog 20 [.agg (cT t), .sl 1 (rI p)] (.tup [.nil, .int .i64 (M.err t p)]) := by
  refine Ret.of_fits fun hfits => ?_
  simp only [V.fits, V.fitsL, V.fitsR, cT_fits] at hfits
  have hsl := hfits.1.schools
  apply Ret_fin (fn := Try.f20) Try.func20 rfl
  apply T_seq
  apply T_r F
  · (simp only [go_sem, Try.ntmps20, cX_eq, cW_eq, he]) <;> exact rfl
  apply K_seq
  apply T_scope
  apply T_seq
  apply T_r F
  · (simp only [go_sem, Try.ntmps20, cX_eq, cW_eq, he]) <;> exact rfl
  apply K_seq
  apply T_seq
  apply T_seq
  apply T_wL F [0, 1, 2] rfl
  apply W_pre [0] [1, 2]
  · (simp only [go_sem, Try.ntmps20, cX_eq, cW_eq, he]) <;> exact rfl
  apply W_call -- call 0 of function 49
  · (simp only [go_sem, Try.ntmps20, cX_eq, cW_eq, he]) <;> exact rfl
  · (simp only [go_sem, Try.ntmps20, cX_eq, cW_eq, he]) <;> exact rfl
  · exact rfl
  · (simp only [go_sem, Try.ntmps20, cX_eq, cW_eq, he]) <;> exact rfl
  · (simp only [go_sem, Try.ntmps20, cX_eq, cW_eq, he]) <;> exact rfl
  · exact ⟨_, Try.func49, rfl, rfl⟩
  · (simp only [go_sem, Try.ntmps20, cX_eq, cW_eq, he]) <;> exact rfl
  · (simp only [go_sem, Try.ntmps20, cX_eq, cW_eq, he]) <;> exact rfl
  · exact mv_allowed _ _ (by omega)
  apply W_run
  · (simp only [go_sem, Try.ntmps20, cX_eq, cW_eq, he]) <;> exact rfl
  apply W_nil
  apply K_seq
  apply T_seq
  apply T_r F
  · (simp only [go_sem, Try.ntmps20, cX_eq, cW_eq, he]) <;> exact rfl
  apply K_seq
  apply T_ifT -- h0
  · (simp only [go_sem, Try.ntmps20, cX_eq, cW_eq, he]) <;> exact rfl
  apply T_seq
  apply T_r F
  · (simp only [go_sem, Try.ntmps20, cX_eq, cW_eq, he]) <;> exact rfl
  apply K_seq
  apply T_ret
  apply K_seqR
  apply K_scopeR
  apply fin_ret
  · (simp only [go_sem, Try.ntmps20, cX_eq, cW_eq, he, Try.f20]) <;> exact rfl
  -- leaf 0 (ret)
  
  all_goals rfl

theorem mv_ExchangeB (t : Town) (p : List Int) (hh : t.houses.length ≤ 1000) (he : M.err t p = 0) (hf : M.exch t p = none) : Ret Try.prog 20 [.agg (cT t), .sl 1 (rI p)] (.tup [.nil, .int .i64 5]) := by
  refine Ret.of_fits fun hfits => ?_
  simp only [V.fits, V.fitsL, V.fitsR, cT_fits] at hfits
  have hsl := hfits.1.schools
  have hop : M.Ok t ∧ M.plan t p = true := by
    unfold M.err at he
    split at he
    · assumption
    · exact absurd he (by decide)
  have ok := hop.1
  have hp := hop.2
  have hpl := (M.plan_iff.1 hp).1
  have h6 := M.houses_le ok
  apply Ret_fin (fn := Try.f20) Try.func20 rfl
  apply T_seq
  apply T_r F
  · (simp only [go_sem, Try.ntmps20, cX_eq, cW_eq, he, hpE, tmE]) <;> exact rfl
  apply K_seq
  apply T_scope
  apply T_seq
  apply T_r F
  · (simp only [go_sem, Try.ntmps20, cX_eq, cW_eq, he, hpE, tmE]) <;> exact rfl
  apply K_seq
  apply T_seq
  apply T_seq
  apply T_wL F [0, 1, 2] rfl
  apply W_pre [0] [1, 2]
  · (simp only [go_sem, Try.ntmps20, cX_eq, cW_eq, he, hpE, tmE]) <;> exact rfl
  apply W_call -- call 0 of function 49
  · (simp only [go_sem, Try.ntmps20, cX_eq, cW_eq, he, hpE, tmE]) <;> exact rfl
  · (simp only [go_sem, Try.ntmps20, cX_eq, cW_eq, he, hpE, tmE]) <;> exact rfl
  · exact rfl
  · (simp only [go_sem, Try.ntmps20, cX_eq, cW_eq, he, hpE, tmE]) <;> exact rfl
  · (simp only [go_sem, Try.ntmps20, cX_eq, cW_eq, he, hpE, tmE]) <;> exact rfl
  · exact ⟨_, Try.func49, rfl, rfl⟩
  · (simp only [go_sem, Try.ntmps20, cX_eq, cW_eq, he, hpE, tmE]) <;> exact rfl
  · (simp only [go_sem, Try.ntmps20, cX_eq, cW_eq, he, hpE, tmE]) <;> exact rfl
  · exact mv_allowed _ _ (by omega)
  apply W_run
  · (simp only [go_sem, Try.ntmps20, cX_eq, cW_eq, he, hpE, tmE]) <;> exact rfl
  apply W_nil
  apply K_seq
  apply T_seq
  apply T_r F
  · (simp only [go_sem, Try.ntmps20, cX_eq, cW_eq, he, hpE, tmE]) <;> exact rfl
  apply K_seq
  apply T_ifF -- h0
  · (simp only [go_sem, Try.ntmps20, cX_eq, cW_eq, he, hpE, tmE]) <;> exact rfl
  apply T_skip
  apply K_seq
  apply T_seq
  apply T_wL F [0, 1, 2, 3] rfl
  apply W_pre [0] [1, 2, 3]
  · (simp only [go_sem, Try.ntmps20, cX_eq, cW_eq, he, hpE, tmE]) <;> exact rfl
  apply W_call -- call 1 of function 50
  · (simp only [go_sem, Try.ntmps20, cX_eq, cW_eq, he, hpE, tmE]) <;> exact rfl
  · (simp only [go_sem, Try.ntmps20, cX_eq, cW_eq, he, hpE, tmE]) <;> exact rfl
  · exact rfl
  · (simp only [go_sem, Try.ntmps20, cX_eq, cW_eq, he, hpE, tmE]) <;> exact rfl
  · (simp only [go_sem, Try.ntmps20, cX_eq, cW_eq, he, hpE, tmE]) <;> exact rfl
  · exact ⟨_, Try.func50, rfl, rfl⟩
  · (simp only [go_sem, Try.ntmps20, cX_eq, cW_eq, he, hpE, tmE]) <;> exact rfl
  · (simp only [go_sem, Try.ntmps20, cX_eq, cW_eq, he, hpE, tmE]) <;> exact rfl
  · exact mv_ranks _ _ (by omega) (by omega)
  apply W_run
  · (simp only [go_sem, Try.ntmps20, cX_eq, cW_eq, he, hpE, tmE]) <;> exact rfl
  apply W_nil
  apply K_seq
  apply T_seq
  apply T_label
  apply K_seq
  apply T_seq
  apply T_seq
  apply T_r F
  · (simp only [go_sem, Try.ntmps20, cX_eq, cW_eq, he, hpE, tmE]) <;> exact rfl
  apply K_seq
  apply T_block
  apply T_rangeFunc -- range 0
  · (simp only [go_sem, Try.ntmps20, cX_eq, cW_eq, he, hpE, tmE]) <;> exact rfl
  · exact ⟨_, Try.func51, rfl, rfl⟩
  · exact (mv_plans (h := hpE t p .nil .ready none) (h1 := hpE t p (.nil) .ready (none)) (b := true) (PlV.sl p) ok hh hsl (hpE_closed (fun _ => rfl)) rfl ((feedE ok hp (M.plans t) (fun q hq => hq)).1 hf) : RetS Try.prog 51 [.agg (cX t (.sl 1 (rI p))), .yield 6] (hpE t p .nil .ready none) (.tup []) (hpE t p (.nil) .ready (none)))
  · (simp only [go_sem, Try.ntmps20, cX_eq, cW_eq, he, hpE, tmE]) <;> exact rfl
  · simp
  simp only [contK]
  apply K_blk
  apply K_seq
  apply T_seq
  apply T_r F
  · (simp only [go_sem, Try.ntmps20, cX_eq, cW_eq, he, hpE, tmE]) <;> exact rfl
  apply K_seq
  apply T_ret
  apply K_scopeR
  apply fin_ret
  · (simp only [go_sem, Try.ntmps20, cX_eq, cW_eq, he, hpE, tmE, Try.f20]) <;> exact rfl
  -- leaf 0 (ret)
  
  all_goals rfl

theorem mv_ExchangeC (t : Town) (p : List Int) (hh : t.houses.length ≤ 1000) (he : M.err t p = 0) (q : List Int) (hf : M.exch t p = some q) : Ret Try.prog 20 [.agg (cT t), .sl 1 (rI p)] (.tup [.sl 1 (rI q), .int .i64 0]) := by
  refine Ret.of_fits fun hfits => ?_
  simp only [V.fits, V.fitsL, V.fitsR, cT_fits] at hfits
  have hsl := hfits.1.schools
  have hop : M.Ok t ∧ M.plan t p = true := by
    unfold M.err at he
    split at he
    · assumption
    · exact absurd he (by decide)
  have ok := hop.1
  have hp := hop.2
  have hpl := (M.plan_iff.1 hp).1
  have h6 := M.houses_le ok
  apply Ret_fin (fn := Try.f20) Try.func20 rfl
  apply T_seq
  apply T_r F
  · (simp only [go_sem, Try.ntmps20, cX_eq, cW_eq, he, hpE, tmE]) <;> exact rfl
  apply K_seq
  apply T_scope
  apply T_seq
  apply T_r F
  · (simp only [go_sem, Try.ntmps20, cX_eq, cW_eq, he, hpE, tmE]) <;> exact rfl
  apply K_seq
  apply T_seq
  apply T_seq
  apply T_wL F [0, 1, 2] rfl
  apply W_pre [0] [1, 2]
  · (simp only [go_sem, Try.ntmps20, cX_eq, cW_eq, he, hpE, tmE]) <;> exact rfl
  apply W_call -- call 0 of function 49
  · (simp only [go_sem, Try.ntmps20, cX_eq, cW_eq, he, hpE, tmE]) <;> exact rfl
  · (simp only [go_sem, Try.ntmps20, cX_eq, cW_eq, he, hpE, tmE]) <;> exact rfl
  · exact rfl
  · (simp only [go_sem, Try.ntmps20, cX_eq, cW_eq, he, hpE, tmE]) <;> exact rfl
  · (simp only [go_sem, Try.ntmps20, cX_eq, cW_eq, he, hpE, tmE]) <;> exact rfl
  · exact ⟨_, Try.func49, rfl, rfl⟩
  · (simp only [go_sem, Try.ntmps20, cX_eq, cW_eq, he, hpE, tmE]) <;> exact rfl
  · (simp only [go_sem, Try.ntmps20, cX_eq, cW_eq, he, hpE, tmE]) <;> exact rfl
  · exact mv_allowed _ _ (by omega)
  apply W_run
  · (simp only [go_sem, Try.ntmps20, cX_eq, cW_eq, he, hpE, tmE]) <;> exact rfl
  apply W_nil
  apply K_seq
  apply T_seq
  apply T_r F
  · (simp only [go_sem, Try.ntmps20, cX_eq, cW_eq, he, hpE, tmE]) <;> exact rfl
  apply K_seq
  apply T_ifF -- h0
  · (simp only [go_sem, Try.ntmps20, cX_eq, cW_eq, he, hpE, tmE]) <;> exact rfl
  apply T_skip
  apply K_seq
  apply T_seq
  apply T_wL F [0, 1, 2, 3] rfl
  apply W_pre [0] [1, 2, 3]
  · (simp only [go_sem, Try.ntmps20, cX_eq, cW_eq, he, hpE, tmE]) <;> exact rfl
  apply W_call -- call 1 of function 50
  · (simp only [go_sem, Try.ntmps20, cX_eq, cW_eq, he, hpE, tmE]) <;> exact rfl
  · (simp only [go_sem, Try.ntmps20, cX_eq, cW_eq, he, hpE, tmE]) <;> exact rfl
  · exact rfl
  · (simp only [go_sem, Try.ntmps20, cX_eq, cW_eq, he, hpE, tmE]) <;> exact rfl
  · (simp only [go_sem, Try.ntmps20, cX_eq, cW_eq, he, hpE, tmE]) <;> exact rfl
  · exact ⟨_, Try.func50, rfl, rfl⟩
  · (simp only [go_sem, Try.ntmps20, cX_eq, cW_eq, he, hpE, tmE]) <;> exact rfl
  · (simp only [go_sem, Try.ntmps20, cX_eq, cW_eq, he, hpE, tmE]) <;> exact rfl
  · exact mv_ranks _ _ (by omega) (by omega)
  apply W_run
  · (simp only [go_sem, Try.ntmps20, cX_eq, cW_eq, he, hpE, tmE]) <;> exact rfl
  apply W_nil
  apply K_seq
  apply T_seq
  apply T_label
  apply K_seq
  apply T_seq
  apply T_seq
  apply T_r F
  · (simp only [go_sem, Try.ntmps20, cX_eq, cW_eq, he, hpE, tmE]) <;> exact rfl
  apply K_seq
  apply T_block
  apply T_rangeFunc -- range 0
  · (simp only [go_sem, Try.ntmps20, cX_eq, cW_eq, he, hpE, tmE]) <;> exact rfl
  · exact ⟨_, Try.func51, rfl, rfl⟩
  · exact (mv_plans (h := hpE t p .nil .ready none) (h1 := hpE t p (.sl 1 (rI q)) .done (some .ret)) (b := false) (PlV.sl p) ok hh hsl (hpE_closed (sl_all q)) rfl ((feedE ok hp (M.plans t) (fun q hq => hq)).2 q hf) : RetS Try.prog 51 [.agg (cX t (.sl 1 (rI p))), .yield 6] (hpE t p .nil .ready none) (.tup []) (hpE t p (.sl 1 (rI q)) .done (some .ret)))
  · (simp only [go_sem, Try.ntmps20, cX_eq, cW_eq, he, hpE, tmE]) <;> exact rfl
  · simp
  apply T_ret
  apply K_blkR
  apply K_seqR
  apply K_scopeR
  apply fin_ret
  · (simp only [go_sem, Try.ntmps20, cX_eq, cW_eq, he, hpE, tmE, Try.f20]) <;> exact rfl
  -- leaf 0 (ret)
  simp only [go_sem, Try.ntmps20, cX_eq, cW_eq, he, hpE, tmE, V.bool.injEq, V.int.injEq, true_and]
  all_goals rfl

end Go.Ab
namespace Go.Ab
open Go Go.RowKit Go.Proofs
set_option linter.unusedVariables false
namespace M
/-! ### pleased, as the law reads it -/
def betterL (w : List Int) (x y : Int) : Bool := (w.takeWhile (fun z => !(z == x))).contains y
def plAt (t : Town) (p q : List Int) (i : Nat) : Bool := at' p i == at' q i || betterL (hs t i).wishes (at' p i) (at' q i)
def pleasedL (t : Town) (p q : List Int) : Bool := (List.range p.length).all (plAt t p q) && differ p q
theorem pleasedL_no {t : Town} {p q : List Int} {k : Nat} (hk : k < p.length) (h : plAt t p q k = false) : pleasedL t p q = false := by
  unfold pleasedL
  rw [Bool.and_eq_false_iff]
  left
  rw [List.all_eq_false]
  exact ⟨k, List.mem_range.2 hk, by simp [h]⟩
theorem betterL_eq {x y : Int} : ∀ {j : Nat} {w : List Int}, (∀ i, i < j → w[i]? ≠ some x) → j ≤ w.length → (w.length ≤ j ∨ w[j]? = some x) → betterL w x y = (w.take j).contains y
  | 0, w, _, _, he => by
    cases w with
    | nil => rfl
    | cons a w =>
      rcases he with he | he
      · simp at he
      · simp only [List.getElem?_cons_zero, Option.some.injEq] at he; subst he
        simp [betterL]
  | j + 1, w, h, hj, he => by
    cases w with
    | nil => simp at hj
    | cons a w =>
      have ha : a ≠ x := fun e => h 0 (by omega) (by simp [e])
      have ih := betterL_eq (x := x) (y := y) (j := j) (w := w) (fun i hi => by simpa using h (i + 1) (by omega)) (by simpa using hj) (by simpa using he)
      unfold betterL at ih ⊢
      rw [List.takeWhile_cons]
      simp only [ha, Bool.not_eq_true', beq_eq_false_iff_ne, ne_eq, not_false_eq_true, if_true, List.take_succ_cons, List.contains_cons]
      rw [ih]
theorem contains_take {w : List Int} {y : Int} {j : Nat} (h : j < w.length) : (w.take (j + 1)).contains y = ((w.take j).contains y || w[j] == y) := by
  rw [List.take_succ_eq_append_getElem h, Bool.eq_iff_iff]
  simp only [List.contains_iff_mem, List.mem_append, List.mem_singleton, Bool.or_eq_true, beq_iff_eq]
  constructor
  · rintro (h | h)
    · exact .inl h
    · exact .inr h.symm
  · rintro (h | h)
    · exact .inl h
    · exact .inr h.symm
theorem pos_some {w : List Int} {y : Int} {k : Nat} : pos w y = some k ↔ ∃ h : k < w.length, w[k] = y ∧ ∀ j (hj : j < k), w[j] ≠ y := by
  unfold pos
  rw [List.findIdx?_eq_some_iff_getElem]
  simp
theorem contains_pos {w : List Int} {y : Int} {k ky : Nat} (h : pos w y = some ky) : (w.take k).contains y = decide (ky < k) := by
  obtain ⟨h1, h2, h3⟩ := pos_some.1 h
  rw [Bool.eq_iff_iff, List.contains_iff_mem, decide_eq_true_eq, List.mem_take_iff_getElem]
  constructor
  · rintro ⟨i, hi, rfl⟩
    rcases Nat.lt_or_ge i ky with h' | h'
    · exact absurd rfl (h3 i h')
    · omega
  · intro hlt
    exact ⟨ky, by omega, h2⟩
theorem contains_none {w : List Int} {y : Int} (h : pos w y = none) (k : Nat) : (w.take k).contains y = false := by
  rw [← Bool.not_eq_true, List.contains_iff_mem]
  intro hm
  unfold pos at h
  rw [List.findIdx?_eq_none_iff] at h
  have := h y (List.mem_of_mem_take hm)
  simp at this
theorem betterL_rank {t : Town} {i : Nat} {x y : Int} (hx : 0 ≤ rank t i x) (hy : 0 ≤ rank t i y) : betterL (hs t i).wishes x y = decide (rank t i y < rank t i x) := by
  rw [Bool.eq_iff_iff, decide_eq_true_eq]
  unfold rank hs at *
  cases hh : t.houses[i]? with
  | none => simp [hh] at hx
  | some h =>
    simp only [hh, Option.getD_some] at hx hy ⊢
    have key : ∀ j, (∀ i, i < j → h.wishes[i]? ≠ some x) → j ≤ h.wishes.length → (h.wishes.length ≤ j ∨ h.wishes[j]? = some x) → betterL h.wishes x y = (h.wishes.take j).contains y := fun j => betterL_eq
    cases px : pos h.wishes x with
    | some kx =>
      obtain ⟨h1, h2, h3⟩ := pos_some.1 px
      rw [key kx (fun i hi => by rw [List.getElem?_eq_getElem (by omega)]; simpa using h3 i hi) (by omega) (.inr (by rw [List.getElem?_eq_getElem h1, h2]))]
      cases py : pos h.wishes y with
      | some ky => rw [contains_pos py]; simp
      | none =>
        rw [contains_none py]
        rw [py] at hy
        simp only at hy ⊢
        split at hy
        · rename_i hl
          simp only [hl, if_true]; simp; omega
        · omega
    | none =>
      have hn : ∀ i, i < h.wishes.length → h.wishes[i]? ≠ some x := fun i hi e => by
        unfold pos at px
        rw [List.findIdx?_eq_none_iff] at px
        have := px x (List.mem_of_getElem? e)
        simp at this
      rw [key h.wishes.length hn (Nat.le_refl _) (.inl (Nat.le_refl _))]
      rw [px] at hx
      simp only at hx ⊢
      split at hx
      · rename_i hl
        cases py : pos h.wishes y with
        | some ky =>
          obtain ⟨h1, _⟩ := pos_some.1 py
          rw [contains_pos py]; simp [hl]
        | none =>
          rw [contains_none py]
          rw [py] at hy
          simp only at hy ⊢
          split at hy
          · rename_i hl'; rw [if_pos hl, if_pos hl']; simp
          · omega
      · omega
theorem allowed_rank {t : Town} {p : List Int} (ha : allowed t p = true) {i : Nat} (hi : i < p.length) : 0 ≤ rank t i (at' p i) := by
  have := ((allowed_iff.1 ha).1 i hi).2.2.1
  unfold unwished at this
  simpa using this
theorem pleasedL_eq {t : Town} {p q : List Int} (hl : p.length = q.length) (hp : allowed t p = true) (hq : allowed t q = true) : pleasedL t p q = pleases t p q := by
  unfold pleasedL pleases
  congr 1
  rw [Bool.eq_iff_iff, List.all_eq_true, List.all_eq_true]
  have key : ∀ i, i < p.length → plAt t p q i = pleaseAt t p q i := fun i hi => by
    unfold plAt pleaseAt
    rw [betterL_rank (allowed_rank hp hi) (allowed_rank hq (by omega))]
  constructor
  · intro h x hx; rw [← key x (List.mem_range.1 hx)]; exact h x hx
  · intro h x hx; rw [key x (List.mem_range.1 hx)]; exact h x hx
/-! ### exchanges -/
theorem exch_none {t : Town} {p q : List Int} (h : exch t p = none) (hq : plan t q = true) (ha : allowed t q = true) : pleases t p q = false := by
  unfold exch at h
  rw [List.find?_eq_none] at h
  simpa using h q (mem_plans.2 ⟨hq, ha⟩)
theorem find_sorted {l : List (List Int)} {f : List Int → Bool} {q : List Int} (hs : l.Pairwise fun a b => before a b = true) (h : l.find? f = some q) : q ∈ l ∧ f q = true ∧ ∀ o ∈ l, f o = true → before o q = false := by
  refine ⟨List.mem_of_find?_eq_some h, List.find?_some h, fun o ho hf => ?_⟩
  induction l with
  | nil => simp at ho
  | cons x l ih =>
    rw [List.pairwise_cons] at hs
    rw [List.find?_cons] at h
    cases hx : f x with
    | true =>
      rw [hx] at h; simp only [Option.some.injEq] at h; subst h
      rcases List.mem_cons.1 ho with rfl | ho
      · exact before_irrefl _
      · exact before_asymm (hs.1 o ho)
    | false =>
      rw [hx] at h
      rcases List.mem_cons.1 ho with rfl | ho
      · rw [hx] at hf; cases hf
      · exact ih hs.2 h ho
theorem exch_some {t : Town} {p q : List Int} (h : exch t p = some q) : plan t q = true ∧ allowed t q = true ∧ pleases t p q = true ∧ ∀ o, plan t o = true → allowed t o = true → pleases t p o = true → before o q = false := by
  obtain ⟨h1, h2, h3⟩ := find_sorted (plans_sorted t) h
  obtain ⟨a, b⟩ := mem_plans.1 h1
  exact ⟨a, b, h2, fun o ho ha hp => h3 o (mem_plans.2 ⟨ho, ha⟩) hp⟩
end M
theorem mv_FaultK {t : Town} {p : List Int} (hh : t.houses.length ≤ 1000) (ok : M.Ok t) (hp : M.plan t p = true) : Ret Try.prog 17 [.agg (cT t), .sl 1 (rI p)] (.tup [.agg [.int .i64 (M.fault t p).1, .int .i64 (M.fault t p).2], .int .i64 0]) := by
  have := mv_Fault t p hh
  rw [if_pos ⟨ok, hp⟩] at this
  exact this
end Go.Ab
namespace Go.Ab
open Go Go.RowKit Go.Proofs Fac
set_option linter.unusedVariables false
set_option linter.unusedSimpArgs false
set_option maxRecDepth 4000
set_option maxHeartbeats 1000000





theorem law_pleased (t : Town) (p q : List Int) (hp : p.length = t.houses.length) (hq : q.length = t.houses.length) : Ret Try.prog 24 [.agg (cT t), .sl 1 (rI p), .sl 1 (rI q)] (.bool (M.pleasedL t p q)) := by
  refine Ret.of_fits fun hfits => ?_
  simp only [V.fits, V.fitsL, V.fitsR, cT_fits] at hfits
  simp only [rI_length] at hfits
  have hl := hfits.2.1.1
  have hlw := hfits.1.wishes
  apply Ret_fin (fn := Try.f24) Try.func24 rfl
  apply T_seq
  apply T_r F
  · (simp only [go_sem, Try.ntmps24]) <;> exact rfl
  apply K_seq
  apply T_seq
  apply T_r F
  · (simp only [go_sem, Try.ntmps24]) <;> exact rfl
  apply K_seq
  apply T_seq
  apply T_seq
  apply T_r F
  · (simp only [go_sem, Try.ntmps24]) <;> exact rfl
  apply K_seq
  apply T_block
  apply T_lp (α := Nat) [false, true, true, true, false, false, false, true, true, false, false, false, false, false, false, false, false, false, false, false, false, false, false, false, false, false, false, false, false, false, false, false, false, false, false, false, false, false, false, false, false, false, false, false, false, false, false, false, false, false, false, false, false, false, false, false, false, false, false, false, false, false, false, false, false] (fun k => (⟨[.undef, .sl 1 (rI p), .sl 1 (rI q), .ptr 0 0, .undef, .undef, .undef, .bool (M.differ (p.take k) (q.take k)), .int .i64 (k : Int), .undef, .undef, .undef, .undef, .undef, .undef, .undef, .undef, .undef, .undef, .undef, .undef, .undef, .undef, .undef, .undef, .undef, .undef, .undef, .undef, .undef, .undef, .undef, .undef, .undef, .undef, .undef, .undef, .undef, .undef, .undef, .undef, .undef, .undef, .undef, .undef, .undef, .undef, .undef, .undef, .undef, .undef, .undef, .undef, .undef, .undef, .undef, .undef, .undef, .undef, .undef, .undef, .undef, .undef, .undef, .undef], [.box 28 (cT t)]⟩ : St)) (fun k => k ≤ p.length ∧ ∀ j, j < k → M.plAt t p q j = true) (fun k => p.length - k) (0)
  · (simp only [go_sem, Try.ntmps24]) <;> exact rfl
  · simp
  · rintro k ⟨hk, hj⟩
    apply T_seq
    apply T_seq
    apply T_r F
    · (simp only [go_sem, Try.ntmps24]) <;> exact rfl
    apply K_seq
    apply T_if
    · (simp only [go_sem, Try.ntmps24]) <;> exact rfl
    · intro bh0t
      have h0t := bh0t
      try simp only [CS] at h0t
      try simp only [BS] at bh0t
      try exact absurd bh0t (by decide)
      all_goals (
  have hb : k < 9223372036854775807 := by omega
  have hqk : k < q.length := by omega
  have hhk : k < t.houses.length := by omega
  have hd := M.differ_step h0t hqk
  have hlw1 := hlw _ (List.getElem_mem hhk)
  have hpa : M.plAt t p q k = (p[k] == q[k] || M.betterL t.houses[k].wishes p[k] q[k]) := by simp [M.plAt, M.at_get h0t, M.at_get hqk, M.hs_get hhk]
  apply T_skip
  apply K_seq
  apply T_seq
  apply T_block
  apply T_seq
  apply T_seq
  apply T_qL F [0, 1, 2, 3, 4, 5, 6, 7, 8] rfl (by kernel_rfl)
  apply Q_pre [0, 1, 2, 3] [4, 5, 6, 7, 8]
  · (simp only [go_sem, Try.ntmps24, bh0t, h0t, hqk, hhk, rI_get h0t, rI_get hqk, rH_get hhk, hb, hd]) <;> exact rfl
  apply Q_run
  · (simp only [go_sem, Try.ntmps24, bh0t, h0t, hqk, hhk, rI_get h0t, rI_get hqk, rH_get hhk, hb, hd]) <;> exact rfl
  apply Q_nil
  apply K_seq
  apply T_if
  · (simp only [go_sem, Try.ntmps24, bh0t, h0t, hqk, hhk, rI_get h0t, rI_get hqk, rH_get hhk, hb, hd]) <;> exact rfl
  · intro bh1t
    have h1t := bh1t
    try simp only [CS] at h1t
    try simp only [BS] at bh1t
    try exact absurd bh1t (by decide)
    all_goals (
  apply T_exit
  apply K_seqE
  apply K_blkE
  apply K_seq
  apply T_r F
  · (simp only [go_sem, Try.ntmps24, bh0t, h0t, hqk, hhk, rI_get h0t, rI_get hqk, rH_get hhk, hb, hd, bh1t]) <;> exact rfl
  refine K_lp (k + 1) ?_ ?_
  · (simp only [go_sem, Try.ntmps24, bh0t, h0t, hqk, hhk, rI_get h0t, rI_get hqk, rH_get hhk, hb, hd, bh1t]) <;> exact rfl
  -- leaf 0 (loop0)
  grind [M.differ])
  · intro bh1f
    have h1f := bh1f
    try simp only [CS] at h1f
    try simp only [BS] at bh1f
    try exact absurd bh1f (by decide)
    all_goals (
  apply T_skip
  apply K_seq
  apply T_seq
  apply T_r F
  · (simp only [go_sem, Try.ntmps24, bh0t, h0t, hqk, hhk, rI_get h0t, rI_get hqk, rH_get hhk, hb, hd, bh1f, Bool.or_true]) <;> exact rfl
  apply K_seq
  apply T_seq
  apply T_r F
  · (simp only [go_sem, Try.ntmps24, bh0t, h0t, hqk, hhk, rI_get h0t, rI_get hqk, rH_get hhk, hb, hd, bh1f, Bool.or_true]) <;> exact rfl
  apply K_seq
  apply T_seq
  apply T_r F
  · (simp only [go_sem, Try.ntmps24, bh0t, h0t, hqk, hhk, rI_get h0t, rI_get hqk, rH_get hhk, hb, hd, bh1f, Bool.or_true]) <;> exact rfl
  apply K_seq
  apply T_seq
  apply T_seq
  apply T_r F
  · (simp only [go_sem, Try.ntmps24, bh0t, h0t, hqk, hhk, rI_get h0t, rI_get hqk, rH_get hhk, hb, hd, bh1f, Bool.or_true]) <;> exact rfl
  apply K_seq
  apply T_block
  apply T_lp (α := Nat) [false, true, true, true, false, false, false, true, true, true, true, true, false, false, false, false, false, false, false, false, false, false, false, false, false, false, false, false, false, false, false, false, false, false, false, false, false, false, false, false, false, false, false, false, false, false, false, false, false, false, false, false, false, false, false, false, false, false, false, false, false, false, false, false, false] (fun i => (⟨[.undef, .sl 1 (rI p), .sl 1 (rI q), .ptr 0 0, .undef, .undef, .undef, .bool true, .int .i64 (k : Int), .bool ((t.houses[k].wishes.take i).contains q[k]), .sl 1 (rI t.houses[k].wishes), .int .i64 (i : Int), .undef, .undef, .undef, .undef, .undef, .undef, .undef, .undef, .undef, .undef, .undef, .undef, .undef, .undef, .undef, .undef, .undef, .undef, .undef, .undef, .undef, .undef, .undef, .undef, .undef, .undef, .undef, .undef, .undef, .undef, .undef, .undef, .undef, .undef, .undef, .undef, .undef, .undef, .undef, .undef, .undef, .undef, .undef, .undef, .undef, .undef, .undef, .undef, .undef, .undef, .undef, .undef, .undef], [.box 28 (cT t)]⟩ : St)) (fun i => i ≤ t.houses[k].wishes.length ∧ ∀ j, j < i → t.houses[k].wishes[j]? ≠ some p[k]) (fun i => t.houses[k].wishes.length - i) (0)
  · (simp only [go_sem, Try.ntmps24, bh0t, h0t, hqk, hhk, rI_get h0t, rI_get hqk, rH_get hhk, hb, hd, bh1f, Bool.or_true]) <;> exact rfl
  · simp
  · rintro i ⟨hi, hij⟩
    apply T_seq
    apply T_seq
    apply T_qL F [0, 1, 2, 3, 4, 5, 6, 7, 8, 9, 10, 11, 12, 13, 14] rfl (by kernel_rfl)
    apply Q_pre [0, 1, 2, 3, 4] [5, 6, 7, 8, 9, 10, 11, 12, 13, 14]
    · (simp only [go_sem, Try.ntmps24, bh0t, h0t, hqk, hhk, rI_get h0t, rI_get hqk, rH_get hhk, hb, hd, bh1f, Bool.or_true]) <;> exact rfl
    apply Q_guard
    · (simp only [go_sem, Try.ntmps24, bh0t, h0t, hqk, hhk, rI_get h0t, rI_get hqk, rH_get hhk, hb, hd, bh1f, Bool.or_true]) <;> exact rfl
    · (simp only [go_sem, Try.ntmps24, bh0t, h0t, hqk, hhk, rI_get h0t, rI_get hqk, rH_get hhk, hb, hd, bh1f, Bool.or_true]) <;> exact rfl
    · intro bg0t
      have g0t := bg0t
      try simp only [CS] at g0t
      try simp only [BS] at bg0t
      try exact absurd bg0t (by decide)
      all_goals (
  have hbi : i < 9223372036854775807 := by omega
  have hct := M.contains_take (y := q[k]) g0t
  apply Q_pre [5, 6, 7, 8] [9, 10, 11, 12, 13, 14]
  · (simp only [go_sem, Try.ntmps24, bh0t, h0t, hqk, hhk, rI_get h0t, rI_get hqk, rH_get hhk, hb, hd, bh1f, Bool.or_true, bg0t, g0t, hbi, rI_get g0t]) <;> exact rfl
  apply Q_run
  · (simp only [go_sem, Try.ntmps24, bh0t, h0t, hqk, hhk, rI_get h0t, rI_get hqk, rH_get hhk, hb, hd, bh1f, Bool.or_true, bg0t, g0t, hbi, rI_get g0t]) <;> exact rfl
  apply Q_nil
  apply K_seq
  apply T_if
  · (simp only [go_sem, Try.ntmps24, bh0t, h0t, hqk, hhk, rI_get h0t, rI_get hqk, rH_get hhk, hb, hd, bh1f, Bool.or_true, bg0t, g0t, hbi, rI_get g0t]) <;> exact rfl
  · intro bh2t
    have h2t := bh2t
    try simp only [CS] at h2t
    try simp only [BS] at bh2t
    try exact absurd bh2t (by decide)
    all_goals (
  apply T_skip
  apply K_seq
  apply T_seq
  apply T_block
  apply T_qL F [0, 1, 2, 3, 4, 5, 6, 7, 8, 9, 10, 11, 12] rfl (by kernel_rfl)
  apply Q_pre [0, 1] [2, 3, 4, 5, 6, 7, 8, 9, 10, 11, 12]
  · (simp only [go_sem, Try.ntmps24, bh0t, h0t, hqk, hhk, rI_get h0t, rI_get hqk, rH_get hhk, hb, hd, bh1f, Bool.or_true, bg0t, g0t, hbi, rI_get g0t, bh2t]) <;> exact rfl
  apply Q_guard
  · (simp only [go_sem, Try.ntmps24, bh0t, h0t, hqk, hhk, rI_get h0t, rI_get hqk, rH_get hhk, hb, hd, bh1f, Bool.or_true, bg0t, g0t, hbi, rI_get g0t, bh2t]) <;> exact rfl
  · (simp only [go_sem, Try.ntmps24, bh0t, h0t, hqk, hhk, rI_get h0t, rI_get hqk, rH_get hhk, hb, hd, bh1f, Bool.or_true, bg0t, g0t, hbi, rI_get g0t, bh2t]) <;> exact rfl
  · intro bg1t
    have g1t := bg1t
    try simp only [CS] at g1t
    try simp only [BS] at bg1t
    try exact absurd bg1t (by decide)
    all_goals (
  apply Q_pre [2, 3, 4, 5] [6, 7, 8, 9, 10, 11, 12]
  · (simp only [go_sem, Try.ntmps24, bh0t, h0t, hqk, hhk, rI_get h0t, rI_get hqk, rH_get hhk, hb, hd, bh1f, Bool.or_true, bg0t, g0t, hbi, rI_get g0t, bh2t, bg1t, hct]) <;> exact rfl
  apply Q_pre [6, 7, 8, 9] [10, 11, 12]
  · (simp only [go_sem, Try.ntmps24, bh0t, h0t, hqk, hhk, rI_get h0t, rI_get hqk, rH_get hhk, hb, hd, bh1f, Bool.or_true, bg0t, g0t, hbi, rI_get g0t, bh2t, bg1t, hct]) <;> exact rfl
  apply Q_run
  · (simp only [go_sem, Try.ntmps24, bh0t, h0t, hqk, hhk, rI_get h0t, rI_get hqk, rH_get hhk, hb, hd, bh1f, Bool.or_true, bg0t, g0t, hbi, rI_get g0t, bh2t, bg1t, hct]) <;> exact rfl
  apply Q_nil
  apply K_blk
  apply K_seq
  apply T_r F
  · (simp only [go_sem, Try.ntmps24, bh0t, h0t, hqk, hhk, rI_get h0t, rI_get hqk, rH_get hhk, hb, hd, bh1f, Bool.or_true, bg0t, g0t, hbi, rI_get g0t, bh2t, bg1t, hct]) <;> exact rfl
  refine K_lp (i + 1) ?_ ?_
  · (simp only [go_sem, Try.ntmps24, bh0t, h0t, hqk, hhk, rI_get h0t, rI_get hqk, rH_get hhk, hb, hd, bh1f, Bool.or_true, bg0t, g0t, hbi, rI_get g0t, bh2t, bg1t, hct]) <;> exact rfl
  -- leaf 1 (loop1)
  grind)
  · intro bg1f
    have g1f := bg1f
    try simp only [CS] at g1f
    try simp only [BS] at bg1f
    try exact absurd bg1f (by decide)
    all_goals (
  apply Q_pre [2, 3, 4, 5] [6, 7, 8, 9, 10, 11, 12]
  · (simp only [go_sem, Try.ntmps24, bh0t, h0t, hqk, hhk, rI_get h0t, rI_get hqk, rH_get hhk, hb, hd, bh1f, Bool.or_true, bg0t, g0t, hbi, rI_get g0t, bh2t, bg1f, hct]) <;> exact rfl
  apply Q_pre [6, 7, 8, 9] [10, 11, 12]
  · (simp only [go_sem, Try.ntmps24, bh0t, h0t, hqk, hhk, rI_get h0t, rI_get hqk, rH_get hhk, hb, hd, bh1f, Bool.or_true, bg0t, g0t, hbi, rI_get g0t, bh2t, bg1f, hct]) <;> exact rfl
  apply Q_run
  · (simp only [go_sem, Try.ntmps24, bh0t, h0t, hqk, hhk, rI_get h0t, rI_get hqk, rH_get hhk, hb, hd, bh1f, Bool.or_true, bg0t, g0t, hbi, rI_get g0t, bh2t, bg1f, hct]) <;> exact rfl
  apply Q_nil
  apply K_blk
  apply K_seq
  apply T_r F
  · (simp only [go_sem, Try.ntmps24, bh0t, h0t, hqk, hhk, rI_get h0t, rI_get hqk, rH_get hhk, hb, hd, bh1f, Bool.or_true, bg0t, g0t, hbi, rI_get g0t, bh2t, bg1f, hct]) <;> exact rfl
  refine K_lp (i + 1) ?_ ?_
  · (simp only [go_sem, Try.ntmps24, bh0t, h0t, hqk, hhk, rI_get h0t, rI_get hqk, rH_get hhk, hb, hd, bh1f, Bool.or_true, bg0t, g0t, hbi, rI_get g0t, bh2t, bg1f, hct]) <;> exact rfl
  -- leaf 2 (loop1)
  grind))
  · intro bh2f
    have h2f := bh2f
    try simp only [CS] at h2f
    try simp only [BS] at bh2f
    try exact absurd bh2f (by decide)
    all_goals (
  have hwx : t.houses[k].wishes[i]? = some p[k] := by rw [List.getElem?_eq_getElem g0t]; exact congrArg some h2f
  have hbl := M.betterL_eq (y := q[k]) hij hi (.inr hwx)
  apply T_exit
  apply K_seqE
  apply K_lpE
  apply K_blkE
  apply K_seq
  apply T_seq
  apply T_r F
  · (simp only [go_sem, Try.ntmps24, bh0t, h0t, hqk, hhk, rI_get h0t, rI_get hqk, rH_get hhk, hb, hd, bh1f, Bool.or_true, bg0t, g0t, hbi, rI_get g0t, bh2f]) <;> exact rfl
  apply K_seq
  apply T_if
  · (simp only [go_sem, Try.ntmps24, bh0t, h0t, hqk, hhk, rI_get h0t, rI_get hqk, rH_get hhk, hb, hd, bh1f, Bool.or_true, bg0t, g0t, hbi, rI_get g0t, bh2f]) <;> exact rfl
  · intro bh3t
    have h3t := bh3t
    try simp only [CS] at h3t
    try simp only [BS] at bh3t
    try exact absurd bh3t (by decide)
    all_goals (
  have hno := M.pleasedL_no h0t (by rw [hpa, bh1f, hbl, bh3t]; rfl)
  apply T_seq
  apply T_r F
  · (simp only [go_sem, Try.ntmps24, bh0t, h0t, hqk, hhk, rI_get h0t, rI_get hqk, rH_get hhk, hb, hd, bh1f, Bool.or_true, bg0t, g0t, hbi, rI_get g0t, bh2f, bh3t, hno]) <;> exact rfl
  apply K_seq
  apply T_ret
  apply K_blkR
  apply K_seqR
  apply K_lpR
  apply K_blkR
  apply K_seqR
  apply fin_ret
  · (simp only [go_sem, Try.ntmps24, bh0t, h0t, hqk, hhk, rI_get h0t, rI_get hqk, rH_get hhk, hb, hd, bh1f, Bool.or_true, bg0t, g0t, hbi, rI_get g0t, bh2f, bh3t, hno, Try.f24]) <;> exact rfl
  -- leaf 3 (ret)
  simp only [go_sem, Try.ntmps24, bh0t, h0t, hqk, hhk, rI_get h0t, rI_get hqk, rH_get hhk, hb, hd, bh1f, Bool.or_true, bg0t, g0t, hbi, rI_get g0t, bh2f, bh3t, hno, V.bool.injEq, V.int.injEq, true_and]
  all_goals rfl)
  · intro bh3f
    have h3f := bh3f
    try simp only [CS] at h3f
    try simp only [BS] at bh3f
    try exact absurd bh3f (by decide)
    all_goals (
  have hyes : M.plAt t p q k = true := by rw [hpa, hbl, bh3f]; simp
  apply T_skip
  apply K_blk
  apply K_seq
  apply T_r F
  · (simp only [go_sem, Try.ntmps24, bh0t, h0t, hqk, hhk, rI_get h0t, rI_get hqk, rH_get hhk, hb, hd, bh1f, Bool.or_true, bg0t, g0t, hbi, rI_get g0t, bh2f, bh3f]) <;> exact rfl
  refine K_lp (k + 1) ?_ ?_
  · (simp only [go_sem, Try.ntmps24, bh0t, h0t, hqk, hhk, rI_get h0t, rI_get hqk, rH_get hhk, hb, hd, bh1f, Bool.or_true, bg0t, g0t, hbi, rI_get g0t, bh2f, bh3f]) <;> exact rfl
  -- leaf 4 (loop0)
  grind [M.differ])))
    · intro bg0f
      have g0f := bg0f
      try simp only [CS] at g0f
      try simp only [BS] at bg0f
      try exact absurd bg0f (by decide)
      all_goals (
  have hbl := M.betterL_eq (y := q[k]) hij hi (.inl (by omega))
  apply Q_pre [5, 6, 7, 8] [9, 10, 11, 12, 13, 14]
  · (simp only [go_sem, Try.ntmps24, bh0t, h0t, hqk, hhk, rI_get h0t, rI_get hqk, rH_get hhk, hb, hd, bh1f, Bool.or_true, bg0f]) <;> exact rfl
  apply Q_run
  · (simp only [go_sem, Try.ntmps24, bh0t, h0t, hqk, hhk, rI_get h0t, rI_get hqk, rH_get hhk, hb, hd, bh1f, Bool.or_true, bg0f]) <;> exact rfl
  apply Q_nil
  apply K_seq
  apply T_if
  · (simp only [go_sem, Try.ntmps24, bh0t, h0t, hqk, hhk, rI_get h0t, rI_get hqk, rH_get hhk, hb, hd, bh1f, Bool.or_true, bg0f]) <;> exact rfl
  · intro bh4t
    exact absurd bh4t (by simp)
  · intro bh4f
    have h4f := bh4f
    try simp only [CS] at h4f
    try simp only [BS] at bh4f
    try exact absurd bh4f (by decide)
    all_goals (
  apply T_exit
  apply K_seqE
  apply K_lpE
  apply K_blkE
  apply K_seq
  apply T_seq
  apply T_r F
  · (simp only [go_sem, Try.ntmps24, bh0t, h0t, hqk, hhk, rI_get h0t, rI_get hqk, rH_get hhk, hb, hd, bh1f, Bool.or_true, bg0f, bh4f]) <;> exact rfl
  apply K_seq
  apply T_if
  · (simp only [go_sem, Try.ntmps24, bh0t, h0t, hqk, hhk, rI_get h0t, rI_get hqk, rH_get hhk, hb, hd, bh1f, Bool.or_true, bg0f, bh4f]) <;> exact rfl
  · intro bh5t
    have h5t := bh5t
    try simp only [CS] at h5t
    try simp only [BS] at bh5t
    try exact absurd bh5t (by decide)
    all_goals (
  have hno := M.pleasedL_no h0t (by rw [hpa, bh1f, hbl, bh5t]; rfl)
  apply T_seq
  apply T_r F
  · (simp only [go_sem, Try.ntmps24, bh0t, h0t, hqk, hhk, rI_get h0t, rI_get hqk, rH_get hhk, hb, hd, bh1f, Bool.or_true, bg0f, bh4f, bh5t, hno]) <;> exact rfl
  apply K_seq
  apply T_ret
  apply K_blkR
  apply K_seqR
  apply K_lpR
  apply K_blkR
  apply K_seqR
  apply fin_ret
  · (simp only [go_sem, Try.ntmps24, bh0t, h0t, hqk, hhk, rI_get h0t, rI_get hqk, rH_get hhk, hb, hd, bh1f, Bool.or_true, bg0f, bh4f, bh5t, hno, Try.f24]) <;> exact rfl
  -- leaf 5 (ret)
  simp only [go_sem, Try.ntmps24, bh0t, h0t, hqk, hhk, rI_get h0t, rI_get hqk, rH_get hhk, hb, hd, bh1f, Bool.or_true, bg0f, bh4f, bh5t, hno, V.bool.injEq, V.int.injEq, true_and]
  all_goals rfl)
  · intro bh5f
    have h5f := bh5f
    try simp only [CS] at h5f
    try simp only [BS] at bh5f
    try exact absurd bh5f (by decide)
    all_goals (
  have hyes : M.plAt t p q k = true := by rw [hpa, hbl, bh5f]; simp
  apply T_skip
  apply K_blk
  apply K_seq
  apply T_r F
  · (simp only [go_sem, Try.ntmps24, bh0t, h0t, hqk, hhk, rI_get h0t, rI_get hqk, rH_get hhk, hb, hd, bh1f, Bool.or_true, bg0f, bh4f, bh5f]) <;> exact rfl
  refine K_lp (k + 1) ?_ ?_
  · (simp only [go_sem, Try.ntmps24, bh0t, h0t, hqk, hhk, rI_get h0t, rI_get hqk, rH_get hhk, hb, hd, bh1f, Bool.or_true, bg0f, bh4f, bh5f]) <;> exact rfl
  -- leaf 6 (loop0)
  grind [M.differ])))))
    · intro bh0f
      have h0f := bh0f
      try simp only [CS] at h0f
      try simp only [BS] at bh0f
      try exact absurd bh0f (by decide)
      all_goals (
  apply T_exit
  apply K_seqE
  apply K_lpE
  apply K_blkE
  apply K_seq
  apply T_seq
  apply T_r F
  · (simp only [go_sem, Try.ntmps24, bh0f]) <;> exact rfl
  apply K_seq
  apply T_ret
  apply fin_ret
  · (simp only [go_sem, Try.ntmps24, bh0f, Try.f24]) <;> exact rfl
  -- leaf 7 (ret)
  simp only [go_sem, Try.ntmps24, bh0f, V.bool.injEq, V.int.injEq, true_and]
  grind [M.pleasedL, M.differ])

theorem law_settledA (t : Town) (p q : List Int) (hs : ¬ M.Short t) : Ret Try.prog 5 [.agg (cT t), .sl 1 (rI p), .sl 1 (rI q)] (.bool true) := by
  apply Ret_fin (fn := Try.f5) Try.func5 rfl
  apply T_seq
  apply T_r F
  · (simp only [go_sem, Try.ntmps5, hs]) <;> exact rfl
  apply K_seq
  apply T_seq
  apply T_seq
  apply T_wL F [0, 1, 2, 3, 4, 5, 6, 7, 8, 9, 10, 11, 12, 13, 14, 15, 16, 17, 18, 19] rfl
  apply W_pre [0] [1, 2, 3, 4, 5, 6, 7, 8, 9, 10, 11, 12, 13, 14, 15, 16, 17, 18, 19]
  · (simp only [go_sem, Try.ntmps5, hs]) <;> exact rfl
  apply W_call -- call 0 of function 12
  · (simp only [go_sem, Try.ntmps5, hs]) <;> exact rfl
  · (simp only [go_sem, Try.ntmps5, hs]) <;> exact rfl
  · exact rfl
  · (simp only [go_sem, Try.ntmps5, hs]) <;> exact rfl
  · (simp only [go_sem, Try.ntmps5, hs]) <;> exact rfl
  · exact ⟨_, Try.func12, rfl, rfl⟩
  · (simp only [go_sem, Try.ntmps5, hs]) <;> exact rfl
  · (simp only [go_sem, Try.ntmps5, hs]) <;> exact rfl
  · exact law_short _
  apply W_pre [2, 3, 4, 5] [6, 7, 8, 9, 10, 11, 12, 13, 14, 15, 16, 17, 18, 19]
  · (simp only [go_sem, Try.ntmps5, hs]) <;> exact rfl
  apply W_pre [6, 7, 8, 9] [10, 11, 12, 13, 14, 15, 16, 17, 18, 19]
  · (simp only [go_sem, Try.ntmps5, hs]) <;> exact rfl
  apply W_pre [10, 11, 12, 13] [14, 15, 16, 17, 18, 19]
  · (simp only [go_sem, Try.ntmps5, hs]) <;> exact rfl
  apply W_run
  · (simp only [go_sem, Try.ntmps5, hs]) <;> exact rfl
  apply W_nil
  apply K_seq
  apply T_ifT -- h0
  · (simp only [go_sem, Try.ntmps5, hs]) <;> exact rfl
  apply T_seq
  apply T_wL F [0, 1] rfl
  apply W_call -- call 1 of function 16
  · (simp only [go_sem, Try.ntmps5, hs]) <;> exact rfl
  · (simp only [go_sem, Try.ntmps5, hs]) <;> exact rfl
  · exact rfl
  · (simp only [go_sem, Try.ntmps5, hs]) <;> exact rfl
  · (simp only [go_sem, Try.ntmps5, hs]) <;> exact rfl
  · exact ⟨_, Try.func16, rfl, rfl⟩
  · (simp only [go_sem, Try.ntmps5, hs]) <;> exact rfl
  · (simp only [go_sem, Try.ntmps5, hs]) <;> exact rfl
  · exact known_ok
  apply W_run
  · (simp only [go_sem, Try.ntmps5, hs]) <;> exact rfl
  apply W_nil
  apply K_seq
  apply T_ret
  apply K_seqR
  apply fin_ret
  · (simp only [go_sem, Try.ntmps5, hs, Try.f5]) <;> exact rfl
  -- leaf 0 (ret)
  
  all_goals rfl

theorem law_settledB (t : Town) (p q : List Int) (hs : M.Short t) (ok : ¬ M.Ok t) : Ret Try.prog 5 [.agg (cT t), .sl 1 (rI p), .sl 1 (rI q)] (.bool true) := by
  apply Ret_fin (fn := Try.f5) Try.func5 rfl
  apply T_seq
  apply T_r F
  · (simp only [go_sem, Try.ntmps5, hs, ok]) <;> exact rfl
  apply K_seq
  apply T_seq
  apply T_seq
  apply T_wL F [0, 1, 2, 3, 4, 5, 6, 7, 8, 9, 10, 11, 12, 13, 14, 15, 16, 17, 18, 19] rfl
  apply W_pre [0] [1, 2, 3, 4, 5, 6, 7, 8, 9, 10, 11, 12, 13, 14, 15, 16, 17, 18, 19]
  · (simp only [go_sem, Try.ntmps5, hs, ok]) <;> exact rfl
  apply W_call -- call 0 of function 12
  · (simp only [go_sem, Try.ntmps5, hs, ok]) <;> exact rfl
  · (simp only [go_sem, Try.ntmps5, hs, ok]) <;> exact rfl
  · exact rfl
  · (simp only [go_sem, Try.ntmps5, hs, ok]) <;> exact rfl
  · (simp only [go_sem, Try.ntmps5, hs, ok]) <;> exact rfl
  · exact ⟨_, Try.func12, rfl, rfl⟩
  · (simp only [go_sem, Try.ntmps5, hs, ok]) <;> exact rfl
  · (simp only [go_sem, Try.ntmps5, hs, ok]) <;> exact rfl
  · exact law_short _
  apply W_pre [2, 3, 4] [5, 6, 7, 8, 9, 10, 11, 12, 13, 14, 15, 16, 17, 18, 19]
  · (simp only [go_sem, Try.ntmps5, hs, ok]) <;> exact rfl
  apply W_call -- call 1 of function 13
  · (simp only [go_sem, Try.ntmps5, hs, ok]) <;> exact rfl
  · (simp only [go_sem, Try.ntmps5, hs, ok]) <;> exact rfl
  · exact rfl
  · (simp only [go_sem, Try.ntmps5, hs, ok]) <;> exact rfl
  · (simp only [go_sem, Try.ntmps5, hs, ok]) <;> exact rfl
  · exact ⟨_, Try.func13, rfl, rfl⟩
  · (simp only [go_sem, Try.ntmps5, hs, ok]) <;> exact rfl
  · (simp only [go_sem, Try.ntmps5, hs, ok]) <;> exact rfl
  · exact ref_town _
  apply W_pre [6, 7, 8, 9] [10, 11, 12, 13, 14, 15, 16, 17, 18, 19]
  · (simp only [go_sem, Try.ntmps5, hs, ok]) <;> exact rfl
  apply W_pre [10, 11, 12, 13] [14, 15, 16, 17, 18, 19]
  · (simp only [go_sem, Try.ntmps5, hs, ok]) <;> exact rfl
  apply W_run
  · (simp only [go_sem, Try.ntmps5, hs, ok]) <;> exact rfl
  apply W_nil
  apply K_seq
  apply T_ifT -- h0
  · (simp only [go_sem, Try.ntmps5, hs, ok]) <;> exact rfl
  apply T_seq
  apply T_wL F [0, 1] rfl
  apply W_call -- call 2 of function 16
  · (simp only [go_sem, Try.ntmps5, hs, ok]) <;> exact rfl
  · (simp only [go_sem, Try.ntmps5, hs, ok]) <;> exact rfl
  · exact rfl
  · (simp only [go_sem, Try.ntmps5, hs, ok]) <;> exact rfl
  · (simp only [go_sem, Try.ntmps5, hs, ok]) <;> exact rfl
  · exact ⟨_, Try.func16, rfl, rfl⟩
  · (simp only [go_sem, Try.ntmps5, hs, ok]) <;> exact rfl
  · (simp only [go_sem, Try.ntmps5, hs, ok]) <;> exact rfl
  · exact known_ok
  apply W_run
  · (simp only [go_sem, Try.ntmps5, hs, ok]) <;> exact rfl
  apply W_nil
  apply K_seq
  apply T_ret
  apply K_seqR
  apply fin_ret
  · (simp only [go_sem, Try.ntmps5, hs, ok, Try.f5]) <;> exact rfl
  -- leaf 0 (ret)
  
  all_goals rfl

theorem law_settledC (t : Town) (p q : List Int) (hs : M.Short t) (ok : M.Ok t) (hp : M.plan t p = false) : Ret Try.prog 5 [.agg (cT t), .sl 1 (rI p), .sl 1 (rI q)] (.bool true) := by
  apply Ret_fin (fn := Try.f5) Try.func5 rfl
  apply T_seq
  apply T_r F
  · (simp only [go_sem, Try.ntmps5, hs, ok, hp]) <;> exact rfl
  apply K_seq
  apply T_seq
  apply T_seq
  apply T_wL F [0, 1, 2, 3, 4, 5, 6, 7, 8, 9, 10, 11, 12, 13, 14, 15, 16, 17, 18, 19] rfl
  apply W_pre [0] [1, 2, 3, 4, 5, 6, 7, 8, 9, 10, 11, 12, 13, 14, 15, 16, 17, 18, 19]
  · (simp only [go_sem, Try.ntmps5, hs, ok, hp]) <;> exact rfl
  apply W_call -- call 0 of function 12
  · (simp only [go_sem, Try.ntmps5, hs, ok, hp]) <;> exact rfl
  · (simp only [go_sem, Try.ntmps5, hs, ok, hp]) <;> exact rfl
  · exact rfl
  · (simp only [go_sem, Try.ntmps5, hs, ok, hp]) <;> exact rfl
  · (simp only [go_sem, Try.ntmps5, hs, ok, hp]) <;> exact rfl
  · exact ⟨_, Try.func12, rfl, rfl⟩
  · (simp only [go_sem, Try.ntmps5, hs, ok, hp]) <;> exact rfl
  · (simp only [go_sem, Try.ntmps5, hs, ok, hp]) <;> exact rfl
  · exact law_short _
  apply W_pre [2, 3, 4] [5, 6, 7, 8, 9, 10, 11, 12, 13, 14, 15, 16, 17, 18, 19]
  · (simp only [go_sem, Try.ntmps5, hs, ok, hp]) <;> exact rfl
  apply W_call -- call 1 of function 13
  · (simp only [go_sem, Try.ntmps5, hs, ok, hp]) <;> exact rfl
  · (simp only [go_sem, Try.ntmps5, hs, ok, hp]) <;> exact rfl
  · exact rfl
  · (simp only [go_sem, Try.ntmps5, hs, ok, hp]) <;> exact rfl
  · (simp only [go_sem, Try.ntmps5, hs, ok, hp]) <;> exact rfl
  · exact ⟨_, Try.func13, rfl, rfl⟩
  · (simp only [go_sem, Try.ntmps5, hs, ok, hp]) <;> exact rfl
  · (simp only [go_sem, Try.ntmps5, hs, ok, hp]) <;> exact rfl
  · exact ref_town _
  apply W_pre [6, 7, 8, 9, 10] [11, 12, 13, 14, 15, 16, 17, 18, 19]
  · (simp only [go_sem, Try.ntmps5, hs, ok, hp]) <;> exact rfl
  apply W_call -- call 2 of function 14
  · (simp only [go_sem, Try.ntmps5, hs, ok, hp]) <;> exact rfl
  · (simp only [go_sem, Try.ntmps5, hs, ok, hp]) <;> exact rfl
  · exact rfl
  · (simp only [go_sem, Try.ntmps5, hs, ok, hp]) <;> exact rfl
  · (simp only [go_sem, Try.ntmps5, hs, ok, hp]) <;> exact rfl
  · exact ⟨_, Try.func14, rfl, rfl⟩
  · (simp only [go_sem, Try.ntmps5, hs, ok, hp]) <;> exact rfl
  · (simp only [go_sem, Try.ntmps5, hs, ok, hp]) <;> exact rfl
  · exact ref_plan _ _
  apply W_pre [12, 13, 14, 15] [16, 17, 18, 19]
  · (simp only [go_sem, Try.ntmps5, hs, ok, hp]) <;> exact rfl
  apply W_run
  · (simp only [go_sem, Try.ntmps5, hs, ok, hp]) <;> exact rfl
  apply W_nil
  apply K_seq
  apply T_ifT -- h0
  · (simp only [go_sem, Try.ntmps5, hs, ok, hp]) <;> exact rfl
  apply T_seq
  apply T_wL F [0, 1] rfl
  apply W_call -- call 3 of function 16
  · (simp only [go_sem, Try.ntmps5, hs, ok, hp]) <;> exact rfl
  · (simp only [go_sem, Try.ntmps5, hs, ok, hp]) <;> exact rfl
  · exact rfl
  · (simp only [go_sem, Try.ntmps5, hs, ok, hp]) <;> exact rfl
  · (simp only [go_sem, Try.ntmps5, hs, ok, hp]) <;> exact rfl
  · exact ⟨_, Try.func16, rfl, rfl⟩
  · (simp only [go_sem, Try.ntmps5, hs, ok, hp]) <;> exact rfl
  · (simp only [go_sem, Try.ntmps5, hs, ok, hp]) <;> exact rfl
  · exact known_ok
  apply W_run
  · (simp only [go_sem, Try.ntmps5, hs, ok, hp]) <;> exact rfl
  apply W_nil
  apply K_seq
  apply T_ret
  apply K_seqR
  apply fin_ret
  · (simp only [go_sem, Try.ntmps5, hs, ok, hp, Try.f5]) <;> exact rfl
  -- leaf 0 (ret)
  
  all_goals rfl

theorem law_settledD (t : Town) (p q : List Int) (hs : M.Short t) (ok : M.Ok t) (hp : M.plan t p = true) (hq : M.plan t q = false) : Ret Try.prog 5 [.agg (cT t), .sl 1 (rI p), .sl 1 (rI q)] (.bool true) := by
  apply Ret_fin (fn := Try.f5) Try.func5 rfl
  apply T_seq
  apply T_r F
  · (simp only [go_sem, Try.ntmps5, hs, ok, hp, hq]) <;> exact rfl
  apply K_seq
  apply T_seq
  apply T_seq
  apply T_wL F [0, 1, 2, 3, 4, 5, 6, 7, 8, 9, 10, 11, 12, 13, 14, 15, 16, 17, 18, 19] rfl
  apply W_pre [0] [1, 2, 3, 4, 5, 6, 7, 8, 9, 10, 11, 12, 13, 14, 15, 16, 17, 18, 19]
  · (simp only [go_sem, Try.ntmps5, hs, ok, hp, hq]) <;> exact rfl
  apply W_call -- call 0 of function 12
  · (simp only [go_sem, Try.ntmps5, hs, ok, hp, hq]) <;> exact rfl
  · (simp only [go_sem, Try.ntmps5, hs, ok, hp, hq]) <;> exact rfl
  · exact rfl
  · (simp only [go_sem, Try.ntmps5, hs, ok, hp, hq]) <;> exact rfl
  · (simp only [go_sem, Try.ntmps5, hs, ok, hp, hq]) <;> exact rfl
  · exact ⟨_, Try.func12, rfl, rfl⟩
  · (simp only [go_sem, Try.ntmps5, hs, ok, hp, hq]) <;> exact rfl
  · (simp only [go_sem, Try.ntmps5, hs, ok, hp, hq]) <;> exact rfl
  · exact law_short _
  apply W_pre [2, 3, 4] [5, 6, 7, 8, 9, 10, 11, 12, 13, 14, 15, 16, 17, 18, 19]
  · (simp only [go_sem, Try.ntmps5, hs, ok, hp, hq]) <;> exact rfl
  apply W_call -- call 1 of function 13
  · (simp only [go_sem, Try.ntmps5, hs, ok, hp, hq]) <;> exact rfl
  · (simp only [go_sem, Try.ntmps5, hs, ok, hp, hq]) <;> exact rfl
  · exact rfl
  · (simp only [go_sem, Try.ntmps5, hs, ok, hp, hq]) <;> exact rfl
  · (simp only [go_sem, Try.ntmps5, hs, ok, hp, hq]) <;> exact rfl
  · exact ⟨_, Try.func13, rfl, rfl⟩
  · (simp only [go_sem, Try.ntmps5, hs, ok, hp, hq]) <;> exact rfl
  · (simp only [go_sem, Try.ntmps5, hs, ok, hp, hq]) <;> exact rfl
  · exact ref_town _
  apply W_pre [6, 7, 8, 9, 10] [11, 12, 13, 14, 15, 16, 17, 18, 19]
  · (simp only [go_sem, Try.ntmps5, hs, ok, hp, hq]) <;> exact rfl
  apply W_call -- call 2 of function 14
  · (simp only [go_sem, Try.ntmps5, hs, ok, hp, hq]) <;> exact rfl
  · (simp only [go_sem, Try.ntmps5, hs, ok, hp, hq]) <;> exact rfl
  · exact rfl
  · (simp only [go_sem, Try.ntmps5, hs, ok, hp, hq]) <;> exact rfl
  · (simp only [go_sem, Try.ntmps5, hs, ok, hp, hq]) <;> exact rfl
  · exact ⟨_, Try.func14, rfl, rfl⟩
  · (simp only [go_sem, Try.ntmps5, hs, ok, hp, hq]) <;> exact rfl
  · (simp only [go_sem, Try.ntmps5, hs, ok, hp, hq]) <;> exact rfl
  · exact ref_plan _ _
  apply W_pre [12, 13, 14, 15, 16] [17, 18, 19]
  · (simp only [go_sem, Try.ntmps5, hs, ok, hp, hq]) <;> exact rfl
  apply W_call -- call 3 of function 14
  · (simp only [go_sem, Try.ntmps5, hs, ok, hp, hq]) <;> exact rfl
  · (simp only [go_sem, Try.ntmps5, hs, ok, hp, hq]) <;> exact rfl
  · exact rfl
  · (simp only [go_sem, Try.ntmps5, hs, ok, hp, hq]) <;> exact rfl
  · (simp only [go_sem, Try.ntmps5, hs, ok, hp, hq]) <;> exact rfl
  · exact ⟨_, Try.func14, rfl, rfl⟩
  · (simp only [go_sem, Try.ntmps5, hs, ok, hp, hq]) <;> exact rfl
  · (simp only [go_sem, Try.ntmps5, hs, ok, hp, hq]) <;> exact rfl
  · exact ref_plan _ _
  apply W_run
  · (simp only [go_sem, Try.ntmps5, hs, ok, hp, hq]) <;> exact rfl
  apply W_nil
  apply K_seq
  apply T_ifT -- h0
  · (simp only [go_sem, Try.ntmps5, hs, ok, hp, hq]) <;> exact rfl
  apply T_seq
  apply T_wL F [0, 1] rfl
  apply W_call -- call 4 of function 16
  · (simp only [go_sem, Try.ntmps5, hs, ok, hp, hq]) <;> exact rfl
  · (simp only [go_sem, Try.ntmps5, hs, ok, hp, hq]) <;> exact rfl
  · exact rfl
  · (simp only [go_sem, Try.ntmps5, hs, ok, hp, hq]) <;> exact rfl
  · (simp only [go_sem, Try.ntmps5, hs, ok, hp, hq]) <;> exact rfl
  · exact ⟨_, Try.func16, rfl, rfl⟩
  · (simp only [go_sem, Try.ntmps5, hs, ok, hp, hq]) <;> exact rfl
  · (simp only [go_sem, Try.ntmps5, hs, ok, hp, hq]) <;> exact rfl
  · exact known_ok
  apply W_run
  · (simp only [go_sem, Try.ntmps5, hs, ok, hp, hq]) <;> exact rfl
  apply W_nil
  apply K_seq
  apply T_ret
  apply K_seqR
  apply fin_ret
  · (simp only [go_sem, Try.ntmps5, hs, ok, hp, hq, Try.f5]) <;> exact rfl
  -- leaf 0 (ret)
  
  all_goals rfl

theorem law_settledE (t : Town) (p q : List Int) (hs : M.Short t) (ok : M.Ok t) (hp : M.plan t p = true) (hq : M.plan t q = true) (nap : M.allowed t p = false) : Ret Try.prog 5 [.agg (cT t), .sl 1 (rI p), .sl 1 (rI q)] (.bool true) := by
  have hh : t.houses.length ≤ 1000 := by have := hs.2.2.2.2.2.1; omega
  have fnp : ((M.fault t p).1 != 1) = true := by simpa [M.allowed, bne] using nap
  have fep : ((M.fault t p).1 == 1) = false := by simpa [M.allowed] using nap
  have hlp := (M.plan_iff.1 hp).1
  have hlq := (M.plan_iff.1 hq).1
  have he : M.err t p = 7 := by simp [M.err, ok, hp, nap]
  apply Ret_fin (fn := Try.f5) Try.func5 rfl
  apply T_seq
  apply T_r F
  · (simp only [go_sem, Try.ntmps5, hs, ok, hp, hq, fnp, he]) <;> exact rfl
  apply K_seq
  apply T_seq
  apply T_seq
  apply T_wL F [0, 1, 2, 3, 4, 5, 6, 7, 8, 9, 10, 11, 12, 13, 14, 15, 16, 17, 18, 19] rfl
  apply W_pre [0] [1, 2, 3, 4, 5, 6, 7, 8, 9, 10, 11, 12, 13, 14, 15, 16, 17, 18, 19]
  · (simp only [go_sem, Try.ntmps5, hs, ok, hp, hq, fnp, he]) <;> exact rfl
  apply W_call -- call 0 of function 12
  · (simp only [go_sem, Try.ntmps5, hs, ok, hp, hq, fnp, he]) <;> exact rfl
  · (simp only [go_sem, Try.ntmps5, hs, ok, hp, hq, fnp, he]) <;> exact rfl
  · exact rfl
  · (simp only [go_sem, Try.ntmps5, hs, ok, hp, hq, fnp, he]) <;> exact rfl
  · (simp only [go_sem, Try.ntmps5, hs, ok, hp, hq, fnp, he]) <;> exact rfl
  · exact ⟨_, Try.func12, rfl, rfl⟩
  · (simp only [go_sem, Try.ntmps5, hs, ok, hp, hq, fnp, he]) <;> exact rfl
  · (simp only [go_sem, Try.ntmps5, hs, ok, hp, hq, fnp, he]) <;> exact rfl
  · exact law_short _
  apply W_pre [2, 3, 4] [5, 6, 7, 8, 9, 10, 11, 12, 13, 14, 15, 16, 17, 18, 19]
  · (simp only [go_sem, Try.ntmps5, hs, ok, hp, hq, fnp, he]) <;> exact rfl
  apply W_call -- call 1 of function 13
  · (simp only [go_sem, Try.ntmps5, hs, ok, hp, hq, fnp, he]) <;> exact rfl
  · (simp only [go_sem, Try.ntmps5, hs, ok, hp, hq, fnp, he]) <;> exact rfl
  · exact rfl
  · (simp only [go_sem, Try.ntmps5, hs, ok, hp, hq, fnp, he]) <;> exact rfl
  · (simp only [go_sem, Try.ntmps5, hs, ok, hp, hq, fnp, he]) <;> exact rfl
  · exact ⟨_, Try.func13, rfl, rfl⟩
  · (simp only [go_sem, Try.ntmps5, hs, ok, hp, hq, fnp, he]) <;> exact rfl
  · (simp only [go_sem, Try.ntmps5, hs, ok, hp, hq, fnp, he]) <;> exact rfl
  · exact ref_town _
  apply W_pre [6, 7, 8, 9, 10] [11, 12, 13, 14, 15, 16, 17, 18, 19]
  · (simp only [go_sem, Try.ntmps5, hs, ok, hp, hq, fnp, he]) <;> exact rfl
  apply W_call -- call 2 of function 14
  · (simp only [go_sem, Try.ntmps5, hs, ok, hp, hq, fnp, he]) <;> exact rfl
  · (simp only [go_sem, Try.ntmps5, hs, ok, hp, hq, fnp, he]) <;> exact rfl
  · exact rfl
  · (simp only [go_sem, Try.ntmps5, hs, ok, hp, hq, fnp, he]) <;> exact rfl
  · (simp only [go_sem, Try.ntmps5, hs, ok, hp, hq, fnp, he]) <;> exact rfl
  · exact ⟨_, Try.func14, rfl, rfl⟩
  · (simp only [go_sem, Try.ntmps5, hs, ok, hp, hq, fnp, he]) <;> exact rfl
  · (simp only [go_sem, Try.ntmps5, hs, ok, hp, hq, fnp, he]) <;> exact rfl
  · exact ref_plan _ _
  apply W_pre [12, 13, 14, 15, 16] [17, 18, 19]
  · (simp only [go_sem, Try.ntmps5, hs, ok, hp, hq, fnp, he]) <;> exact rfl
  apply W_call -- call 3 of function 14
  · (simp only [go_sem, Try.ntmps5, hs, ok, hp, hq, fnp, he]) <;> exact rfl
  · (simp only [go_sem, Try.ntmps5, hs, ok, hp, hq, fnp, he]) <;> exact rfl
  · exact rfl
  · (simp only [go_sem, Try.ntmps5, hs, ok, hp, hq, fnp, he]) <;> exact rfl
  · (simp only [go_sem, Try.ntmps5, hs, ok, hp, hq, fnp, he]) <;> exact rfl
  · exact ⟨_, Try.func14, rfl, rfl⟩
  · (simp only [go_sem, Try.ntmps5, hs, ok, hp, hq, fnp, he]) <;> exact rfl
  · (simp only [go_sem, Try.ntmps5, hs, ok, hp, hq, fnp, he]) <;> exact rfl
  · exact ref_plan _ _
  apply W_run
  · (simp only [go_sem, Try.ntmps5, hs, ok, hp, hq, fnp, he]) <;> exact rfl
  apply W_nil
  apply K_seq
  apply T_ifF -- h0
  · (simp only [go_sem, Try.ntmps5, hs, ok, hp, hq, fnp, he]) <;> exact rfl
  apply T_skip
  apply K_seq
  apply T_seq
  apply T_wL F [0, 1, 2, 3, 4, 5, 6, 7, 8] rfl
  apply W_pre [0, 1] [2, 3, 4, 5, 6, 7, 8]
  · (simp only [go_sem, Try.ntmps5, hs, ok, hp, hq, fnp, he]) <;> exact rfl
  apply W_call -- call 4 of function 17
  · (simp only [go_sem, Try.ntmps5, hs, ok, hp, hq, fnp, he]) <;> exact rfl
  · (simp only [go_sem, Try.ntmps5, hs, ok, hp, hq, fnp, he]) <;> exact rfl
  · exact rfl
  · (simp only [go_sem, Try.ntmps5, hs, ok, hp, hq, fnp, he]) <;> exact rfl
  · (simp only [go_sem, Try.ntmps5, hs, ok, hp, hq, fnp, he]) <;> exact rfl
  · exact ⟨_, Try.func17, rfl, rfl⟩
  · (simp only [go_sem, Try.ntmps5, hs, ok, hp, hq, fnp, he]) <;> exact rfl
  · (simp only [go_sem, Try.ntmps5, hs, ok, hp, hq, fnp, he]) <;> exact rfl
  · exact mv_FaultK (by omega) ok (by assumption)
  apply W_run
  · (simp only [go_sem, Try.ntmps5, hs, ok, hp, hq, fnp, he]) <;> exact rfl
  apply W_nil
  apply K_seq
  apply T_seq
  apply T_wL F [0, 1, 2, 3, 4, 5, 6, 7, 8] rfl
  apply W_pre [0, 1] [2, 3, 4, 5, 6, 7, 8]
  · (simp only [go_sem, Try.ntmps5, hs, ok, hp, hq, fnp, he]) <;> exact rfl
  apply W_call -- call 5 of function 17
  · (simp only [go_sem, Try.ntmps5, hs, ok, hp, hq, fnp, he]) <;> exact rfl
  · (simp only [go_sem, Try.ntmps5, hs, ok, hp, hq, fnp, he]) <;> exact rfl
  · exact rfl
  · (simp only [go_sem, Try.ntmps5, hs, ok, hp, hq, fnp, he]) <;> exact rfl
  · (simp only [go_sem, Try.ntmps5, hs, ok, hp, hq, fnp, he]) <;> exact rfl
  · exact ⟨_, Try.func17, rfl, rfl⟩
  · (simp only [go_sem, Try.ntmps5, hs, ok, hp, hq, fnp, he]) <;> exact rfl
  · (simp only [go_sem, Try.ntmps5, hs, ok, hp, hq, fnp, he]) <;> exact rfl
  · exact mv_FaultK (by omega) ok (by assumption)
  apply W_run
  · (simp only [go_sem, Try.ntmps5, hs, ok, hp, hq, fnp, he]) <;> exact rfl
  apply W_nil
  apply K_seq
  apply T_seq
  apply T_wL F [0, 1, 2, 3, 4, 5, 6, 7] rfl
  apply W_pre [0, 1] [2, 3, 4, 5, 6, 7]
  · (simp only [go_sem, Try.ntmps5, hs, ok, hp, hq, fnp, he]) <;> exact rfl
  apply W_call -- call 6 of function 20
  · (simp only [go_sem, Try.ntmps5, hs, ok, hp, hq, fnp, he]) <;> exact rfl
  · (simp only [go_sem, Try.ntmps5, hs, ok, hp, hq, fnp, he]) <;> exact rfl
  · exact rfl
  · (simp only [go_sem, Try.ntmps5, hs, ok, hp, hq, fnp, he]) <;> exact rfl
  · (simp only [go_sem, Try.ntmps5, hs, ok, hp, hq, fnp, he]) <;> exact rfl
  · exact ⟨_, Try.func20, rfl, rfl⟩
  · (simp only [go_sem, Try.ntmps5, hs, ok, hp, hq, fnp, he]) <;> exact rfl
  · (simp only [go_sem, Try.ntmps5, hs, ok, hp, hq, fnp, he]) <;> exact rfl
  · exact mv_ExchangeA t p hh (by rw [he]; rfl)
  apply W_run
  · (simp only [go_sem, Try.ntmps5, hs, ok, hp, hq, fnp, he]) <;> exact rfl
  apply W_nil
  apply K_seq
  apply T_seq
  apply T_seq
  apply T_wL F [0, 1, 2, 3, 4, 5] rfl
  apply W_run
  · (simp only [go_sem, Try.ntmps5, hs, ok, hp, hq, fnp, he]) <;> exact rfl
  apply W_nil
  apply K_seq
  apply T_ifF -- h1
  · (simp only [go_sem, Try.ntmps5, hs, ok, hp, hq, fnp, he]) <;> exact rfl
  apply T_skip
  apply K_seq
  apply T_seq
  apply T_seq
  apply T_r F
  · (simp only [go_sem, Try.ntmps5, hs, ok, hp, hq, fnp, he]) <;> exact rfl
  apply K_seq
  apply T_ifT -- h2
  · (simp only [go_sem, Try.ntmps5, hs, ok, hp, hq, fnp, he]) <;> exact rfl
  apply T_seq
  apply T_wL F [0, 1, 2, 3, 4, 5] rfl
  apply W_pre [0, 1, 2] [3, 4, 5]
  · (simp only [go_sem, Try.ntmps5, hs, ok, hp, hq, fnp, he]) <;> exact rfl
  apply W_call -- call 7 of function 16
  · (simp only [go_sem, Try.ntmps5, hs, ok, hp, hq, fnp, he]) <;> exact rfl
  · (simp only [go_sem, Try.ntmps5, hs, ok, hp, hq, fnp, he]) <;> exact rfl
  · exact rfl
  · (simp only [go_sem, Try.ntmps5, hs, ok, hp, hq, fnp, he]) <;> exact rfl
  · (simp only [go_sem, Try.ntmps5, hs, ok, hp, hq, fnp, he]) <;> exact rfl
  · exact ⟨_, Try.func16, rfl, rfl⟩
  · (simp only [go_sem, Try.ntmps5, hs, ok, hp, hq, fnp, he]) <;> exact rfl
  · (simp only [go_sem, Try.ntmps5, hs, ok, hp, hq, fnp, he]) <;> exact rfl
  · exact known_ok
  apply W_run
  · (simp only [go_sem, Try.ntmps5, hs, ok, hp, hq, fnp, he]) <;> exact rfl
  apply W_nil
  apply K_seq
  apply T_ret
  apply K_seqR
  apply fin_ret
  · (simp only [go_sem, Try.ntmps5, hs, ok, hp, hq, fnp, he, Try.f5]) <;> exact rfl
  -- leaf 0 (ret)
  
  all_goals rfl

theorem law_settledF (t : Town) (p q : List Int) (hs : M.Short t) (ok : M.Ok t) (hp : M.plan t p = true) (hq : M.plan t q = true) (ap : M.allowed t p = true) (hx : M.exch t p = none) (aq : M.allowed t q = true) : Ret Try.prog 5 [.agg (cT t), .sl 1 (rI p), .sl 1 (rI q)] (.bool true) := by
  have hh : t.houses.length ≤ 1000 := by have := hs.2.2.2.2.2.1; omega
  have fp : (M.fault t p).1 = 1 := by simpa [M.allowed] using ap
  have fq : (M.fault t q).1 = 1 := by simpa [M.allowed] using aq
  have hlp := (M.plan_iff.1 hp).1
  have hlq := (M.plan_iff.1 hq).1
  have he : M.err t p = 0 := by simp [M.err, ok, hp, ap]
  have hpl : M.pleasedL t p q = false := by rw [M.pleasedL_eq (by omega) ap aq]; exact M.exch_none hx hq aq
  apply Ret_fin (fn := Try.f5) Try.func5 rfl
  apply T_seq
  apply T_r F
  · (simp only [go_sem, Try.ntmps5, hs, ok, hp, hq, fp, fq, hpl]) <;> exact rfl
  apply K_seq
  apply T_seq
  apply T_seq
  apply T_wL F [0, 1, 2, 3, 4, 5, 6, 7, 8, 9, 10, 11, 12, 13, 14, 15, 16, 17, 18, 19] rfl
  apply W_pre [0] [1, 2, 3, 4, 5, 6, 7, 8, 9, 10, 11, 12, 13, 14, 15, 16, 17, 18, 19]
  · (simp only [go_sem, Try.ntmps5, hs, ok, hp, hq, fp, fq, hpl]) <;> exact rfl
  apply W_call -- call 0 of function 12
  · (simp only [go_sem, Try.ntmps5, hs, ok, hp, hq, fp, fq, hpl]) <;> exact rfl
  · (simp only [go_sem, Try.ntmps5, hs, ok, hp, hq, fp, fq, hpl]) <;> exact rfl
  · exact rfl
  · (simp only [go_sem, Try.ntmps5, hs, ok, hp, hq, fp, fq, hpl]) <;> exact rfl
  · (simp only [go_sem, Try.ntmps5, hs, ok, hp, hq, fp, fq, hpl]) <;> exact rfl
  · exact ⟨_, Try.func12, rfl, rfl⟩
  · (simp only [go_sem, Try.ntmps5, hs, ok, hp, hq, fp, fq, hpl]) <;> exact rfl
  · (simp only [go_sem, Try.ntmps5, hs, ok, hp, hq, fp, fq, hpl]) <;> exact rfl
  · exact law_short _
  apply W_pre [2, 3, 4] [5, 6, 7, 8, 9, 10, 11, 12, 13, 14, 15, 16, 17, 18, 19]
  · (simp only [go_sem, Try.ntmps5, hs, ok, hp, hq, fp, fq, hpl]) <;> exact rfl
  apply W_call -- call 1 of function 13
  · (simp only [go_sem, Try.ntmps5, hs, ok, hp, hq, fp, fq, hpl]) <;> exact rfl
  · (simp only [go_sem, Try.ntmps5, hs, ok, hp, hq, fp, fq, hpl]) <;> exact rfl
  · exact rfl
  · (simp only [go_sem, Try.ntmps5, hs, ok, hp, hq, fp, fq, hpl]) <;> exact rfl
  · (simp only [go_sem, Try.ntmps5, hs, ok, hp, hq, fp, fq, hpl]) <;> exact rfl
  · exact ⟨_, Try.func13, rfl, rfl⟩
  · (simp only [go_sem, Try.ntmps5, hs, ok, hp, hq, fp, fq, hpl]) <;> exact rfl
  · (simp only [go_sem, Try.ntmps5, hs, ok, hp, hq, fp, fq, hpl]) <;> exact rfl
  · exact ref_town _
  apply W_pre [6, 7, 8, 9, 10] [11, 12, 13, 14, 15, 16, 17, 18, 19]
  · (simp only [go_sem, Try.ntmps5, hs, ok, hp, hq, fp, fq, hpl]) <;> exact rfl
  apply W_call -- call 2 of function 14
  · (simp only [go_sem, Try.ntmps5, hs, ok, hp, hq, fp, fq, hpl]) <;> exact rfl
  · (simp only [go_sem, Try.ntmps5, hs, ok, hp, hq, fp, fq, hpl]) <;> exact rfl
  · exact rfl
  · (simp only [go_sem, Try.ntmps5, hs, ok, hp, hq, fp, fq, hpl]) <;> exact rfl
  · (simp only [go_sem, Try.ntmps5, hs, ok, hp, hq, fp, fq, hpl]) <;> exact rfl
  · exact ⟨_, Try.func14, rfl, rfl⟩
  · (simp only [go_sem, Try.ntmps5, hs, ok, hp, hq, fp, fq, hpl]) <;> exact rfl
  · (simp only [go_sem, Try.ntmps5, hs, ok, hp, hq, fp, fq, hpl]) <;> exact rfl
  · exact ref_plan _ _
  apply W_pre [12, 13, 14, 15, 16] [17, 18, 19]
  · (simp only [go_sem, Try.ntmps5, hs, ok, hp, hq, fp, fq, hpl]) <;> exact rfl
  apply W_call -- call 3 of function 14
  · (simp only [go_sem, Try.ntmps5, hs, ok, hp, hq, fp, fq, hpl]) <;> exact rfl
  · (simp only [go_sem, Try.ntmps5, hs, ok, hp, hq, fp, fq, hpl]) <;> exact rfl
  · exact rfl
  · (simp only [go_sem, Try.ntmps5, hs, ok, hp, hq, fp, fq, hpl]) <;> exact rfl
  · (simp only [go_sem, Try.ntmps5, hs, ok, hp, hq, fp, fq, hpl]) <;> exact rfl
  · exact ⟨_, Try.func14, rfl, rfl⟩
  · (simp only [go_sem, Try.ntmps5, hs, ok, hp, hq, fp, fq, hpl]) <;> exact rfl
  · (simp only [go_sem, Try.ntmps5, hs, ok, hp, hq, fp, fq, hpl]) <;> exact rfl
  · exact ref_plan _ _
  apply W_run
  · (simp only [go_sem, Try.ntmps5, hs, ok, hp, hq, fp, fq, hpl]) <;> exact rfl
  apply W_nil
  apply K_seq
  apply T_ifF -- h0
  · (simp only [go_sem, Try.ntmps5, hs, ok, hp, hq, fp, fq, hpl]) <;> exact rfl
  apply T_skip
  apply K_seq
  apply T_seq
  apply T_wL F [0, 1, 2, 3, 4, 5, 6, 7, 8] rfl
  apply W_pre [0, 1] [2, 3, 4, 5, 6, 7, 8]
  · (simp only [go_sem, Try.ntmps5, hs, ok, hp, hq, fp, fq, hpl]) <;> exact rfl
  apply W_call -- call 4 of function 17
  · (simp only [go_sem, Try.ntmps5, hs, ok, hp, hq, fp, fq, hpl]) <;> exact rfl
  · (simp only [go_sem, Try.ntmps5, hs, ok, hp, hq, fp, fq, hpl]) <;> exact rfl
  · exact rfl
  · (simp only [go_sem, Try.ntmps5, hs, ok, hp, hq, fp, fq, hpl]) <;> exact rfl
  · (simp only [go_sem, Try.ntmps5, hs, ok, hp, hq, fp, fq, hpl]) <;> exact rfl
  · exact ⟨_, Try.func17, rfl, rfl⟩
  · (simp only [go_sem, Try.ntmps5, hs, ok, hp, hq, fp, fq, hpl]) <;> exact rfl
  · (simp only [go_sem, Try.ntmps5, hs, ok, hp, hq, fp, fq, hpl]) <;> exact rfl
  · exact mv_FaultK (by omega) ok (by assumption)
  apply W_run
  · (simp only [go_sem, Try.ntmps5, hs, ok, hp, hq, fp, fq, hpl]) <;> exact rfl
  apply W_nil
  apply K_seq
  apply T_seq
  apply T_wL F [0, 1, 2, 3, 4, 5, 6, 7, 8] rfl
  apply W_pre [0, 1] [2, 3, 4, 5, 6, 7, 8]
  · (simp only [go_sem, Try.ntmps5, hs, ok, hp, hq, fp, fq, hpl]) <;> exact rfl
  apply W_call -- call 5 of function 17
  · (simp only [go_sem, Try.ntmps5, hs, ok, hp, hq, fp, fq, hpl]) <;> exact rfl
  · (simp only [go_sem, Try.ntmps5, hs, ok, hp, hq, fp, fq, hpl]) <;> exact rfl
  · exact rfl
  · (simp only [go_sem, Try.ntmps5, hs, ok, hp, hq, fp, fq, hpl]) <;> exact rfl
  · (simp only [go_sem, Try.ntmps5, hs, ok, hp, hq, fp, fq, hpl]) <;> exact rfl
  · exact ⟨_, Try.func17, rfl, rfl⟩
  · (simp only [go_sem, Try.ntmps5, hs, ok, hp, hq, fp, fq, hpl]) <;> exact rfl
  · (simp only [go_sem, Try.ntmps5, hs, ok, hp, hq, fp, fq, hpl]) <;> exact rfl
  · exact mv_FaultK (by omega) ok (by assumption)
  apply W_run
  · (simp only [go_sem, Try.ntmps5, hs, ok, hp, hq, fp, fq, hpl]) <;> exact rfl
  apply W_nil
  apply K_seq
  apply T_seq
  apply T_wL F [0, 1, 2, 3, 4, 5, 6, 7] rfl
  apply W_pre [0, 1] [2, 3, 4, 5, 6, 7]
  · (simp only [go_sem, Try.ntmps5, hs, ok, hp, hq, fp, fq, hpl]) <;> exact rfl
  apply W_call -- call 6 of function 20
  · (simp only [go_sem, Try.ntmps5, hs, ok, hp, hq, fp, fq, hpl]) <;> exact rfl
  · (simp only [go_sem, Try.ntmps5, hs, ok, hp, hq, fp, fq, hpl]) <;> exact rfl
  · exact rfl
  · (simp only [go_sem, Try.ntmps5, hs, ok, hp, hq, fp, fq, hpl]) <;> exact rfl
  · (simp only [go_sem, Try.ntmps5, hs, ok, hp, hq, fp, fq, hpl]) <;> exact rfl
  · exact ⟨_, Try.func20, rfl, rfl⟩
  · (simp only [go_sem, Try.ntmps5, hs, ok, hp, hq, fp, fq, hpl]) <;> exact rfl
  · (simp only [go_sem, Try.ntmps5, hs, ok, hp, hq, fp, fq, hpl]) <;> exact rfl
  · exact mv_ExchangeB t p hh he hx
  apply W_run
  · (simp only [go_sem, Try.ntmps5, hs, ok, hp, hq, fp, fq, hpl]) <;> exact rfl
  apply W_nil
  apply K_seq
  apply T_seq
  apply T_seq
  apply T_wL F [0, 1, 2, 3, 4, 5] rfl
  apply W_run
  · (simp only [go_sem, Try.ntmps5, hs, ok, hp, hq, fp, fq, hpl]) <;> exact rfl
  apply W_nil
  apply K_seq
  apply T_ifF -- h1
  · (simp only [go_sem, Try.ntmps5, hs, ok, hp, hq, fp, fq, hpl]) <;> exact rfl
  apply T_skip
  apply K_seq
  apply T_seq
  apply T_seq
  apply T_r F
  · (simp only [go_sem, Try.ntmps5, hs, ok, hp, hq, fp, fq, hpl]) <;> exact rfl
  apply K_seq
  apply T_ifF -- h2
  · (simp only [go_sem, Try.ntmps5, hs, ok, hp, hq, fp, fq, hpl]) <;> exact rfl
  apply T_skip
  apply K_seq
  apply T_seq
  apply T_wL F [0, 1, 2, 3, 4, 5, 6, 7, 8, 9] rfl
  apply W_pre [0, 1, 2, 3] [4, 5, 6, 7, 8, 9]
  · (simp only [go_sem, Try.ntmps5, hs, ok, hp, hq, fp, fq, hpl]) <;> exact rfl
  apply W_pre [4, 5, 6] [7, 8, 9]
  · (simp only [go_sem, Try.ntmps5, hs, ok, hp, hq, fp, fq, hpl]) <;> exact rfl
  apply W_call -- call 7 of function 24
  · (simp only [go_sem, Try.ntmps5, hs, ok, hp, hq, fp, fq, hpl]) <;> exact rfl
  · (simp only [go_sem, Try.ntmps5, hs, ok, hp, hq, fp, fq, hpl]) <;> exact rfl
  · exact rfl
  · (simp only [go_sem, Try.ntmps5, hs, ok, hp, hq, fp, fq, hpl]) <;> exact rfl
  · (simp only [go_sem, Try.ntmps5, hs, ok, hp, hq, fp, fq, hpl]) <;> exact rfl
  · exact ⟨_, Try.func24, rfl, rfl⟩
  · (simp only [go_sem, Try.ntmps5, hs, ok, hp, hq, fp, fq, hpl]) <;> exact rfl
  · (simp only [go_sem, Try.ntmps5, hs, ok, hp, hq, fp, fq, hpl]) <;> exact rfl
  · exact law_pleased _ _ _ (by omega) (by omega)
  apply W_run
  · (simp only [go_sem, Try.ntmps5, hs, ok, hp, hq, fp, fq, hpl]) <;> exact rfl
  apply W_nil
  apply K_seq
  apply T_seq
  apply T_seq
  apply T_r F
  · (simp only [go_sem, Try.ntmps5, hs, ok, hp, hq, fp, fq, hpl]) <;> exact rfl
  apply K_seq
  apply T_ifT -- h3
  · (simp only [go_sem, Try.ntmps5, hs, ok, hp, hq, fp, fq, hpl]) <;> exact rfl
  apply T_seq
  apply T_wL F [0, 1, 2, 3, 4, 5, 6, 7, 8, 9] rfl
  apply W_pre [0, 1, 2, 3] [4, 5, 6, 7, 8, 9]
  · (simp only [go_sem, Try.ntmps5, hs, ok, hp, hq, fp, fq, hpl]) <;> exact rfl
  apply W_pre [4, 5, 6] [7, 8, 9]
  · (simp only [go_sem, Try.ntmps5, hs, ok, hp, hq, fp, fq, hpl]) <;> exact rfl
  apply W_call -- call 8 of function 16
  · (simp only [go_sem, Try.ntmps5, hs, ok, hp, hq, fp, fq, hpl]) <;> exact rfl
  · (simp only [go_sem, Try.ntmps5, hs, ok, hp, hq, fp, fq, hpl]) <;> exact rfl
  · exact rfl
  · (simp only [go_sem, Try.ntmps5, hs, ok, hp, hq, fp, fq, hpl]) <;> exact rfl
  · (simp only [go_sem, Try.ntmps5, hs, ok, hp, hq, fp, fq, hpl]) <;> exact rfl
  · exact ⟨_, Try.func16, rfl, rfl⟩
  · (simp only [go_sem, Try.ntmps5, hs, ok, hp, hq, fp, fq, hpl]) <;> exact rfl
  · (simp only [go_sem, Try.ntmps5, hs, ok, hp, hq, fp, fq, hpl]) <;> exact rfl
  · exact known_ok
  apply W_run
  · (simp only [go_sem, Try.ntmps5, hs, ok, hp, hq, fp, fq, hpl]) <;> exact rfl
  apply W_nil
  apply K_seq
  apply T_ret
  apply K_seqR
  apply fin_ret
  · (simp only [go_sem, Try.ntmps5, hs, ok, hp, hq, fp, fq, hpl, Try.f5]) <;> exact rfl
  -- leaf 0 (ret)
  
  all_goals rfl

theorem law_settledG (t : Town) (p q : List Int) (hs : M.Short t) (ok : M.Ok t) (hp : M.plan t p = true) (hq : M.plan t q = true) (ap : M.allowed t p = true) (hx : M.exch t p = none) (naq : M.allowed t q = false) : Ret Try.prog 5 [.agg (cT t), .sl 1 (rI p), .sl 1 (rI q)] (.bool true) := by
  have hh : t.houses.length ≤ 1000 := by have := hs.2.2.2.2.2.1; omega
  have fp : (M.fault t p).1 = 1 := by simpa [M.allowed] using ap
  have fnq : ((M.fault t q).1 != 1) = true := by simpa [M.allowed, bne] using naq
  have feq : ((M.fault t q).1 == 1) = false := by simpa [M.allowed] using naq
  have hlp := (M.plan_iff.1 hp).1
  have hlq := (M.plan_iff.1 hq).1
  have he : M.err t p = 0 := by simp [M.err, ok, hp, ap]
  apply Ret_fin (fn := Try.f5) Try.func5 rfl
  apply T_seq
  apply T_r F
  · (simp only [go_sem, Try.ntmps5, hs, ok, hp, hq, fp, feq]) <;> exact rfl
  apply K_seq
  apply T_seq
  apply T_seq
  apply T_wL F [0, 1, 2, 3, 4, 5, 6, 7, 8, 9, 10, 11, 12, 13, 14, 15, 16, 17, 18, 19] rfl
  apply W_pre [0] [1, 2, 3, 4, 5, 6, 7, 8, 9, 10, 11, 12, 13, 14, 15, 16, 17, 18, 19]
  · (simp only [go_sem, Try.ntmps5, hs, ok, hp, hq, fp, feq]) <;> exact rfl
  apply W_call -- call 0 of function 12
  · (simp only [go_sem, Try.ntmps5, hs, ok, hp, hq, fp, feq]) <;> exact rfl
  · (simp only [go_sem, Try.ntmps5, hs, ok, hp, hq, fp, feq]) <;> exact rfl
  · exact rfl
  · (simp only [go_sem, Try.ntmps5, hs, ok, hp, hq, fp, feq]) <;> exact rfl
  · (simp only [go_sem, Try.ntmps5, hs, ok, hp, hq, fp, feq]) <;> exact rfl
  · exact ⟨_, Try.func12, rfl, rfl⟩
  · (simp only [go_sem, Try.ntmps5, hs, ok, hp, hq, fp, feq]) <;> exact rfl
  · (simp only [go_sem, Try.ntmps5, hs, ok, hp, hq, fp, feq]) <;> exact rfl
  · exact law_short _
  apply W_pre [2, 3, 4] [5, 6, 7, 8, 9, 10, 11, 12, 13, 14, 15, 16, 17, 18, 19]
  · (simp only [go_sem, Try.ntmps5, hs, ok, hp, hq, fp, feq]) <;> exact rfl
  apply W_call -- call 1 of function 13
  · (simp only [go_sem, Try.ntmps5, hs, ok, hp, hq, fp, feq]) <;> exact rfl
  · (simp only [go_sem, Try.ntmps5, hs, ok, hp, hq, fp, feq]) <;> exact rfl
  · exact rfl
  · (simp only [go_sem, Try.ntmps5, hs, ok, hp, hq, fp, feq]) <;> exact rfl
  · (simp only [go_sem, Try.ntmps5, hs, ok, hp, hq, fp, feq]) <;> exact rfl
  · exact ⟨_, Try.func13, rfl, rfl⟩
  · (simp only [go_sem, Try.ntmps5, hs, ok, hp, hq, fp, feq]) <;> exact rfl
  · (simp only [go_sem, Try.ntmps5, hs, ok, hp, hq, fp, feq]) <;> exact rfl
  · exact ref_town _
  apply W_pre [6, 7, 8, 9, 10] [11, 12, 13, 14, 15, 16, 17, 18, 19]
  · (simp only [go_sem, Try.ntmps5, hs, ok, hp, hq, fp, feq]) <;> exact rfl
  apply W_call -- call 2 of function 14
  · (simp only [go_sem, Try.ntmps5, hs, ok, hp, hq, fp, feq]) <;> exact rfl
  · (simp only [go_sem, Try.ntmps5, hs, ok, hp, hq, fp, feq]) <;> exact rfl
  · exact rfl
  · (simp only [go_sem, Try.ntmps5, hs, ok, hp, hq, fp, feq]) <;> exact rfl
  · (simp only [go_sem, Try.ntmps5, hs, ok, hp, hq, fp, feq]) <;> exact rfl
  · exact ⟨_, Try.func14, rfl, rfl⟩
  · (simp only [go_sem, Try.ntmps5, hs, ok, hp, hq, fp, feq]) <;> exact rfl
  · (simp only [go_sem, Try.ntmps5, hs, ok, hp, hq, fp, feq]) <;> exact rfl
  · exact ref_plan _ _
  apply W_pre [12, 13, 14, 15, 16] [17, 18, 19]
  · (simp only [go_sem, Try.ntmps5, hs, ok, hp, hq, fp, feq]) <;> exact rfl
  apply W_call -- call 3 of function 14
  · (simp only [go_sem, Try.ntmps5, hs, ok, hp, hq, fp, feq]) <;> exact rfl
  · (simp only [go_sem, Try.ntmps5, hs, ok, hp, hq, fp, feq]) <;> exact rfl
  · exact rfl
  · (simp only [go_sem, Try.ntmps5, hs, ok, hp, hq, fp, feq]) <;> exact rfl
  · (simp only [go_sem, Try.ntmps5, hs, ok, hp, hq, fp, feq]) <;> exact rfl
  · exact ⟨_, Try.func14, rfl, rfl⟩
  · (simp only [go_sem, Try.ntmps5, hs, ok, hp, hq, fp, feq]) <;> exact rfl
  · (simp only [go_sem, Try.ntmps5, hs, ok, hp, hq, fp, feq]) <;> exact rfl
  · exact ref_plan _ _
  apply W_run
  · (simp only [go_sem, Try.ntmps5, hs, ok, hp, hq, fp, feq]) <;> exact rfl
  apply W_nil
  apply K_seq
  apply T_ifF -- h0
  · (simp only [go_sem, Try.ntmps5, hs, ok, hp, hq, fp, feq]) <;> exact rfl
  apply T_skip
  apply K_seq
  apply T_seq
  apply T_wL F [0, 1, 2, 3, 4, 5, 6, 7, 8] rfl
  apply W_pre [0, 1] [2, 3, 4, 5, 6, 7, 8]
  · (simp only [go_sem, Try.ntmps5, hs, ok, hp, hq, fp, feq]) <;> exact rfl
  apply W_call -- call 4 of function 17
  · (simp only [go_sem, Try.ntmps5, hs, ok, hp, hq, fp, feq]) <;> exact rfl
  · (simp only [go_sem, Try.ntmps5, hs, ok, hp, hq, fp, feq]) <;> exact rfl
  · exact rfl
  · (simp only [go_sem, Try.ntmps5, hs, ok, hp, hq, fp, feq]) <;> exact rfl
  · (simp only [go_sem, Try.ntmps5, hs, ok, hp, hq, fp, feq]) <;> exact rfl
  · exact ⟨_, Try.func17, rfl, rfl⟩
  · (simp only [go_sem, Try.ntmps5, hs, ok, hp, hq, fp, feq]) <;> exact rfl
  · (simp only [go_sem, Try.ntmps5, hs, ok, hp, hq, fp, feq]) <;> exact rfl
  · exact mv_FaultK (by omega) ok (by assumption)
  apply W_run
  · (simp only [go_sem, Try.ntmps5, hs, ok, hp, hq, fp, feq]) <;> exact rfl
  apply W_nil
  apply K_seq
  apply T_seq
  apply T_wL F [0, 1, 2, 3, 4, 5, 6, 7, 8] rfl
  apply W_pre [0, 1] [2, 3, 4, 5, 6, 7, 8]
  · (simp only [go_sem, Try.ntmps5, hs, ok, hp, hq, fp, feq]) <;> exact rfl
  apply W_call -- call 5 of function 17
  · (simp only [go_sem, Try.ntmps5, hs, ok, hp, hq, fp, feq]) <;> exact rfl
  · (simp only [go_sem, Try.ntmps5, hs, ok, hp, hq, fp, feq]) <;> exact rfl
  · exact rfl
  · (simp only [go_sem, Try.ntmps5, hs, ok, hp, hq, fp, feq]) <;> exact rfl
  · (simp only [go_sem, Try.ntmps5, hs, ok, hp, hq, fp, feq]) <;> exact rfl
  · exact ⟨_, Try.func17, rfl, rfl⟩
  · (simp only [go_sem, Try.ntmps5, hs, ok, hp, hq, fp, feq]) <;> exact rfl
  · (simp only [go_sem, Try.ntmps5, hs, ok, hp, hq, fp, feq]) <;> exact rfl
  · exact mv_FaultK (by omega) ok (by assumption)
  apply W_run
  · (simp only [go_sem, Try.ntmps5, hs, ok, hp, hq, fp, feq]) <;> exact rfl
  apply W_nil
  apply K_seq
  apply T_seq
  apply T_wL F [0, 1, 2, 3, 4, 5, 6, 7] rfl
  apply W_pre [0, 1] [2, 3, 4, 5, 6, 7]
  · (simp only [go_sem, Try.ntmps5, hs, ok, hp, hq, fp, feq]) <;> exact rfl
  apply W_call -- call 6 of function 20
  · (simp only [go_sem, Try.ntmps5, hs, ok, hp, hq, fp, feq]) <;> exact rfl
  · (simp only [go_sem, Try.ntmps5, hs, ok, hp, hq, fp, feq]) <;> exact rfl
  · exact rfl
  · (simp only [go_sem, Try.ntmps5, hs, ok, hp, hq, fp, feq]) <;> exact rfl
  · (simp only [go_sem, Try.ntmps5, hs, ok, hp, hq, fp, feq]) <;> exact rfl
  · exact ⟨_, Try.func20, rfl, rfl⟩
  · (simp only [go_sem, Try.ntmps5, hs, ok, hp, hq, fp, feq]) <;> exact rfl
  · (simp only [go_sem, Try.ntmps5, hs, ok, hp, hq, fp, feq]) <;> exact rfl
  · exact mv_ExchangeB t p hh he hx
  apply W_run
  · (simp only [go_sem, Try.ntmps5, hs, ok, hp, hq, fp, feq]) <;> exact rfl
  apply W_nil
  apply K_seq
  apply T_seq
  apply T_seq
  apply T_wL F [0, 1, 2, 3, 4, 5] rfl
  apply W_run
  · (simp only [go_sem, Try.ntmps5, hs, ok, hp, hq, fp, feq]) <;> exact rfl
  apply W_nil
  apply K_seq
  apply T_ifF -- h1
  · (simp only [go_sem, Try.ntmps5, hs, ok, hp, hq, fp, feq]) <;> exact rfl
  apply T_skip
  apply K_seq
  apply T_seq
  apply T_seq
  apply T_r F
  · (simp only [go_sem, Try.ntmps5, hs, ok, hp, hq, fp, feq]) <;> exact rfl
  apply K_seq
  apply T_ifF -- h2
  · (simp only [go_sem, Try.ntmps5, hs, ok, hp, hq, fp, feq]) <;> exact rfl
  apply T_skip
  apply K_seq
  apply T_seq
  apply T_wL F [0, 1, 2, 3, 4, 5, 6, 7, 8, 9] rfl
  apply W_pre [0, 1, 2, 3] [4, 5, 6, 7, 8, 9]
  · (simp only [go_sem, Try.ntmps5, hs, ok, hp, hq, fp, feq]) <;> exact rfl
  apply W_run
  · (simp only [go_sem, Try.ntmps5, hs, ok, hp, hq, fp, feq]) <;> exact rfl
  apply W_nil
  apply K_seq
  apply T_seq
  apply T_seq
  apply T_r F
  · (simp only [go_sem, Try.ntmps5, hs, ok, hp, hq, fp, feq]) <;> exact rfl
  apply K_seq
  apply T_ifT -- h3
  · (simp only [go_sem, Try.ntmps5, hs, ok, hp, hq, fp, feq]) <;> exact rfl
  apply T_seq
  apply T_wL F [0, 1, 2, 3, 4, 5, 6, 7, 8, 9] rfl
  apply W_pre [0, 1, 2, 3] [4, 5, 6, 7, 8, 9]
  · (simp only [go_sem, Try.ntmps5, hs, ok, hp, hq, fp, feq]) <;> exact rfl
  apply W_pre [4, 5, 6] [7, 8, 9]
  · (simp only [go_sem, Try.ntmps5, hs, ok, hp, hq, fp, feq]) <;> exact rfl
  apply W_call -- call 7 of function 16
  · (simp only [go_sem, Try.ntmps5, hs, ok, hp, hq, fp, feq]) <;> exact rfl
  · (simp only [go_sem, Try.ntmps5, hs, ok, hp, hq, fp, feq]) <;> exact rfl
  · exact rfl
  · (simp only [go_sem, Try.ntmps5, hs, ok, hp, hq, fp, feq]) <;> exact rfl
  · (simp only [go_sem, Try.ntmps5, hs, ok, hp, hq, fp, feq]) <;> exact rfl
  · exact ⟨_, Try.func16, rfl, rfl⟩
  · (simp only [go_sem, Try.ntmps5, hs, ok, hp, hq, fp, feq]) <;> exact rfl
  · (simp only [go_sem, Try.ntmps5, hs, ok, hp, hq, fp, feq]) <;> exact rfl
  · exact known_ok
  apply W_run
  · (simp only [go_sem, Try.ntmps5, hs, ok, hp, hq, fp, feq]) <;> exact rfl
  apply W_nil
  apply K_seq
  apply T_ret
  apply K_seqR
  apply fin_ret
  · (simp only [go_sem, Try.ntmps5, hs, ok, hp, hq, fp, feq, Try.f5]) <;> exact rfl
  -- leaf 0 (ret)
  
  all_goals rfl

theorem law_settledH (t : Town) (p q : List Int) (hs : M.Short t) (ok : M.Ok t) (hp : M.plan t p = true) (hq : M.plan t q = true) (ap : M.allowed t p = true) (r : List Int) (hx : M.exch t p = some r) (aq : M.allowed t q = true) (pq : M.pleases t p q = true) : Ret Try.prog 5 [.agg (cT t), .sl 1 (rI p), .sl 1 (rI q)] (.bool true) := by
  have hh : t.houses.length ≤ 1000 := by have := hs.2.2.2.2.2.1; omega
  have fp : (M.fault t p).1 = 1 := by simpa [M.allowed] using ap
  have fq : (M.fault t q).1 = 1 := by simpa [M.allowed] using aq
  have hlp := (M.plan_iff.1 hp).1
  have hlq := (M.plan_iff.1 hq).1
  have he : M.err t p = 0 := by simp [M.err, ok, hp, ap]
  obtain ⟨hr, ar, xr, br⟩ := M.exch_some hx
  have hlr := (M.plan_iff.1 hr).1
  have fr : (M.fault t r).1 = 1 := by simpa [M.allowed] using ar
  have hplr : M.pleasedL t p r = true := by rw [M.pleasedL_eq (by omega) ap ar]; exact xr
  have hpl : M.pleasedL t p q = true := by rw [M.pleasedL_eq (by omega) ap aq]; exact pq
  have hbr := br q hq aq pq
  apply Ret_fin (fn := Try.f5) Try.func5 rfl
  apply T_seq
  apply T_r F
  · (simp only [go_sem, Try.ntmps5, hs, ok, hp, hq, fp, fq, fr, hpl, hplr, hr, hbr]) <;> exact rfl
  apply K_seq
  apply T_seq
  apply T_seq
  apply T_wL F [0, 1, 2, 3, 4, 5, 6, 7, 8, 9, 10, 11, 12, 13, 14, 15, 16, 17, 18, 19] rfl
  apply W_pre [0] [1, 2, 3, 4, 5, 6, 7, 8, 9, 10, 11, 12, 13, 14, 15, 16, 17, 18, 19]
  · (simp only [go_sem, Try.ntmps5, hs, ok, hp, hq, fp, fq, fr, hpl, hplr, hr, hbr]) <;> exact rfl
  apply W_call -- call 0 of function 12
  · (simp only [go_sem, Try.ntmps5, hs, ok, hp, hq, fp, fq, fr, hpl, hplr, hr, hbr]) <;> exact rfl
  · (simp only [go_sem, Try.ntmps5, hs, ok, hp, hq, fp, fq, fr, hpl, hplr, hr, hbr]) <;> exact rfl
  · exact rfl
  · (simp only [go_sem, Try.ntmps5, hs, ok, hp, hq, fp, fq, fr, hpl, hplr, hr, hbr]) <;> exact rfl
  · (simp only [go_sem, Try.ntmps5, hs, ok, hp, hq, fp, fq, fr, hpl, hplr, hr, hbr]) <;> exact rfl
  · exact ⟨_, Try.func12, rfl, rfl⟩
  · (simp only [go_sem, Try.ntmps5, hs, ok, hp, hq, fp, fq, fr, hpl, hplr, hr, hbr]) <;> exact rfl
  · (simp only [go_sem, Try.ntmps5, hs, ok, hp, hq, fp, fq, fr, hpl, hplr, hr, hbr]) <;> exact rfl
  · exact law_short _
  apply W_pre [2, 3, 4] [5, 6, 7, 8, 9, 10, 11, 12, 13, 14, 15, 16, 17, 18, 19]
  · (simp only [go_sem, Try.ntmps5, hs, ok, hp, hq, fp, fq, fr, hpl, hplr, hr, hbr]) <;> exact rfl
  apply W_call -- call 1 of function 13
  · (simp only [go_sem, Try.ntmps5, hs, ok, hp, hq, fp, fq, fr, hpl, hplr, hr, hbr]) <;> exact rfl
  · (simp only [go_sem, Try.ntmps5, hs, ok, hp, hq, fp, fq, fr, hpl, hplr, hr, hbr]) <;> exact rfl
  · exact rfl
  · (simp only [go_sem, Try.ntmps5, hs, ok, hp, hq, fp, fq, fr, hpl, hplr, hr, hbr]) <;> exact rfl
  · (simp only [go_sem, Try.ntmps5, hs, ok, hp, hq, fp, fq, fr, hpl, hplr, hr, hbr]) <;> exact rfl
  · exact ⟨_, Try.func13, rfl, rfl⟩
  · (simp only [go_sem, Try.ntmps5, hs, ok, hp, hq, fp, fq, fr, hpl, hplr, hr, hbr]) <;> exact rfl
  · (simp only [go_sem, Try.ntmps5, hs, ok, hp, hq, fp, fq, fr, hpl, hplr, hr, hbr]) <;> exact rfl
  · exact ref_town _
  apply W_pre [6, 7, 8, 9, 10] [11, 12, 13, 14, 15, 16, 17, 18, 19]
  · (simp only [go_sem, Try.ntmps5, hs, ok, hp, hq, fp, fq, fr, hpl, hplr, hr, hbr]) <;> exact rfl
  apply W_call -- call 2 of function 14
  · (simp only [go_sem, Try.ntmps5, hs, ok, hp, hq, fp, fq, fr, hpl, hplr, hr, hbr]) <;> exact rfl
  · (simp only [go_sem, Try.ntmps5, hs, ok, hp, hq, fp, fq, fr, hpl, hplr, hr, hbr]) <;> exact rfl
  · exact rfl
  · (simp only [go_sem, Try.ntmps5, hs, ok, hp, hq, fp, fq, fr, hpl, hplr, hr, hbr]) <;> exact rfl
  · (simp only [go_sem, Try.ntmps5, hs, ok, hp, hq, fp, fq, fr, hpl, hplr, hr, hbr]) <;> exact rfl
  · exact ⟨_, Try.func14, rfl, rfl⟩
  · (simp only [go_sem, Try.ntmps5, hs, ok, hp, hq, fp, fq, fr, hpl, hplr, hr, hbr]) <;> exact rfl
  · (simp only [go_sem, Try.ntmps5, hs, ok, hp, hq, fp, fq, fr, hpl, hplr, hr, hbr]) <;> exact rfl
  · exact ref_plan _ _
  apply W_pre [12, 13, 14, 15, 16] [17, 18, 19]
  · (simp only [go_sem, Try.ntmps5, hs, ok, hp, hq, fp, fq, fr, hpl, hplr, hr, hbr]) <;> exact rfl
  apply W_call -- call 3 of function 14
  · (simp only [go_sem, Try.ntmps5, hs, ok, hp, hq, fp, fq, fr, hpl, hplr, hr, hbr]) <;> exact rfl
  · (simp only [go_sem, Try.ntmps5, hs, ok, hp, hq, fp, fq, fr, hpl, hplr, hr, hbr]) <;> exact rfl
  · exact rfl
  · (simp only [go_sem, Try.ntmps5, hs, ok, hp, hq, fp, fq, fr, hpl, hplr, hr, hbr]) <;> exact rfl
  · (simp only [go_sem, Try.ntmps5, hs, ok, hp, hq, fp, fq, fr, hpl, hplr, hr, hbr]) <;> exact rfl
  · exact ⟨_, Try.func14, rfl, rfl⟩
  · (simp only [go_sem, Try.ntmps5, hs, ok, hp, hq, fp, fq, fr, hpl, hplr, hr, hbr]) <;> exact rfl
  · (simp only [go_sem, Try.ntmps5, hs, ok, hp, hq, fp, fq, fr, hpl, hplr, hr, hbr]) <;> exact rfl
  · exact ref_plan _ _
  apply W_run
  · (simp only [go_sem, Try.ntmps5, hs, ok, hp, hq, fp, fq, fr, hpl, hplr, hr, hbr]) <;> exact rfl
  apply W_nil
  apply K_seq
  apply T_ifF -- h0
  · (simp only [go_sem, Try.ntmps5, hs, ok, hp, hq, fp, fq, fr, hpl, hplr, hr, hbr]) <;> exact rfl
  apply T_skip
  apply K_seq
  apply T_seq
  apply T_wL F [0, 1, 2, 3, 4, 5, 6, 7, 8] rfl
  apply W_pre [0, 1] [2, 3, 4, 5, 6, 7, 8]
  · (simp only [go_sem, Try.ntmps5, hs, ok, hp, hq, fp, fq, fr, hpl, hplr, hr, hbr]) <;> exact rfl
  apply W_call -- call 4 of function 17
  · (simp only [go_sem, Try.ntmps5, hs, ok, hp, hq, fp, fq, fr, hpl, hplr, hr, hbr]) <;> exact rfl
  · (simp only [go_sem, Try.ntmps5, hs, ok, hp, hq, fp, fq, fr, hpl, hplr, hr, hbr]) <;> exact rfl
  · exact rfl
  · (simp only [go_sem, Try.ntmps5, hs, ok, hp, hq, fp, fq, fr, hpl, hplr, hr, hbr]) <;> exact rfl
  · (simp only [go_sem, Try.ntmps5, hs, ok, hp, hq, fp, fq, fr, hpl, hplr, hr, hbr]) <;> exact rfl
  · exact ⟨_, Try.func17, rfl, rfl⟩
  · (simp only [go_sem, Try.ntmps5, hs, ok, hp, hq, fp, fq, fr, hpl, hplr, hr, hbr]) <;> exact rfl
  · (simp only [go_sem, Try.ntmps5, hs, ok, hp, hq, fp, fq, fr, hpl, hplr, hr, hbr]) <;> exact rfl
  · exact mv_FaultK (by omega) ok (by assumption)
  apply W_run
  · (simp only [go_sem, Try.ntmps5, hs, ok, hp, hq, fp, fq, fr, hpl, hplr, hr, hbr]) <;> exact rfl
  apply W_nil
  apply K_seq
  apply T_seq
  apply T_wL F [0, 1, 2, 3, 4, 5, 6, 7, 8] rfl
  apply W_pre [0, 1] [2, 3, 4, 5, 6, 7, 8]
  · (simp only [go_sem, Try.ntmps5, hs, ok, hp, hq, fp, fq, fr, hpl, hplr, hr, hbr]) <;> exact rfl
  apply W_call -- call 5 of function 17
  · (simp only [go_sem, Try.ntmps5, hs, ok, hp, hq, fp, fq, fr, hpl, hplr, hr, hbr]) <;> exact rfl
  · (simp only [go_sem, Try.ntmps5, hs, ok, hp, hq, fp, fq, fr, hpl, hplr, hr, hbr]) <;> exact rfl
  · exact rfl
  · (simp only [go_sem, Try.ntmps5, hs, ok, hp, hq, fp, fq, fr, hpl, hplr, hr, hbr]) <;> exact rfl
  · (simp only [go_sem, Try.ntmps5, hs, ok, hp, hq, fp, fq, fr, hpl, hplr, hr, hbr]) <;> exact rfl
  · exact ⟨_, Try.func17, rfl, rfl⟩
  · (simp only [go_sem, Try.ntmps5, hs, ok, hp, hq, fp, fq, fr, hpl, hplr, hr, hbr]) <;> exact rfl
  · (simp only [go_sem, Try.ntmps5, hs, ok, hp, hq, fp, fq, fr, hpl, hplr, hr, hbr]) <;> exact rfl
  · exact mv_FaultK (by omega) ok (by assumption)
  apply W_run
  · (simp only [go_sem, Try.ntmps5, hs, ok, hp, hq, fp, fq, fr, hpl, hplr, hr, hbr]) <;> exact rfl
  apply W_nil
  apply K_seq
  apply T_seq
  apply T_wL F [0, 1, 2, 3, 4, 5, 6, 7] rfl
  apply W_pre [0, 1] [2, 3, 4, 5, 6, 7]
  · (simp only [go_sem, Try.ntmps5, hs, ok, hp, hq, fp, fq, fr, hpl, hplr, hr, hbr]) <;> exact rfl
  apply W_call -- call 6 of function 20
  · (simp only [go_sem, Try.ntmps5, hs, ok, hp, hq, fp, fq, fr, hpl, hplr, hr, hbr]) <;> exact rfl
  · (simp only [go_sem, Try.ntmps5, hs, ok, hp, hq, fp, fq, fr, hpl, hplr, hr, hbr]) <;> exact rfl
  · exact rfl
  · (simp only [go_sem, Try.ntmps5, hs, ok, hp, hq, fp, fq, fr, hpl, hplr, hr, hbr]) <;> exact rfl
  · (simp only [go_sem, Try.ntmps5, hs, ok, hp, hq, fp, fq, fr, hpl, hplr, hr, hbr]) <;> exact rfl
  · exact ⟨_, Try.func20, rfl, rfl⟩
  · (simp only [go_sem, Try.ntmps5, hs, ok, hp, hq, fp, fq, fr, hpl, hplr, hr, hbr]) <;> exact rfl
  · (simp only [go_sem, Try.ntmps5, hs, ok, hp, hq, fp, fq, fr, hpl, hplr, hr, hbr]) <;> exact rfl
  · exact mv_ExchangeC t p hh he r hx
  apply W_run
  · (simp only [go_sem, Try.ntmps5, hs, ok, hp, hq, fp, fq, fr, hpl, hplr, hr, hbr]) <;> exact rfl
  apply W_nil
  apply K_seq
  apply T_seq
  apply T_seq
  apply T_wL F [0, 1, 2, 3, 4, 5] rfl
  apply W_run
  · (simp only [go_sem, Try.ntmps5, hs, ok, hp, hq, fp, fq, fr, hpl, hplr, hr, hbr]) <;> exact rfl
  apply W_nil
  apply K_seq
  apply T_ifF -- h1
  · (simp only [go_sem, Try.ntmps5, hs, ok, hp, hq, fp, fq, fr, hpl, hplr, hr, hbr]) <;> exact rfl
  apply T_skip
  apply K_seq
  apply T_seq
  apply T_seq
  apply T_r F
  · (simp only [go_sem, Try.ntmps5, hs, ok, hp, hq, fp, fq, fr, hpl, hplr, hr, hbr]) <;> exact rfl
  apply K_seq
  apply T_ifF -- h2
  · (simp only [go_sem, Try.ntmps5, hs, ok, hp, hq, fp, fq, fr, hpl, hplr, hr, hbr]) <;> exact rfl
  apply T_skip
  apply K_seq
  apply T_seq
  apply T_wL F [0, 1, 2, 3, 4, 5, 6, 7, 8, 9] rfl
  apply W_pre [0, 1, 2, 3] [4, 5, 6, 7, 8, 9]
  · (simp only [go_sem, Try.ntmps5, hs, ok, hp, hq, fp, fq, fr, hpl, hplr, hr, hbr]) <;> exact rfl
  apply W_pre [4, 5, 6] [7, 8, 9]
  · (simp only [go_sem, Try.ntmps5, hs, ok, hp, hq, fp, fq, fr, hpl, hplr, hr, hbr]) <;> exact rfl
  apply W_call -- call 7 of function 24
  · (simp only [go_sem, Try.ntmps5, hs, ok, hp, hq, fp, fq, fr, hpl, hplr, hr, hbr]) <;> exact rfl
  · (simp only [go_sem, Try.ntmps5, hs, ok, hp, hq, fp, fq, fr, hpl, hplr, hr, hbr]) <;> exact rfl
  · exact rfl
  · (simp only [go_sem, Try.ntmps5, hs, ok, hp, hq, fp, fq, fr, hpl, hplr, hr, hbr]) <;> exact rfl
  · (simp only [go_sem, Try.ntmps5, hs, ok, hp, hq, fp, fq, fr, hpl, hplr, hr, hbr]) <;> exact rfl
  · exact ⟨_, Try.func24, rfl, rfl⟩
  · (simp only [go_sem, Try.ntmps5, hs, ok, hp, hq, fp, fq, fr, hpl, hplr, hr, hbr]) <;> exact rfl
  · (simp only [go_sem, Try.ntmps5, hs, ok, hp, hq, fp, fq, fr, hpl, hplr, hr, hbr]) <;> exact rfl
  · exact law_pleased _ _ _ (by omega) (by omega)
  apply W_run
  · (simp only [go_sem, Try.ntmps5, hs, ok, hp, hq, fp, fq, fr, hpl, hplr, hr, hbr]) <;> exact rfl
  apply W_nil
  apply K_seq
  apply T_seq
  apply T_seq
  apply T_r F
  · (simp only [go_sem, Try.ntmps5, hs, ok, hp, hq, fp, fq, fr, hpl, hplr, hr, hbr]) <;> exact rfl
  apply K_seq
  apply T_ifF -- h3
  · (simp only [go_sem, Try.ntmps5, hs, ok, hp, hq, fp, fq, fr, hpl, hplr, hr, hbr]) <;> exact rfl
  apply T_skip
  apply K_seq
  apply T_seq
  apply T_seq
  apply T_wL F [0, 1, 2, 3] rfl
  apply W_pre [0, 1] [2, 3]
  · (simp only [go_sem, Try.ntmps5, hs, ok, hp, hq, fp, fq, fr, hpl, hplr, hr, hbr]) <;> exact rfl
  apply W_call -- call 8 of function 14
  · (simp only [go_sem, Try.ntmps5, hs, ok, hp, hq, fp, fq, fr, hpl, hplr, hr, hbr]) <;> exact rfl
  · (simp only [go_sem, Try.ntmps5, hs, ok, hp, hq, fp, fq, fr, hpl, hplr, hr, hbr]) <;> exact rfl
  · exact rfl
  · (simp only [go_sem, Try.ntmps5, hs, ok, hp, hq, fp, fq, fr, hpl, hplr, hr, hbr]) <;> exact rfl
  · (simp only [go_sem, Try.ntmps5, hs, ok, hp, hq, fp, fq, fr, hpl, hplr, hr, hbr]) <;> exact rfl
  · exact ⟨_, Try.func14, rfl, rfl⟩
  · (simp only [go_sem, Try.ntmps5, hs, ok, hp, hq, fp, fq, fr, hpl, hplr, hr, hbr]) <;> exact rfl
  · (simp only [go_sem, Try.ntmps5, hs, ok, hp, hq, fp, fq, fr, hpl, hplr, hr, hbr]) <;> exact rfl
  · exact ref_plan _ _
  apply W_run
  · (simp only [go_sem, Try.ntmps5, hs, ok, hp, hq, fp, fq, fr, hpl, hplr, hr, hbr]) <;> exact rfl
  apply W_nil
  apply K_seq
  apply T_ifF -- h4
  · (simp only [go_sem, Try.ntmps5, hs, ok, hp, hq, fp, fq, fr, hpl, hplr, hr, hbr]) <;> exact rfl
  apply T_skip
  apply K_seq
  apply T_seq
  apply T_wL F [0, 1, 2, 3, 4, 5, 6, 7, 8] rfl
  apply W_pre [0, 1] [2, 3, 4, 5, 6, 7, 8]
  · (simp only [go_sem, Try.ntmps5, hs, ok, hp, hq, fp, fq, fr, hpl, hplr, hr, hbr]) <;> exact rfl
  apply W_call -- call 9 of function 17
  · (simp only [go_sem, Try.ntmps5, hs, ok, hp, hq, fp, fq, fr, hpl, hplr, hr, hbr]) <;> exact rfl
  · (simp only [go_sem, Try.ntmps5, hs, ok, hp, hq, fp, fq, fr, hpl, hplr, hr, hbr]) <;> exact rfl
  · exact rfl
  · (simp only [go_sem, Try.ntmps5, hs, ok, hp, hq, fp, fq, fr, hpl, hplr, hr, hbr]) <;> exact rfl
  · (simp only [go_sem, Try.ntmps5, hs, ok, hp, hq, fp, fq, fr, hpl, hplr, hr, hbr]) <;> exact rfl
  · exact ⟨_, Try.func17, rfl, rfl⟩
  · (simp only [go_sem, Try.ntmps5, hs, ok, hp, hq, fp, fq, fr, hpl, hplr, hr, hbr]) <;> exact rfl
  · (simp only [go_sem, Try.ntmps5, hs, ok, hp, hq, fp, fq, fr, hpl, hplr, hr, hbr]) <;> exact rfl
  · exact mv_FaultK (by omega) ok (by assumption)
  apply W_run
  · (simp only [go_sem, Try.ntmps5, hs, ok, hp, hq, fp, fq, fr, hpl, hplr, hr, hbr]) <;> exact rfl
  apply W_nil
  apply K_seq
  apply T_seq
  apply T_wL F [0, 1, 2, 3, 4, 5, 6, 7, 8, 9, 10, 11, 12, 13, 14, 15, 16, 17, 18, 19, 20, 21, 22, 23, 24, 25, 26] rfl
  apply W_pre [0, 1, 2, 3] [4, 5, 6, 7, 8, 9, 10, 11, 12, 13, 14, 15, 16, 17, 18, 19, 20, 21, 22, 23, 24, 25, 26]
  · (simp only [go_sem, Try.ntmps5, hs, ok, hp, hq, fp, fq, fr, hpl, hplr, hr, hbr]) <;> exact rfl
  apply W_pre [4, 5, 6, 7] [8, 9, 10, 11, 12, 13, 14, 15, 16, 17, 18, 19, 20, 21, 22, 23, 24, 25, 26]
  · (simp only [go_sem, Try.ntmps5, hs, ok, hp, hq, fp, fq, fr, hpl, hplr, hr, hbr]) <;> exact rfl
  apply W_pre [8, 9, 10] [11, 12, 13, 14, 15, 16, 17, 18, 19, 20, 21, 22, 23, 24, 25, 26]
  · (simp only [go_sem, Try.ntmps5, hs, ok, hp, hq, fp, fq, fr, hpl, hplr, hr, hbr]) <;> exact rfl
  apply W_call -- call 10 of function 24
  · (simp only [go_sem, Try.ntmps5, hs, ok, hp, hq, fp, fq, fr, hpl, hplr, hr, hbr]) <;> exact rfl
  · (simp only [go_sem, Try.ntmps5, hs, ok, hp, hq, fp, fq, fr, hpl, hplr, hr, hbr]) <;> exact rfl
  · exact rfl
  · (simp only [go_sem, Try.ntmps5, hs, ok, hp, hq, fp, fq, fr, hpl, hplr, hr, hbr]) <;> exact rfl
  · (simp only [go_sem, Try.ntmps5, hs, ok, hp, hq, fp, fq, fr, hpl, hplr, hr, hbr]) <;> exact rfl
  · exact ⟨_, Try.func24, rfl, rfl⟩
  · (simp only [go_sem, Try.ntmps5, hs, ok, hp, hq, fp, fq, fr, hpl, hplr, hr, hbr]) <;> exact rfl
  · (simp only [go_sem, Try.ntmps5, hs, ok, hp, hq, fp, fq, fr, hpl, hplr, hr, hbr]) <;> exact rfl
  · exact law_pleased _ _ _ (by omega) (by omega)
  apply W_pre [12, 13, 14, 15] [16, 17, 18, 19, 20, 21, 22, 23, 24, 25, 26]
  · (simp only [go_sem, Try.ntmps5, hs, ok, hp, hq, fp, fq, fr, hpl, hplr, hr, hbr]) <;> exact rfl
  apply W_pre [16, 17, 18] [19, 20, 21, 22, 23, 24, 25, 26]
  · (simp only [go_sem, Try.ntmps5, hs, ok, hp, hq, fp, fq, fr, hpl, hplr, hr, hbr]) <;> exact rfl
  apply W_call -- call 11 of function 25
  · (simp only [go_sem, Try.ntmps5, hs, ok, hp, hq, fp, fq, fr, hpl, hplr, hr, hbr]) <;> exact rfl
  · (simp only [go_sem, Try.ntmps5, hs, ok, hp, hq, fp, fq, fr, hpl, hplr, hr, hbr]) <;> exact rfl
  · exact rfl
  · (simp only [go_sem, Try.ntmps5, hs, ok, hp, hq, fp, fq, fr, hpl, hplr, hr, hbr]) <;> exact rfl
  · (simp only [go_sem, Try.ntmps5, hs, ok, hp, hq, fp, fq, fr, hpl, hplr, hr, hbr]) <;> exact rfl
  · exact ⟨_, Try.func25, rfl, rfl⟩
  · (simp only [go_sem, Try.ntmps5, hs, ok, hp, hq, fp, fq, fr, hpl, hplr, hr, hbr]) <;> exact rfl
  · (simp only [go_sem, Try.ntmps5, hs, ok, hp, hq, fp, fq, fr, hpl, hplr, hr, hbr]) <;> exact rfl
  · exact ref_before _ _
  apply W_pre [20, 21, 22, 23] [24, 25, 26]
  · (simp only [go_sem, Try.ntmps5, hs, ok, hp, hq, fp, fq, fr, hpl, hplr, hr, hbr]) <;> exact rfl
  apply W_call -- call 12 of function 16
  · (simp only [go_sem, Try.ntmps5, hs, ok, hp, hq, fp, fq, fr, hpl, hplr, hr, hbr]) <;> exact rfl
  · (simp only [go_sem, Try.ntmps5, hs, ok, hp, hq, fp, fq, fr, hpl, hplr, hr, hbr]) <;> exact rfl
  · exact rfl
  · (simp only [go_sem, Try.ntmps5, hs, ok, hp, hq, fp, fq, fr, hpl, hplr, hr, hbr]) <;> exact rfl
  · (simp only [go_sem, Try.ntmps5, hs, ok, hp, hq, fp, fq, fr, hpl, hplr, hr, hbr]) <;> exact rfl
  · exact ⟨_, Try.func16, rfl, rfl⟩
  · (simp only [go_sem, Try.ntmps5, hs, ok, hp, hq, fp, fq, fr, hpl, hplr, hr, hbr]) <;> exact rfl
  · (simp only [go_sem, Try.ntmps5, hs, ok, hp, hq, fp, fq, fr, hpl, hplr, hr, hbr]) <;> exact rfl
  · exact known_ok
  apply W_run
  · (simp only [go_sem, Try.ntmps5, hs, ok, hp, hq, fp, fq, fr, hpl, hplr, hr, hbr]) <;> exact rfl
  apply W_nil
  apply K_seq
  apply T_ret
  apply fin_ret
  · (simp only [go_sem, Try.ntmps5, hs, ok, hp, hq, fp, fq, fr, hpl, hplr, hr, hbr, Try.f5]) <;> exact rfl
  -- leaf 0 (ret)
  
  all_goals rfl

theorem law_settledI (t : Town) (p q : List Int) (hs : M.Short t) (ok : M.Ok t) (hp : M.plan t p = true) (hq : M.plan t q = true) (ap : M.allowed t p = true) (r : List Int) (hx : M.exch t p = some r) (aq : M.allowed t q = true) (pq : M.pleases t p q = false) : Ret Try.prog 5 [.agg (cT t), .sl 1 (rI p), .sl 1 (rI q)] (.bool true) := by
  have hh : t.houses.length ≤ 1000 := by have := hs.2.2.2.2.2.1; omega
  have fp : (M.fault t p).1 = 1 := by simpa [M.allowed] using ap
  have fq : (M.fault t q).1 = 1 := by simpa [M.allowed] using aq
  have hlp := (M.plan_iff.1 hp).1
  have hlq := (M.plan_iff.1 hq).1
  have he : M.err t p = 0 := by simp [M.err, ok, hp, ap]
  obtain ⟨hr, ar, xr, br⟩ := M.exch_some hx
  have hlr := (M.plan_iff.1 hr).1
  have fr : (M.fault t r).1 = 1 := by simpa [M.allowed] using ar
  have hplr : M.pleasedL t p r = true := by rw [M.pleasedL_eq (by omega) ap ar]; exact xr
  have hpl : M.pleasedL t p q = false := by rw [M.pleasedL_eq (by omega) ap aq]; exact pq
  apply Ret_fin (fn := Try.f5) Try.func5 rfl
  apply T_seq
  apply T_r F
  · (simp only [go_sem, Try.ntmps5, hs, ok, hp, hq, fp, fq, fr, hpl, hplr, hr]) <;> exact rfl
  apply K_seq
  apply T_seq
  apply T_seq
  apply T_wL F [0, 1, 2, 3, 4, 5, 6, 7, 8, 9, 10, 11, 12, 13, 14, 15, 16, 17, 18, 19] rfl
  apply W_pre [0] [1, 2, 3, 4, 5, 6, 7, 8, 9, 10, 11, 12, 13, 14, 15, 16, 17, 18, 19]
  · (simp only [go_sem, Try.ntmps5, hs, ok, hp, hq, fp, fq, fr, hpl, hplr, hr]) <;> exact rfl
  apply W_call -- call 0 of function 12
  · (simp only [go_sem, Try.ntmps5, hs, ok, hp, hq, fp, fq, fr, hpl, hplr, hr]) <;> exact rfl
  · (simp only [go_sem, Try.ntmps5, hs, ok, hp, hq, fp, fq, fr, hpl, hplr, hr]) <;> exact rfl
  · exact rfl
  · (simp only [go_sem, Try.ntmps5, hs, ok, hp, hq, fp, fq, fr, hpl, hplr, hr]) <;> exact rfl
  · (simp only [go_sem, Try.ntmps5, hs, ok, hp, hq, fp, fq, fr, hpl, hplr, hr]) <;> exact rfl
  · exact ⟨_, Try.func12, rfl, rfl⟩
  · (simp only [go_sem, Try.ntmps5, hs, ok, hp, hq, fp, fq, fr, hpl, hplr, hr]) <;> exact rfl
  · (simp only [go_sem, Try.ntmps5, hs, ok, hp, hq, fp, fq, fr, hpl, hplr, hr]) <;> exact rfl
  · exact law_short _
  apply W_pre [2, 3, 4] [5, 6, 7, 8, 9, 10, 11, 12, 13, 14, 15, 16, 17, 18, 19]
  · (simp only [go_sem, Try.ntmps5, hs, ok, hp, hq, fp, fq, fr, hpl, hplr, hr]) <;> exact rfl
  apply W_call -- call 1 of function 13
  · (simp only [go_sem, Try.ntmps5, hs, ok, hp, hq, fp, fq, fr, hpl, hplr, hr]) <;> exact rfl
  · (simp only [go_sem, Try.ntmps5, hs, ok, hp, hq, fp, fq, fr, hpl, hplr, hr]) <;> exact rfl
  · exact rfl
  · (simp only [go_sem, Try.ntmps5, hs, ok, hp, hq, fp, fq, fr, hpl, hplr, hr]) <;> exact rfl
  · (simp only [go_sem, Try.ntmps5, hs, ok, hp, hq, fp, fq, fr, hpl, hplr, hr]) <;> exact rfl
  · exact ⟨_, Try.func13, rfl, rfl⟩
  · (simp only [go_sem, Try.ntmps5, hs, ok, hp, hq, fp, fq, fr, hpl, hplr, hr]) <;> exact rfl
  · (simp only [go_sem, Try.ntmps5, hs, ok, hp, hq, fp, fq, fr, hpl, hplr, hr]) <;> exact rfl
  · exact ref_town _
  apply W_pre [6, 7, 8, 9, 10] [11, 12, 13, 14, 15, 16, 17, 18, 19]
  · (simp only [go_sem, Try.ntmps5, hs, ok, hp, hq, fp, fq, fr, hpl, hplr, hr]) <;> exact rfl
  apply W_call -- call 2 of function 14
  · (simp only [go_sem, Try.ntmps5, hs, ok, hp, hq, fp, fq, fr, hpl, hplr, hr]) <;> exact rfl
  · (simp only [go_sem, Try.ntmps5, hs, ok, hp, hq, fp, fq, fr, hpl, hplr, hr]) <;> exact rfl
  · exact rfl
  · (simp only [go_sem, Try.ntmps5, hs, ok, hp, hq, fp, fq, fr, hpl, hplr, hr]) <;> exact rfl
  · (simp only [go_sem, Try.ntmps5, hs, ok, hp, hq, fp, fq, fr, hpl, hplr, hr]) <;> exact rfl
  · exact ⟨_, Try.func14, rfl, rfl⟩
  · (simp only [go_sem, Try.ntmps5, hs, ok, hp, hq, fp, fq, fr, hpl, hplr, hr]) <;> exact rfl
  · (simp only [go_sem, Try.ntmps5, hs, ok, hp, hq, fp, fq, fr, hpl, hplr, hr]) <;> exact rfl
  · exact ref_plan _ _
  apply W_pre [12, 13, 14, 15, 16] [17, 18, 19]
  · (simp only [go_sem, Try.ntmps5, hs, ok, hp, hq, fp, fq, fr, hpl, hplr, hr]) <;> exact rfl
  apply W_call -- call 3 of function 14
  · (simp only [go_sem, Try.ntmps5, hs, ok, hp, hq, fp, fq, fr, hpl, hplr, hr]) <;> exact rfl
  · (simp only [go_sem, Try.ntmps5, hs, ok, hp, hq, fp, fq, fr, hpl, hplr, hr]) <;> exact rfl
  · exact rfl
  · (simp only [go_sem, Try.ntmps5, hs, ok, hp, hq, fp, fq, fr, hpl, hplr, hr]) <;> exact rfl
  · (simp only [go_sem, Try.ntmps5, hs, ok, hp, hq, fp, fq, fr, hpl, hplr, hr]) <;> exact rfl
  · exact ⟨_, Try.func14, rfl, rfl⟩
  · (simp only [go_sem, Try.ntmps5, hs, ok, hp, hq, fp, fq, fr, hpl, hplr, hr]) <;> exact rfl
  · (simp only [go_sem, Try.ntmps5, hs, ok, hp, hq, fp, fq, fr, hpl, hplr, hr]) <;> exact rfl
  · exact ref_plan _ _
  apply W_run
  · (simp only [go_sem, Try.ntmps5, hs, ok, hp, hq, fp, fq, fr, hpl, hplr, hr]) <;> exact rfl
  apply W_nil
  apply K_seq
  apply T_ifF -- h0
  · (simp only [go_sem, Try.ntmps5, hs, ok, hp, hq, fp, fq, fr, hpl, hplr, hr]) <;> exact rfl
  apply T_skip
  apply K_seq
  apply T_seq
  apply T_wL F [0, 1, 2, 3, 4, 5, 6, 7, 8] rfl
  apply W_pre [0, 1] [2, 3, 4, 5, 6, 7, 8]
  · (simp only [go_sem, Try.ntmps5, hs, ok, hp, hq, fp, fq, fr, hpl, hplr, hr]) <;> exact rfl
  apply W_call -- call 4 of function 17
  · (simp only [go_sem, Try.ntmps5, hs, ok, hp, hq, fp, fq, fr, hpl, hplr, hr]) <;> exact rfl
  · (simp only [go_sem, Try.ntmps5, hs, ok, hp, hq, fp, fq, fr, hpl, hplr, hr]) <;> exact rfl
  · exact rfl
  · (simp only [go_sem, Try.ntmps5, hs, ok, hp, hq, fp, fq, fr, hpl, hplr, hr]) <;> exact rfl
  · (simp only [go_sem, Try.ntmps5, hs, ok, hp, hq, fp, fq, fr, hpl, hplr, hr]) <;> exact rfl
  · exact ⟨_, Try.func17, rfl, rfl⟩
  · (simp only [go_sem, Try.ntmps5, hs, ok, hp, hq, fp, fq, fr, hpl, hplr, hr]) <;> exact rfl
  · (simp only [go_sem, Try.ntmps5, hs, ok, hp, hq, fp, fq, fr, hpl, hplr, hr]) <;> exact rfl
  · exact mv_FaultK (by omega) ok (by assumption)
  apply W_run
  · (simp only [go_sem, Try.ntmps5, hs, ok, hp, hq, fp, fq, fr, hpl, hplr, hr]) <;> exact rfl
  apply W_nil
  apply K_seq
  apply T_seq
  apply T_wL F [0, 1, 2, 3, 4, 5, 6, 7, 8] rfl
  apply W_pre [0, 1] [2, 3, 4, 5, 6, 7, 8]
  · (simp only [go_sem, Try.ntmps5, hs, ok, hp, hq, fp, fq, fr, hpl, hplr, hr]) <;> exact rfl
  apply W_call -- call 5 of function 17
  · (simp only [go_sem, Try.ntmps5, hs, ok, hp, hq, fp, fq, fr, hpl, hplr, hr]) <;> exact rfl
  · (simp only [go_sem, Try.ntmps5, hs, ok, hp, hq, fp, fq, fr, hpl, hplr, hr]) <;> exact rfl
  · exact rfl
  · (simp only [go_sem, Try.ntmps5, hs, ok, hp, hq, fp, fq, fr, hpl, hplr, hr]) <;> exact rfl
  · (simp only [go_sem, Try.ntmps5, hs, ok, hp, hq, fp, fq, fr, hpl, hplr, hr]) <;> exact rfl
  · exact ⟨_, Try.func17, rfl, rfl⟩
  · (simp only [go_sem, Try.ntmps5, hs, ok, hp, hq, fp, fq, fr, hpl, hplr, hr]) <;> exact rfl
  · (simp only [go_sem, Try.ntmps5, hs, ok, hp, hq, fp, fq, fr, hpl, hplr, hr]) <;> exact rfl
  · exact mv_FaultK (by omega) ok (by assumption)
  apply W_run
  · (simp only [go_sem, Try.ntmps5, hs, ok, hp, hq, fp, fq, fr, hpl, hplr, hr]) <;> exact rfl
  apply W_nil
  apply K_seq
  apply T_seq
  apply T_wL F [0, 1, 2, 3, 4, 5, 6, 7] rfl
  apply W_pre [0, 1] [2, 3, 4, 5, 6, 7]
  · (simp only [go_sem, Try.ntmps5, hs, ok, hp, hq, fp, fq, fr, hpl, hplr, hr]) <;> exact rfl
  apply W_call -- call 6 of function 20
  · (simp only [go_sem, Try.ntmps5, hs, ok, hp, hq, fp, fq, fr, hpl, hplr, hr]) <;> exact rfl
  · (simp only [go_sem, Try.ntmps5, hs, ok, hp, hq, fp, fq, fr, hpl, hplr, hr]) <;> exact rfl
  · exact rfl
  · (simp only [go_sem, Try.ntmps5, hs, ok, hp, hq, fp, fq, fr, hpl, hplr, hr]) <;> exact rfl
  · (simp only [go_sem, Try.ntmps5, hs, ok, hp, hq, fp, fq, fr, hpl, hplr, hr]) <;> exact rfl
  · exact ⟨_, Try.func20, rfl, rfl⟩
  · (simp only [go_sem, Try.ntmps5, hs, ok, hp, hq, fp, fq, fr, hpl, hplr, hr]) <;> exact rfl
  · (simp only [go_sem, Try.ntmps5, hs, ok, hp, hq, fp, fq, fr, hpl, hplr, hr]) <;> exact rfl
  · exact mv_ExchangeC t p hh he r hx
  apply W_run
  · (simp only [go_sem, Try.ntmps5, hs, ok, hp, hq, fp, fq, fr, hpl, hplr, hr]) <;> exact rfl
  apply W_nil
  apply K_seq
  apply T_seq
  apply T_seq
  apply T_wL F [0, 1, 2, 3, 4, 5] rfl
  apply W_run
  · (simp only [go_sem, Try.ntmps5, hs, ok, hp, hq, fp, fq, fr, hpl, hplr, hr]) <;> exact rfl
  apply W_nil
  apply K_seq
  apply T_ifF -- h1
  · (simp only [go_sem, Try.ntmps5, hs, ok, hp, hq, fp, fq, fr, hpl, hplr, hr]) <;> exact rfl
  apply T_skip
  apply K_seq
  apply T_seq
  apply T_seq
  apply T_r F
  · (simp only [go_sem, Try.ntmps5, hs, ok, hp, hq, fp, fq, fr, hpl, hplr, hr]) <;> exact rfl
  apply K_seq
  apply T_ifF -- h2
  · (simp only [go_sem, Try.ntmps5, hs, ok, hp, hq, fp, fq, fr, hpl, hplr, hr]) <;> exact rfl
  apply T_skip
  apply K_seq
  apply T_seq
  apply T_wL F [0, 1, 2, 3, 4, 5, 6, 7, 8, 9] rfl
  apply W_pre [0, 1, 2, 3] [4, 5, 6, 7, 8, 9]
  · (simp only [go_sem, Try.ntmps5, hs, ok, hp, hq, fp, fq, fr, hpl, hplr, hr]) <;> exact rfl
  apply W_pre [4, 5, 6] [7, 8, 9]
  · (simp only [go_sem, Try.ntmps5, hs, ok, hp, hq, fp, fq, fr, hpl, hplr, hr]) <;> exact rfl
  apply W_call -- call 7 of function 24
  · (simp only [go_sem, Try.ntmps5, hs, ok, hp, hq, fp, fq, fr, hpl, hplr, hr]) <;> exact rfl
  · (simp only [go_sem, Try.ntmps5, hs, ok, hp, hq, fp, fq, fr, hpl, hplr, hr]) <;> exact rfl
  · exact rfl
  · (simp only [go_sem, Try.ntmps5, hs, ok, hp, hq, fp, fq, fr, hpl, hplr, hr]) <;> exact rfl
  · (simp only [go_sem, Try.ntmps5, hs, ok, hp, hq, fp, fq, fr, hpl, hplr, hr]) <;> exact rfl
  · exact ⟨_, Try.func24, rfl, rfl⟩
  · (simp only [go_sem, Try.ntmps5, hs, ok, hp, hq, fp, fq, fr, hpl, hplr, hr]) <;> exact rfl
  · (simp only [go_sem, Try.ntmps5, hs, ok, hp, hq, fp, fq, fr, hpl, hplr, hr]) <;> exact rfl
  · exact law_pleased _ _ _ (by omega) (by omega)
  apply W_run
  · (simp only [go_sem, Try.ntmps5, hs, ok, hp, hq, fp, fq, fr, hpl, hplr, hr]) <;> exact rfl
  apply W_nil
  apply K_seq
  apply T_seq
  apply T_seq
  apply T_r F
  · (simp only [go_sem, Try.ntmps5, hs, ok, hp, hq, fp, fq, fr, hpl, hplr, hr]) <;> exact rfl
  apply K_seq
  apply T_ifF -- h3
  · (simp only [go_sem, Try.ntmps5, hs, ok, hp, hq, fp, fq, fr, hpl, hplr, hr]) <;> exact rfl
  apply T_skip
  apply K_seq
  apply T_seq
  apply T_seq
  apply T_wL F [0, 1, 2, 3] rfl
  apply W_pre [0, 1] [2, 3]
  · (simp only [go_sem, Try.ntmps5, hs, ok, hp, hq, fp, fq, fr, hpl, hplr, hr]) <;> exact rfl
  apply W_call -- call 8 of function 14
  · (simp only [go_sem, Try.ntmps5, hs, ok, hp, hq, fp, fq, fr, hpl, hplr, hr]) <;> exact rfl
  · (simp only [go_sem, Try.ntmps5, hs, ok, hp, hq, fp, fq, fr, hpl, hplr, hr]) <;> exact rfl
  · exact rfl
  · (simp only [go_sem, Try.ntmps5, hs, ok, hp, hq, fp, fq, fr, hpl, hplr, hr]) <;> exact rfl
  · (simp only [go_sem, Try.ntmps5, hs, ok, hp, hq, fp, fq, fr, hpl, hplr, hr]) <;> exact rfl
  · exact ⟨_, Try.func14, rfl, rfl⟩
  · (simp only [go_sem, Try.ntmps5, hs, ok, hp, hq, fp, fq, fr, hpl, hplr, hr]) <;> exact rfl
  · (simp only [go_sem, Try.ntmps5, hs, ok, hp, hq, fp, fq, fr, hpl, hplr, hr]) <;> exact rfl
  · exact ref_plan _ _
  apply W_run
  · (simp only [go_sem, Try.ntmps5, hs, ok, hp, hq, fp, fq, fr, hpl, hplr, hr]) <;> exact rfl
  apply W_nil
  apply K_seq
  apply T_ifF -- h4
  · (simp only [go_sem, Try.ntmps5, hs, ok, hp, hq, fp, fq, fr, hpl, hplr, hr]) <;> exact rfl
  apply T_skip
  apply K_seq
  apply T_seq
  apply T_wL F [0, 1, 2, 3, 4, 5, 6, 7, 8] rfl
  apply W_pre [0, 1] [2, 3, 4, 5, 6, 7, 8]
  · (simp only [go_sem, Try.ntmps5, hs, ok, hp, hq, fp, fq, fr, hpl, hplr, hr]) <;> exact rfl
  apply W_call -- call 9 of function 17
  · (simp only [go_sem, Try.ntmps5, hs, ok, hp, hq, fp, fq, fr, hpl, hplr, hr]) <;> exact rfl
  · (simp only [go_sem, Try.ntmps5, hs, ok, hp, hq, fp, fq, fr, hpl, hplr, hr]) <;> exact rfl
  · exact rfl
  · (simp only [go_sem, Try.ntmps5, hs, ok, hp, hq, fp, fq, fr, hpl, hplr, hr]) <;> exact rfl
  · (simp only [go_sem, Try.ntmps5, hs, ok, hp, hq, fp, fq, fr, hpl, hplr, hr]) <;> exact rfl
  · exact ⟨_, Try.func17, rfl, rfl⟩
  · (simp only [go_sem, Try.ntmps5, hs, ok, hp, hq, fp, fq, fr, hpl, hplr, hr]) <;> exact rfl
  · (simp only [go_sem, Try.ntmps5, hs, ok, hp, hq, fp, fq, fr, hpl, hplr, hr]) <;> exact rfl
  · exact mv_FaultK (by omega) ok (by assumption)
  apply W_run
  · (simp only [go_sem, Try.ntmps5, hs, ok, hp, hq, fp, fq, fr, hpl, hplr, hr]) <;> exact rfl
  apply W_nil
  apply K_seq
  apply T_seq
  apply T_wL F [0, 1, 2, 3, 4, 5, 6, 7, 8, 9, 10, 11, 12, 13, 14, 15, 16, 17, 18, 19, 20, 21, 22, 23, 24, 25, 26] rfl
  apply W_pre [0, 1, 2, 3] [4, 5, 6, 7, 8, 9, 10, 11, 12, 13, 14, 15, 16, 17, 18, 19, 20, 21, 22, 23, 24, 25, 26]
  · (simp only [go_sem, Try.ntmps5, hs, ok, hp, hq, fp, fq, fr, hpl, hplr, hr]) <;> exact rfl
  apply W_pre [4, 5, 6, 7] [8, 9, 10, 11, 12, 13, 14, 15, 16, 17, 18, 19, 20, 21, 22, 23, 24, 25, 26]
  · (simp only [go_sem, Try.ntmps5, hs, ok, hp, hq, fp, fq, fr, hpl, hplr, hr]) <;> exact rfl
  apply W_pre [8, 9, 10] [11, 12, 13, 14, 15, 16, 17, 18, 19, 20, 21, 22, 23, 24, 25, 26]
  · (simp only [go_sem, Try.ntmps5, hs, ok, hp, hq, fp, fq, fr, hpl, hplr, hr]) <;> exact rfl
  apply W_call -- call 10 of function 24
  · (simp only [go_sem, Try.ntmps5, hs, ok, hp, hq, fp, fq, fr, hpl, hplr, hr]) <;> exact rfl
  · (simp only [go_sem, Try.ntmps5, hs, ok, hp, hq, fp, fq, fr, hpl, hplr, hr]) <;> exact rfl
  · exact rfl
  · (simp only [go_sem, Try.ntmps5, hs, ok, hp, hq, fp, fq, fr, hpl, hplr, hr]) <;> exact rfl
  · (simp only [go_sem, Try.ntmps5, hs, ok, hp, hq, fp, fq, fr, hpl, hplr, hr]) <;> exact rfl
  · exact ⟨_, Try.func24, rfl, rfl⟩
  · (simp only [go_sem, Try.ntmps5, hs, ok, hp, hq, fp, fq, fr, hpl, hplr, hr]) <;> exact rfl
  · (simp only [go_sem, Try.ntmps5, hs, ok, hp, hq, fp, fq, fr, hpl, hplr, hr]) <;> exact rfl
  · exact law_pleased _ _ _ (by omega) (by omega)
  apply W_pre [12, 13, 14, 15] [16, 17, 18, 19, 20, 21, 22, 23, 24, 25, 26]
  · (simp only [go_sem, Try.ntmps5, hs, ok, hp, hq, fp, fq, fr, hpl, hplr, hr]) <;> exact rfl
  apply W_pre [16, 17, 18, 19] [20, 21, 22, 23, 24, 25, 26]
  · (simp only [go_sem, Try.ntmps5, hs, ok, hp, hq, fp, fq, fr, hpl, hplr, hr]) <;> exact rfl
  apply W_pre [20, 21, 22, 23] [24, 25, 26]
  · (simp only [go_sem, Try.ntmps5, hs, ok, hp, hq, fp, fq, fr, hpl, hplr, hr]) <;> exact rfl
  apply W_call -- call 11 of function 16
  · (simp only [go_sem, Try.ntmps5, hs, ok, hp, hq, fp, fq, fr, hpl, hplr, hr]) <;> exact rfl
  · (simp only [go_sem, Try.ntmps5, hs, ok, hp, hq, fp, fq, fr, hpl, hplr, hr]) <;> exact rfl
  · exact rfl
  · (simp only [go_sem, Try.ntmps5, hs, ok, hp, hq, fp, fq, fr, hpl, hplr, hr]) <;> exact rfl
  · (simp only [go_sem, Try.ntmps5, hs, ok, hp, hq, fp, fq, fr, hpl, hplr, hr]) <;> exact rfl
  · exact ⟨_, Try.func16, rfl, rfl⟩
  · (simp only [go_sem, Try.ntmps5, hs, ok, hp, hq, fp, fq, fr, hpl, hplr, hr]) <;> exact rfl
  · (simp only [go_sem, Try.ntmps5, hs, ok, hp, hq, fp, fq, fr, hpl, hplr, hr]) <;> exact rfl
  · exact known_ok
  apply W_run
  · (simp only [go_sem, Try.ntmps5, hs, ok, hp, hq, fp, fq, fr, hpl, hplr, hr]) <;> exact rfl
  apply W_nil
  apply K_seq
  apply T_ret
  apply fin_ret
  · (simp only [go_sem, Try.ntmps5, hs, ok, hp, hq, fp, fq, fr, hpl, hplr, hr, Try.f5]) <;> exact rfl
  -- leaf 0 (ret)
  
  all_goals rfl

theorem law_settledJ (t : Town) (p q : List Int) (hs : M.Short t) (ok : M.Ok t) (hp : M.plan t p = true) (hq : M.plan t q = true) (ap : M.allowed t p = true) (r : List Int) (hx : M.exch t p = some r) (naq : M.allowed t q = false) : Ret Try.prog 5 [.agg (cT t), .sl 1 (rI p), .sl 1 (rI q)] (.bool true) := by
  have hh : t.houses.length ≤ 1000 := by have := hs.2.2.2.2.2.1; omega
  have fp : (M.fault t p).1 = 1 := by simpa [M.allowed] using ap
  have fnq : ((M.fault t q).1 != 1) = true := by simpa [M.allowed, bne] using naq
  have feq : ((M.fault t q).1 == 1) = false := by simpa [M.allowed] using naq
  have hlp := (M.plan_iff.1 hp).1
  have hlq := (M.plan_iff.1 hq).1
  have he : M.err t p = 0 := by simp [M.err, ok, hp, ap]
  obtain ⟨hr, ar, xr, br⟩ := M.exch_some hx
  have hlr := (M.plan_iff.1 hr).1
  have fr : (M.fault t r).1 = 1 := by simpa [M.allowed] using ar
  have hplr : M.pleasedL t p r = true := by rw [M.pleasedL_eq (by omega) ap ar]; exact xr
  apply Ret_fin (fn := Try.f5) Try.func5 rfl
  apply T_seq
  apply T_r F
  · (simp only [go_sem, Try.ntmps5, hs, ok, hp, hq, fp, feq, fr, hplr, hr]) <;> exact rfl
  apply K_seq
  apply T_seq
  apply T_seq
  apply T_wL F [0, 1, 2, 3, 4, 5, 6, 7, 8, 9, 10, 11, 12, 13, 14, 15, 16, 17, 18, 19] rfl
  apply W_pre [0] [1, 2, 3, 4, 5, 6, 7, 8, 9, 10, 11, 12, 13, 14, 15, 16, 17, 18, 19]
  · (simp only [go_sem, Try.ntmps5, hs, ok, hp, hq, fp, feq, fr, hplr, hr]) <;> exact rfl
  apply W_call -- call 0 of function 12
  · (simp only [go_sem, Try.ntmps5, hs, ok, hp, hq, fp, feq, fr, hplr, hr]) <;> exact rfl
  · (simp only [go_sem, Try.ntmps5, hs, ok, hp, hq, fp, feq, fr, hplr, hr]) <;> exact rfl
  · exact rfl
  · (simp only [go_sem, Try.ntmps5, hs, ok, hp, hq, fp, feq, fr, hplr, hr]) <;> exact rfl
  · (simp only [go_sem, Try.ntmps5, hs, ok, hp, hq, fp, feq, fr, hplr, hr]) <;> exact rfl
  · exact ⟨_, Try.func12, rfl, rfl⟩
  · (simp only [go_sem, Try.ntmps5, hs, ok, hp, hq, fp, feq, fr, hplr, hr]) <;> exact rfl
  · (simp only [go_sem, Try.ntmps5, hs, ok, hp, hq, fp, feq, fr, hplr, hr]) <;> exact rfl
  · exact law_short _
  apply W_pre [2, 3, 4] [5, 6, 7, 8, 9, 10, 11, 12, 13, 14, 15, 16, 17, 18, 19]
  · (simp only [go_sem, Try.ntmps5, hs, ok, hp, hq, fp, feq, fr, hplr, hr]) <;> exact rfl
  apply W_call -- call 1 of function 13
  · (simp only [go_sem, Try.ntmps5, hs, ok, hp, hq, fp, feq, fr, hplr, hr]) <;> exact rfl
  · (simp only [go_sem, Try.ntmps5, hs, ok, hp, hq, fp, feq, fr, hplr, hr]) <;> exact rfl
  · exact rfl
  · (simp only [go_sem, Try.ntmps5, hs, ok, hp, hq, fp, feq, fr, hplr, hr]) <;> exact rfl
  · (simp only [go_sem, Try.ntmps5, hs, ok, hp, hq, fp, feq, fr, hplr, hr]) <;> exact rfl
  · exact ⟨_, Try.func13, rfl, rfl⟩
  · (simp only [go_sem, Try.ntmps5, hs, ok, hp, hq, fp, feq, fr, hplr, hr]) <;> exact rfl
  · (simp only [go_sem, Try.ntmps5, hs, ok, hp, hq, fp, feq, fr, hplr, hr]) <;> exact rfl
  · exact ref_town _
  apply W_pre [6, 7, 8, 9, 10] [11, 12, 13, 14, 15, 16, 17, 18, 19]
  · (simp only [go_sem, Try.ntmps5, hs, ok, hp, hq, fp, feq, fr, hplr, hr]) <;> exact rfl
  apply W_call -- call 2 of function 14
  · (simp only [go_sem, Try.ntmps5, hs, ok, hp, hq, fp, feq, fr, hplr, hr]) <;> exact rfl
  · (simp only [go_sem, Try.ntmps5, hs, ok, hp, hq, fp, feq, fr, hplr, hr]) <;> exact rfl
  · exact rfl
  · (simp only [go_sem, Try.ntmps5, hs, ok, hp, hq, fp, feq, fr, hplr, hr]) <;> exact rfl
  · (simp only [go_sem, Try.ntmps5, hs, ok, hp, hq, fp, feq, fr, hplr, hr]) <;> exact rfl
  · exact ⟨_, Try.func14, rfl, rfl⟩
  · (simp only [go_sem, Try.ntmps5, hs, ok, hp, hq, fp, feq, fr, hplr, hr]) <;> exact rfl
  · (simp only [go_sem, Try.ntmps5, hs, ok, hp, hq, fp, feq, fr, hplr, hr]) <;> exact rfl
  · exact ref_plan _ _
  apply W_pre [12, 13, 14, 15, 16] [17, 18, 19]
  · (simp only [go_sem, Try.ntmps5, hs, ok, hp, hq, fp, feq, fr, hplr, hr]) <;> exact rfl
  apply W_call -- call 3 of function 14
  · (simp only [go_sem, Try.ntmps5, hs, ok, hp, hq, fp, feq, fr, hplr, hr]) <;> exact rfl
  · (simp only [go_sem, Try.ntmps5, hs, ok, hp, hq, fp, feq, fr, hplr, hr]) <;> exact rfl
  · exact rfl
  · (simp only [go_sem, Try.ntmps5, hs, ok, hp, hq, fp, feq, fr, hplr, hr]) <;> exact rfl
  · (simp only [go_sem, Try.ntmps5, hs, ok, hp, hq, fp, feq, fr, hplr, hr]) <;> exact rfl
  · exact ⟨_, Try.func14, rfl, rfl⟩
  · (simp only [go_sem, Try.ntmps5, hs, ok, hp, hq, fp, feq, fr, hplr, hr]) <;> exact rfl
  · (simp only [go_sem, Try.ntmps5, hs, ok, hp, hq, fp, feq, fr, hplr, hr]) <;> exact rfl
  · exact ref_plan _ _
  apply W_run
  · (simp only [go_sem, Try.ntmps5, hs, ok, hp, hq, fp, feq, fr, hplr, hr]) <;> exact rfl
  apply W_nil
  apply K_seq
  apply T_ifF -- h0
  · (simp only [go_sem, Try.ntmps5, hs, ok, hp, hq, fp, feq, fr, hplr, hr]) <;> exact rfl
  apply T_skip
  apply K_seq
  apply T_seq
  apply T_wL F [0, 1, 2, 3, 4, 5, 6, 7, 8] rfl
  apply W_pre [0, 1] [2, 3, 4, 5, 6, 7, 8]
  · (simp only [go_sem, Try.ntmps5, hs, ok, hp, hq, fp, feq, fr, hplr, hr]) <;> exact rfl
  apply W_call -- call 4 of function 17
  · (simp only [go_sem, Try.ntmps5, hs, ok, hp, hq, fp, feq, fr, hplr, hr]) <;> exact rfl
  · (simp only [go_sem, Try.ntmps5, hs, ok, hp, hq, fp, feq, fr, hplr, hr]) <;> exact rfl
  · exact rfl
  · (simp only [go_sem, Try.ntmps5, hs, ok, hp, hq, fp, feq, fr, hplr, hr]) <;> exact rfl
  · (simp only [go_sem, Try.ntmps5, hs, ok, hp, hq, fp, feq, fr, hplr, hr]) <;> exact rfl
  · exact ⟨_, Try.func17, rfl, rfl⟩
  · (simp only [go_sem, Try.ntmps5, hs, ok, hp, hq, fp, feq, fr, hplr, hr]) <;> exact rfl
  · (simp only [go_sem, Try.ntmps5, hs, ok, hp, hq, fp, feq, fr, hplr, hr]) <;> exact rfl
  · exact mv_FaultK (by omega) ok (by assumption)
  apply W_run
  · (simp only [go_sem, Try.ntmps5, hs, ok, hp, hq, fp, feq, fr, hplr, hr]) <;> exact rfl
  apply W_nil
  apply K_seq
  apply T_seq
  apply T_wL F [0, 1, 2, 3, 4, 5, 6, 7, 8] rfl
  apply W_pre [0, 1] [2, 3, 4, 5, 6, 7, 8]
  · (simp only [go_sem, Try.ntmps5, hs, ok, hp, hq, fp, feq, fr, hplr, hr]) <;> exact rfl
  apply W_call -- call 5 of function 17
  · (simp only [go_sem, Try.ntmps5, hs, ok, hp, hq, fp, feq, fr, hplr, hr]) <;> exact rfl
  · (simp only [go_sem, Try.ntmps5, hs, ok, hp, hq, fp, feq, fr, hplr, hr]) <;> exact rfl
  · exact rfl
  · (simp only [go_sem, Try.ntmps5, hs, ok, hp, hq, fp, feq, fr, hplr, hr]) <;> exact rfl
  · (simp only [go_sem, Try.ntmps5, hs, ok, hp, hq, fp, feq, fr, hplr, hr]) <;> exact rfl
  · exact ⟨_, Try.func17, rfl, rfl⟩
  · (simp only [go_sem, Try.ntmps5, hs, ok, hp, hq, fp, feq, fr, hplr, hr]) <;> exact rfl
  · (simp only [go_sem, Try.ntmps5, hs, ok, hp, hq, fp, feq, fr, hplr, hr]) <;> exact rfl
  · exact mv_FaultK (by omega) ok (by assumption)
  apply W_run
  · (simp only [go_sem, Try.ntmps5, hs, ok, hp, hq, fp, feq, fr, hplr, hr]) <;> exact rfl
  apply W_nil
  apply K_seq
  apply T_seq
  apply T_wL F [0, 1, 2, 3, 4, 5, 6, 7] rfl
  apply W_pre [0, 1] [2, 3, 4, 5, 6, 7]
  · (simp only [go_sem, Try.ntmps5, hs, ok, hp, hq, fp, feq, fr, hplr, hr]) <;> exact rfl
  apply W_call -- call 6 of function 20
  · (simp only [go_sem, Try.ntmps5, hs, ok, hp, hq, fp, feq, fr, hplr, hr]) <;> exact rfl
  · (simp only [go_sem, Try.ntmps5, hs, ok, hp, hq, fp, feq, fr, hplr, hr]) <;> exact rfl
  · exact rfl
  · (simp only [go_sem, Try.ntmps5, hs, ok, hp, hq, fp, feq, fr, hplr, hr]) <;> exact rfl
  · (simp only [go_sem, Try.ntmps5, hs, ok, hp, hq, fp, feq, fr, hplr, hr]) <;> exact rfl
  · exact ⟨_, Try.func20, rfl, rfl⟩
  · (simp only [go_sem, Try.ntmps5, hs, ok, hp, hq, fp, feq, fr, hplr, hr]) <;> exact rfl
  · (simp only [go_sem, Try.ntmps5, hs, ok, hp, hq, fp, feq, fr, hplr, hr]) <;> exact rfl
  · exact mv_ExchangeC t p hh he r hx
  apply W_run
  · (simp only [go_sem, Try.ntmps5, hs, ok, hp, hq, fp, feq, fr, hplr, hr]) <;> exact rfl
  apply W_nil
  apply K_seq
  apply T_seq
  apply T_seq
  apply T_wL F [0, 1, 2, 3, 4, 5] rfl
  apply W_run
  · (simp only [go_sem, Try.ntmps5, hs, ok, hp, hq, fp, feq, fr, hplr, hr]) <;> exact rfl
  apply W_nil
  apply K_seq
  apply T_ifF -- h1
  · (simp only [go_sem, Try.ntmps5, hs, ok, hp, hq, fp, feq, fr, hplr, hr]) <;> exact rfl
  apply T_skip
  apply K_seq
  apply T_seq
  apply T_seq
  apply T_r F
  · (simp only [go_sem, Try.ntmps5, hs, ok, hp, hq, fp, feq, fr, hplr, hr]) <;> exact rfl
  apply K_seq
  apply T_ifF -- h2
  · (simp only [go_sem, Try.ntmps5, hs, ok, hp, hq, fp, feq, fr, hplr, hr]) <;> exact rfl
  apply T_skip
  apply K_seq
  apply T_seq
  apply T_wL F [0, 1, 2, 3, 4, 5, 6, 7, 8, 9] rfl
  apply W_pre [0, 1, 2, 3] [4, 5, 6, 7, 8, 9]
  · (simp only [go_sem, Try.ntmps5, hs, ok, hp, hq, fp, feq, fr, hplr, hr]) <;> exact rfl
  apply W_run
  · (simp only [go_sem, Try.ntmps5, hs, ok, hp, hq, fp, feq, fr, hplr, hr]) <;> exact rfl
  apply W_nil
  apply K_seq
  apply T_seq
  apply T_seq
  apply T_r F
  · (simp only [go_sem, Try.ntmps5, hs, ok, hp, hq, fp, feq, fr, hplr, hr]) <;> exact rfl
  apply K_seq
  apply T_ifF -- h3
  · (simp only [go_sem, Try.ntmps5, hs, ok, hp, hq, fp, feq, fr, hplr, hr]) <;> exact rfl
  apply T_skip
  apply K_seq
  apply T_seq
  apply T_seq
  apply T_wL F [0, 1, 2, 3] rfl
  apply W_pre [0, 1] [2, 3]
  · (simp only [go_sem, Try.ntmps5, hs, ok, hp, hq, fp, feq, fr, hplr, hr]) <;> exact rfl
  apply W_call -- call 7 of function 14
  · (simp only [go_sem, Try.ntmps5, hs, ok, hp, hq, fp, feq, fr, hplr, hr]) <;> exact rfl
  · (simp only [go_sem, Try.ntmps5, hs, ok, hp, hq, fp, feq, fr, hplr, hr]) <;> exact rfl
  · exact rfl
  · (simp only [go_sem, Try.ntmps5, hs, ok, hp, hq, fp, feq, fr, hplr, hr]) <;> exact rfl
  · (simp only [go_sem, Try.ntmps5, hs, ok, hp, hq, fp, feq, fr, hplr, hr]) <;> exact rfl
  · exact ⟨_, Try.func14, rfl, rfl⟩
  · (simp only [go_sem, Try.ntmps5, hs, ok, hp, hq, fp, feq, fr, hplr, hr]) <;> exact rfl
  · (simp only [go_sem, Try.ntmps5, hs, ok, hp, hq, fp, feq, fr, hplr, hr]) <;> exact rfl
  · exact ref_plan _ _
  apply W_run
  · (simp only [go_sem, Try.ntmps5, hs, ok, hp, hq, fp, feq, fr, hplr, hr]) <;> exact rfl
  apply W_nil
  apply K_seq
  apply T_ifF -- h4
  · (simp only [go_sem, Try.ntmps5, hs, ok, hp, hq, fp, feq, fr, hplr, hr]) <;> exact rfl
  apply T_skip
  apply K_seq
  apply T_seq
  apply T_wL F [0, 1, 2, 3, 4, 5, 6, 7, 8] rfl
  apply W_pre [0, 1] [2, 3, 4, 5, 6, 7, 8]
  · (simp only [go_sem, Try.ntmps5, hs, ok, hp, hq, fp, feq, fr, hplr, hr]) <;> exact rfl
  apply W_call -- call 8 of function 17
  · (simp only [go_sem, Try.ntmps5, hs, ok, hp, hq, fp, feq, fr, hplr, hr]) <;> exact rfl
  · (simp only [go_sem, Try.ntmps5, hs, ok, hp, hq, fp, feq, fr, hplr, hr]) <;> exact rfl
  · exact rfl
  · (simp only [go_sem, Try.ntmps5, hs, ok, hp, hq, fp, feq, fr, hplr, hr]) <;> exact rfl
  · (simp only [go_sem, Try.ntmps5, hs, ok, hp, hq, fp, feq, fr, hplr, hr]) <;> exact rfl
  · exact ⟨_, Try.func17, rfl, rfl⟩
  · (simp only [go_sem, Try.ntmps5, hs, ok, hp, hq, fp, feq, fr, hplr, hr]) <;> exact rfl
  · (simp only [go_sem, Try.ntmps5, hs, ok, hp, hq, fp, feq, fr, hplr, hr]) <;> exact rfl
  · exact mv_FaultK (by omega) ok (by assumption)
  apply W_run
  · (simp only [go_sem, Try.ntmps5, hs, ok, hp, hq, fp, feq, fr, hplr, hr]) <;> exact rfl
  apply W_nil
  apply K_seq
  apply T_seq
  apply T_wL F [0, 1, 2, 3, 4, 5, 6, 7, 8, 9, 10, 11, 12, 13, 14, 15, 16, 17, 18, 19, 20, 21, 22, 23, 24, 25, 26] rfl
  apply W_pre [0, 1, 2, 3] [4, 5, 6, 7, 8, 9, 10, 11, 12, 13, 14, 15, 16, 17, 18, 19, 20, 21, 22, 23, 24, 25, 26]
  · (simp only [go_sem, Try.ntmps5, hs, ok, hp, hq, fp, feq, fr, hplr, hr]) <;> exact rfl
  apply W_pre [4, 5, 6, 7] [8, 9, 10, 11, 12, 13, 14, 15, 16, 17, 18, 19, 20, 21, 22, 23, 24, 25, 26]
  · (simp only [go_sem, Try.ntmps5, hs, ok, hp, hq, fp, feq, fr, hplr, hr]) <;> exact rfl
  apply W_pre [8, 9, 10] [11, 12, 13, 14, 15, 16, 17, 18, 19, 20, 21, 22, 23, 24, 25, 26]
  · (simp only [go_sem, Try.ntmps5, hs, ok, hp, hq, fp, feq, fr, hplr, hr]) <;> exact rfl
  apply W_call -- call 9 of function 24
  · (simp only [go_sem, Try.ntmps5, hs, ok, hp, hq, fp, feq, fr, hplr, hr]) <;> exact rfl
  · (simp only [go_sem, Try.ntmps5, hs, ok, hp, hq, fp, feq, fr, hplr, hr]) <;> exact rfl
  · exact rfl
  · (simp only [go_sem, Try.ntmps5, hs, ok, hp, hq, fp, feq, fr, hplr, hr]) <;> exact rfl
  · (simp only [go_sem, Try.ntmps5, hs, ok, hp, hq, fp, feq, fr, hplr, hr]) <;> exact rfl
  · exact ⟨_, Try.func24, rfl, rfl⟩
  · (simp only [go_sem, Try.ntmps5, hs, ok, hp, hq, fp, feq, fr, hplr, hr]) <;> exact rfl
  · (simp only [go_sem, Try.ntmps5, hs, ok, hp, hq, fp, feq, fr, hplr, hr]) <;> exact rfl
  · exact law_pleased _ _ _ (by omega) (by omega)
  apply W_pre [12, 13, 14, 15] [16, 17, 18, 19, 20, 21, 22, 23, 24, 25, 26]
  · (simp only [go_sem, Try.ntmps5, hs, ok, hp, hq, fp, feq, fr, hplr, hr]) <;> exact rfl
  apply W_pre [16, 17, 18, 19] [20, 21, 22, 23, 24, 25, 26]
  · (simp only [go_sem, Try.ntmps5, hs, ok, hp, hq, fp, feq, fr, hplr, hr]) <;> exact rfl
  apply W_pre [20, 21, 22, 23] [24, 25, 26]
  · (simp only [go_sem, Try.ntmps5, hs, ok, hp, hq, fp, feq, fr, hplr, hr]) <;> exact rfl
  apply W_call -- call 10 of function 16
  · (simp only [go_sem, Try.ntmps5, hs, ok, hp, hq, fp, feq, fr, hplr, hr]) <;> exact rfl
  · (simp only [go_sem, Try.ntmps5, hs, ok, hp, hq, fp, feq, fr, hplr, hr]) <;> exact rfl
  · exact rfl
  · (simp only [go_sem, Try.ntmps5, hs, ok, hp, hq, fp, feq, fr, hplr, hr]) <;> exact rfl
  · (simp only [go_sem, Try.ntmps5, hs, ok, hp, hq, fp, feq, fr, hplr, hr]) <;> exact rfl
  · exact ⟨_, Try.func16, rfl, rfl⟩
  · (simp only [go_sem, Try.ntmps5, hs, ok, hp, hq, fp, feq, fr, hplr, hr]) <;> exact rfl
  · (simp only [go_sem, Try.ntmps5, hs, ok, hp, hq, fp, feq, fr, hplr, hr]) <;> exact rfl
  · exact known_ok
  apply W_run
  · (simp only [go_sem, Try.ntmps5, hs, ok, hp, hq, fp, feq, fr, hplr, hr]) <;> exact rfl
  apply W_nil
  apply K_seq
  apply T_ret
  apply fin_ret
  · (simp only [go_sem, Try.ntmps5, hs, ok, hp, hq, fp, feq, fr, hplr, hr, Try.f5]) <;> exact rfl
  -- leaf 0 (ret)
  
  all_goals rfl


theorem law_settled (t : Town) (p q : List Int) : Ret Try.prog 5 [.agg (cT t), .sl 1 (rI p), .sl 1 (rI q)] (.bool true) := by
  by_cases hs : M.Short t
  · by_cases ok : M.Ok t
    · cases hp : M.plan t p
      · exact law_settledC t p q hs ok hp
      · cases hq : M.plan t q
        · exact law_settledD t p q hs ok hp hq
        · cases ap : M.allowed t p
          · exact law_settledE t p q hs ok hp hq ap
          · cases hx : M.exch t p with
            | none =>
              cases aq : M.allowed t q
              · exact law_settledG t p q hs ok hp hq ap hx aq
              · exact law_settledF t p q hs ok hp hq ap hx aq
            | some r =>
              cases aq : M.allowed t q
              · exact law_settledJ t p q hs ok hp hq ap r hx aq
              · cases pq : M.pleases t p q
                · exact law_settledI t p q hs ok hp hq ap r hx aq pq
                · exact law_settledH t p q hs ok hp hq ap r hx aq pq
    · exact law_settledB t p q hs ok
  · exact law_settledA t p q hs
end Go.Ab
namespace Go.Proofs.Ytahflobpopclpaa.moveSettled
open Go.ChangeShapes Go.WideShapes Go.ChangeAt Go.RowKit Go.Ab
set_option linter.unusedVariables false
theorem own : ownKnob Try.prog.godebug = none := by kernel_rfl
theorem laidOut : laidOutB Try.prog = true := by kernel_rfl
set_option maxRecDepth 100000 in
theorem lifted (os : Os) (started : os.Started) (H : Type) (enc : TypeId × Value → H) :
    ReturnsInHanded {} Try.checked os 5 .any (Rows.moveSettledSpec.pre6 enc Try.prog Try.f5 Rows.moveSettledRow.domain false) (Rows.moveSettledSpec.post enc Try.prog Try.f5 false true false false) := by
  refine returnsInHanded_of_change_sized (C := Try.checked) own started (by kernel_rfl) Try.func5
    (ChangeSpec.witness6 (enc := enc) (C := Try.checked) false ⟨#[], #[.agg #[.slice none 0 0, .int .i64 0, .slice none 0 0, .slice none 0 0, .slice none 0 0, .slice none 0 0], .slice none 0 0, .slice none 0 0], []⟩ 8 (by kernel_rfl) (by kernel_rfl) (by kernel_rfl) (by kernel_rfl)) ?_
  intro W base args ds gs before hval0 hW hcnd hsz0 _
  have hval : ∀ (j : Nat) t v, Try.f5.params[j]? = some t → args[j]? = some v → Value.okWide Try.prog W .any base t v := hval0
  have hW' := hW
  obtain ⟨p, q, hA0, hV, rfl, hfz, hnd⟩ := hW
  have hA : DataW.TrodAll enc Try.prog W 0 (fun _ => true) true Try.f5.params.toList args.toList ds p := hA0
  rw [Try.params5] at hA hval
  obtain ⟨v0, vs0, d0, ds0, p0, q0, hargs, rfl, rfl, h0, r0⟩ := trodAll_cons hA
  obtain ⟨v1, vs1, d1, ds1, p1, q1, rfl, rfl, rfl, h1, r1⟩ := trodAll_cons r0
  obtain ⟨v2, vs2, d2, ds2, p2, q2, rfl, rfl, rfl, h2, r2⟩ := trodAll_cons r1
  obtain ⟨rfl, rfl, rfl⟩ := trodAll_nil r2
  obtain rfl : args = #[v0, v1, v2] := by cases args; simp_all
  obtain ⟨rfl, rfl⟩ := trodVars_none hV
  have lt0 : ∀ x ∈ p0, x.block < W.heap.size := by obtain ⟨m, hm⟩ := h0; exact DataW.trod_lt m _ _ _ hm
  have lt1 : ∀ x ∈ p1, x.block < W.heap.size := by obtain ⟨m, hm⟩ := h1; exact DataW.trod_lt m _ _ _ hm
  have lt2 : ∀ x ∈ p2, x.block < W.heap.size := by obtain ⟨m, hm⟩ := h2; exact DataW.trod_lt m _ _ _ hm
  obtain ⟨t0, ht0⟩ := town_in h0
  obtain ⟨l1, hl1⟩ := ints_in h1 (let ⟨a, n, c, e⟩ := okWide_slice Try.underlying23 (hval 1 23 v1 rfl rfl); ⟨a, n, c, e⟩)
  obtain ⟨l2, hl2⟩ := ints_in h2 (let ⟨a, n, c, e⟩ := okWide_slice Try.underlying23 (hval 2 23 v2 rfl rfl); ⟨a, n, c, e⟩)
  clear hA0 hval0 hsz0
  have hargsR : RelL ⟨fun _ => False, [], [], W⟩ [.agg (cT t0), .sl 1 (rI l1), .sl 1 (rI l2)] (#[v0, v1, v2] : Array Value).toList := by
    simp only [RelL]
    exact ⟨_, _, rfl, ht0, _, _, rfl, hl1, _, _, rfl, hl2, rfl⟩
  refine (law_settled t0 l1 l2 (fun _ => False) W _ (fun _ h => h.elim) hargsR).mono fun e W' ⟨v, he, hr, bel⟩ => ?_
  simp only [Rel] at hr
  subst hr
  subst he
  exact ⟨_, rfl, _, _, _, [], _, [], hW', trodAll_mk1 (shut_bool Try.underlying4 _), (trodAll_cons_mk (Below.trod laidOut (by kernel_rfl) (of_decide_eq_true (by kernel_rfl)) h0 bel lt0) (trodAll_cons_mk (Below.trod laidOut (by kernel_rfl) (of_decide_eq_true (by kernel_rfl)) h1 bel lt1) (trodAll_cons_mk (Below.trod laidOut (by kernel_rfl) (of_decide_eq_true (by kernel_rfl)) h2 bel lt2) trodAll_mk0))), rfl, bel.frame _, fun h => by cases h⟩
theorem over : Rows.moveSettledRow.holds Try.pinned (OpenSpec.ofChange Rows.moveSettledSpec) :=
  OpenClaim.holds_of_wide 5 Try.f5 rfl rfl rfl rfl rfl rfl rfl ⟨rfl, rfl, rfl, rfl, rfl⟩ rfl rfl rfl rfl rfl (by kernel_rfl) Try.func5 (by kernel_rfl)
    (of_decide_eq_true (by kernel_rfl)) (by unfold Func.isWrapper; first | (rw [if_pos (by decide +kernel)]; kernel_rfl) | (rw [if_neg (by decide +kernel)]; exact ⟨rfl, rfl⟩))
    (fun os started H enc _ => lifted os started H enc)
end Go.Proofs.Ytahflobpopclpaa.moveSettled
namespace Go.Proofs.Ytahflobpopclpaa
theorem moveSettled_holds : Rows.MoveSettledSaid := moveSettled.over
end Go.Proofs.Ytahflobpopclpaa
