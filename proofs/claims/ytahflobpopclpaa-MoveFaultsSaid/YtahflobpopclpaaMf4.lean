/- The law MoveFaults holds of the given program for every input: it returns true, and the input reads as it did. -/
import Derived.Test.YtahflobpopclpaaMf3
import Derived.Test.YtahflobpopclpaaRows
import Derived.WalkKit
import Derived.ProofKit
import Derived.OpenShut
import Derived.ShutString
import Derived.ChangeOld
import Derived.Below
import Derived.SizedLaws
set_option linter.unusedVariables false
set_option linter.unusedSimpArgs false
namespace Go.Ab
open Go Go.RowKit Go.Proofs Fac
set_option linter.unusedVariables false
set_option linter.unusedSimpArgs false
set_option maxRecDepth 4000
set_option maxHeartbeats 1000000

theorem M.near_comm {t : Town} (ok : M.Ok t) {a b : Int} (ha : M.lot t a = true) (hb : M.lot t b = true) : M.near t a b = M.near t b a := by
  have h1 := M.lot_iff.1 ha
  have h2 := M.lot_iff.1 hb
  have h3 := (ok.walks.2.1 a.toNat (by omega) b.toNat (by omega)).2.2
  have e1 : ((a.toNat : Nat) : Int) = a := by omega
  have e2 : ((b.toNat : Nat) : Int) = b := by omega
  rw [e1, e2] at h3
  simp only [M.near, h3]
theorem M.taught_first {t : Town} (ok : M.Ok t) {n : Int} (hn : M.lot t n = true) : (M.first t.schools.length (fun k => M.near t n (M.at' t.schools k))).isSome = M.taught t n := by
  unfold M.taught
  rw [Bool.eq_iff_iff]
  simp only [M.first, List.find?_isSome, List.mem_range, List.any_eq_true]
  constructor
  · rintro ⟨k, hk, h⟩
    refine ⟨t.schools[k], List.getElem_mem hk, ?_⟩
    rw [M.at_get hk] at h
    rw [← M.near_comm ok hn (ok.school (List.getElem_mem hk))]; exact h
  · rintro ⟨s, hs, h⟩
    obtain ⟨k, hk, rfl⟩ := List.mem_iff_getElem.1 hs
    refine ⟨k, hk, ?_⟩
    rw [M.at_get hk, M.near_comm ok hn (ok.school hs)]; exact h

theorem Closed.add {h : List AObj} (hc : Closed h) {o : AObj} (ho : o.all (fun _ => false) = true) : Closed (h ++ [o]) := by
  intro x hx
  rcases List.mem_append.1 hx with hx | hx
  · exact AObj.all_imp (fun i hi => by simp at *; omega) x (hc x hx)
  · simp only [List.mem_singleton] at hx; subst hx
    exact AObj.all_imp (fun i hi => by simp at hi) x ho

theorem mv_school11 (t : Town) (p : List Int) (h : List AObj) (i j : Nat) (hc : Closed h) (hi : h[i]? = some (.box 69 (cW t p))) (n s : Int) (hj : h[j]? = some (.box 3 [.int .i64 n])) (h1 : 0 ≤ n) (h2 : n.toNat < t.walk.length) (h3 : 0 ≤ s) (h4 : s.toNat < (t.walk[n.toNat]).length) : RetS Try.prog 95 [.int .i64 s, .ptr i 0, .ptr j 0] h (.bool (M.near t n s)) h := by
  apply RetS_fin (fn := Try.f95) Try.func95 rfl (by simp [V.all]) hc
  apply T_seq
  apply T_r F
  · (simp only [go_sem, Try.ntmps95, cW_eq, hi, hj]) <;> exact rfl
  apply K_seq
  apply T_seq
  apply T_wL F [0, 1, 2, 3, 4] rfl
  apply W_pre [0, 1, 2] [3, 4]
  · (simp only [go_sem, Try.ntmps95, cW_eq, hi, hj]) <;> exact rfl
  apply W_call -- call 0 of function 96
  · (simp only [go_sem, Try.ntmps95, cW_eq, hi, hj]) <;> exact rfl
  · (simp only [go_sem, Try.ntmps95, cW_eq, hi, hj]) <;> exact rfl
  · exact rfl
  · (simp only [go_sem, Try.ntmps95, cW_eq, hi, hj]) <;> exact rfl
  · (simp only [go_sem, Try.ntmps95, cW_eq, hi, hj]) <;> exact rfl
  · exact ⟨_, Try.func96, rfl, rfl⟩
  · (simp only [go_sem, Try.ntmps95, cW_eq, hi, hj]) <;> exact rfl
  · (simp only [go_sem, Try.ntmps95, cW_eq, hi, hj]) <;> exact rfl
  · exact mv_near _ _ _ _ (by assumption) (by assumption) (by assumption) (by assumption)
  apply W_run
  · (simp only [go_sem, Try.ntmps95, cW_eq, hi, hj]) <;> exact rfl
  apply W_nil
  apply K_seq
  apply T_ret
  apply finS_ret
  · (simp only [go_sem, Try.ntmps95, cW_eq, hi, hj, Try.f95]) <;> exact rfl
  · simp
  · simp
  -- leaf 0 (ret)
  simp only [go_sem, Try.ntmps95, cW_eq, hi, hj, V.bool.injEq, V.int.injEq, true_and]
  all_goals rfl

theorem mv_school1 (t : Town) (p : List Int) (h : List AObj) (i : Nat) (hc : Closed h) (hi : h[i]? = some (.box 69 (cW t p))) (ok : M.Ok t) (hl : t.schools.length ≤ 9223372036854775807) (k : Nat) (hk : k < t.houses.length) (n : Int) (hn : M.lot t n = true) : RetS Try.prog 94 [.int .i64 (k : Int), .int .i64 n, .ptr i 0] h (.bool ((t.houses[k]).school && !M.taught t n)) h := by
  have hi1 : (h ++ [.box 3 [.int .i64 n]])[i]? = some (.box 69 (cW t p)) := by rw [List.getElem?_append_left (List.getElem?_eq_some_iff.1 hi).1]; exact hi
  have hnl := M.lot_iff.1 hn
  apply RetS_fin (fn := Try.f94) Try.func94 rfl (by simp [V.all]) hc
  apply T_seq
  apply T_r F
  · (simp only [go_sem, Try.ntmps94, cW_eq, hi, hi1, rH_get hk, hk]) <;> exact rfl
  apply K_seq
  apply T_seq
  apply T_wL F [0, 1, 2, 3, 4, 5, 6, 7, 8, 9, 10, 11, 12, 13, 14, 15] rfl
  apply W_pre [0, 1, 2, 3] [4, 5, 6, 7, 8, 9, 10, 11, 12, 13, 14, 15]
  · (simp only [go_sem, Try.ntmps94, cW_eq, hi, hi1, rH_get hk, hk]) <;> exact rfl
  apply W_pre [4, 5, 6, 7] [8, 9, 10, 11, 12, 13, 14, 15]
  · (simp only [go_sem, Try.ntmps94, cW_eq, hi, hi1, rH_get hk, hk]) <;> exact rfl
  apply W_guard
  · (simp only [go_sem, Try.ntmps94, cW_eq, hi, hi1, rH_get hk, hk]) <;> exact rfl
  · (simp only [go_sem, Try.ntmps94, cW_eq, hi, hi1, rH_get hk, hk]) <;> exact rfl
  · intro bg0t
    have g0t := bg0t
    try simp only [CS] at g0t
    try simp only [BS] at bg0t
    try exact absurd bg0t (by decide)
    all_goals (
  apply W_pre [8, 9, 10, 11] [12, 13, 14, 15]
  · (simp only [go_sem, Try.ntmps94, cW_eq, hi, hi1, rH_get hk, hk, bg0t]) <;> exact rfl
  apply W_callS -- call 0
  · (simp only [go_sem, Try.ntmps94, cW_eq, hi, hi1, rH_get hk, hk, bg0t]) <;> exact rfl
  · (simp only [go_sem, Try.ntmps94, cW_eq, hi, hi1, rH_get hk, hk, bg0t]) <;> exact rfl
  · exact rfl
  · (simp only [go_sem, Try.ntmps94, cW_eq, hi, hi1, rH_get hk, hk, bg0t]) <;> exact rfl
  · (simp only [go_sem, Try.ntmps94, cW_eq, hi, hi1, rH_get hk, hk, bg0t]) <;> exact rfl
  · exact ⟨_, Try.func75, rfl, rfl⟩
  · exact sl_containsFunc t.schools (h ++ [.box 3 [.int .i64 n]]) 95 [] [.ptr i 0, .ptr h.length 0] (fun k => M.near t n (M.at' t.schools k)) (hc.add rfl) ⟨_, Try.func95, rfl, rfl⟩ hl (fun k hk => by
    have hs := M.lot_iff.1 (ok.school (List.getElem_mem hk))
    have := mv_school11 t p (h ++ [.box 3 [.int .i64 n]]) i h.length (hc.add rfl) hi1 n t.schools[k] (by simp) hnl.1 (by omega) hs.1 (by rw [ok.square]; omega)
    rw [M.at_get hk]
    exact this)
  apply W_run
  · (simp only [go_sem, Try.ntmps94, cW_eq, hi, hi1, rH_get hk, hk, bg0t]) <;> exact rfl
  apply W_nil
  apply K_seq
  apply T_ret
  apply finS_ret
  · (simp only [go_sem, Try.ntmps94, cW_eq, hi, hi1, rH_get hk, hk, bg0t, Try.f94]) <;> exact rfl
  · simp
  · simp
  -- leaf 0 (ret)
  simp only [go_sem, Try.ntmps94, cW_eq, hi, hi1, rH_get hk, hk, bg0t, V.bool.injEq, V.int.injEq, true_and]
  grind [M.taught_first ok hn])
  · intro bg0f
    have g0f := bg0f
    try simp only [CS] at g0f
    try simp only [BS] at bg0f
    try exact absurd bg0f (by decide)
    all_goals (
  apply W_pre [8, 9, 10, 11] [12, 13, 14, 15]
  · (simp only [go_sem, Try.ntmps94, cW_eq, hi, hi1, rH_get hk, hk, bg0f]) <;> exact rfl
  apply W_run
  · (simp only [go_sem, Try.ntmps94, cW_eq, hi, hi1, rH_get hk, hk, bg0f]) <;> exact rfl
  apply W_nil
  apply K_seq
  apply T_ret
  apply finS_ret
  · (simp only [go_sem, Try.ntmps94, cW_eq, hi, hi1, rH_get hk, hk, bg0f, Try.f94]) <;> exact rfl
  · simp
  · simp
  -- leaf 1 (ret)
  simp only [go_sem, Try.ntmps94, cW_eq, hi, hi1, rH_get hk, hk, bg0f, V.bool.injEq, V.int.injEq, true_and]
  grind [M.taught_first ok hn])

theorem mv_school (t : Town) (p : List Int) (ok : M.Ok t) (hp : M.plan t p = true) (hsl : t.schools.length ≤ 9223372036854775807) : Ret Try.prog 80 [.agg (cW t p)] (.int .i64 (match M.first p.length (M.untaught t p) with | some i => (i : Int) | none => -1)) := by
  refine Ret.of_fits fun hfits => ?_
  simp only [V.fits, V.fitsL, V.fitsR, cW_fits] at hfits
  apply Ret_fin (fn := Try.f80) Try.func80 rfl
  apply T_seq
  apply T_r F
  · (simp only [go_sem, Try.ntmps80, cW_eq]) <;> exact rfl
  apply K_seq
  apply T_seq
  apply T_wL F [0, 1, 2, 3] rfl
  apply W_pre [0, 1] [2, 3]
  · (simp only [go_sem, Try.ntmps80, cW_eq]) <;> exact rfl
  apply W_callS -- call 0
  · (simp only [go_sem, Try.ntmps80, cW_eq]) <;> exact rfl
  · (simp only [go_sem, Try.ntmps80, cW_eq]) <;> exact rfl
  · exact rfl
  · (simp only [go_sem, Try.ntmps80, cW_eq]) <;> exact rfl
  · (simp only [go_sem, Try.ntmps80, cW_eq]) <;> exact rfl
  · exact ⟨_, Try.func90, rfl, rfl⟩
  · exact mv_houses t p [.box 69 (cW t p)] 94 [] [.ptr 0 0] (M.untaught t p) (closed_W t p) hfits.1.2 ⟨_, Try.func94, rfl, rfl⟩ (fun k hk => by
    have hpl := (M.plan_iff.1 hp).1
    have := mv_school1 t p [.box 69 (cW t p), .box 69 (cW t p)] 0 (closed_WW t p) rfl ok hsl k (by omega) (M.at' p k) ((M.plan_iff.1 hp).2 k hk)
    rw [M.at_get hk] at this
    rw [M.untaught, M.hs_get (by omega), M.at_get hk]
    exact this)
  apply W_run
  · (simp only [go_sem, Try.ntmps80, cW_eq]) <;> exact rfl
  apply W_nil
  apply K_seq
  apply T_ret
  apply fin_ret
  · (simp only [go_sem, Try.ntmps80, cW_eq, Try.f80]) <;> exact rfl
  -- leaf 0 (ret)
  simp only [go_sem, Try.ntmps80, cW_eq, V.bool.injEq, V.int.injEq, true_and]
  rfl

theorem sl_indexFuncP (l : List (Int × Int)) (h : List AObj) (g : FuncId) (ca cb : List V) (bb : Nat → Bool) (hc : Closed h) (hg : ∃ fn, Try.prog.funcs[g]? = some fn ∧ fn.body.isSome = true ∧ (fn.name == "runtime.NumGoroutine") = false) (hl : l.length ≤ 9223372036854775807)
  (hcall : ∀ (k : Nat) (hk : k < l.length), RetS Try.prog g (ca ++ [.agg [.int .i64 l[k].1, .int .i64 l[k].2]] ++ cb) h (.bool (bb k)) h) : RetS Try.prog 88 [.sl 2 (rP l), .fn g ca cb] h (.int .i64 (match M.first l.length bb with | some i => (i : Int) | none => -1)) h := by
  apply RetS_fin (fn := Try.f88) Try.func88 rfl (by cases M.first l.length bb <;> simp [V.all]) hc
  apply T_seq
  apply T_r F
  · (simp only [go_sem, Try.ntmps88]) <;> exact rfl
  apply K_seq
  apply T_seq
  apply T_seq
  apply T_r F
  · (simp only [go_sem, Try.ntmps88]) <;> exact rfl
  apply K_seq
  apply T_block
  apply T_lp (α := Nat) [true, true, false, false, false, false, false, true, true, false, false, false, false, false, false, false, false, false, false] (fun k => (⟨[.sl 2 (rP l), .fn g ca cb, .undef, .undef, .undef, .undef, .undef, .int .i64 (l.length : Int), .int .i64 (k : Int), .undef, .undef, .undef, .undef, .undef, .undef, .undef, .undef, .undef, .undef], h⟩ : St)) (fun k => k ≤ l.length ∧ ∀ j, j < k → bb j = false) (fun k => l.length - k) (0)
  · (simp only [go_sem, Try.ntmps88]) <;> exact rfl
  · simp
  · rintro k ⟨hk, hj⟩
    apply T_seq
    apply T_r F
    · (simp only [go_sem, Try.ntmps88]) <;> exact rfl
    apply K_seq
    apply T_seq
    apply T_if
    · (simp only [go_sem, Try.ntmps88]) <;> exact rfl
    · intro bh0t
      have h0t := bh0t
      try simp only [CS] at h0t
      try simp only [BS] at bh0t
      try exact absurd bh0t (by decide)
      all_goals (
  have hb : k < 9223372036854775807 := by omega
  apply T_skip
  apply K_seq
  apply T_seq
  apply T_block
  apply T_seq
  apply T_r F
  · (simp only [go_sem, Try.ntmps88, bh0t, h0t, rP_get h0t, hb]) <;> exact rfl
  apply K_seq
  apply T_seq
  apply T_wL F [0, 1, 2, 3, 4, 5] rfl
  apply W_pre [0, 1, 2, 3, 4] [5]
  · (simp only [go_sem, Try.ntmps88, bh0t, h0t, rP_get h0t, hb]) <;> exact rfl
  apply W_callS -- call 0
  · (simp only [go_sem, Try.ntmps88, bh0t, h0t, rP_get h0t, hb]) <;> exact rfl
  · (simp only [go_sem, Try.ntmps88, bh0t, h0t, rP_get h0t, hb]) <;> exact rfl
  · exact rfl
  · (simp only [go_sem, Try.ntmps88, bh0t, h0t, rP_get h0t, hb]) <;> exact rfl
  · (simp only [go_sem, Try.ntmps88, bh0t, h0t, rP_get h0t, hb]) <;> exact rfl
  · exact hg
  · exact hcall k h0t
  apply W_run
  · (simp only [go_sem, Try.ntmps88, bh0t, h0t, rP_get h0t, hb]) <;> exact rfl
  apply W_nil
  apply K_seq
  apply T_if
  · (simp only [go_sem, Try.ntmps88, bh0t, h0t, rP_get h0t, hb]) <;> exact rfl
  · intro bh1t
    have h1t := bh1t
    try simp only [CS] at h1t
    try simp only [BS] at bh1t
    try exact absurd bh1t (by decide)
    all_goals (
  apply T_seq
  apply T_r F
  · (simp only [go_sem, Try.ntmps88, bh0t, h0t, rP_get h0t, hb, bh1t]) <;> exact rfl
  apply K_seq
  apply T_ret
  apply K_blkR
  apply K_seqR
  apply K_lpR
  apply K_blkR
  apply K_seqR
  apply finS_ret
  · (simp only [go_sem, Try.ntmps88, bh0t, h0t, rP_get h0t, hb, bh1t, Try.f88]) <;> exact rfl
  · simp
  · simp
  -- leaf 0 (ret)
  simp only [go_sem, Try.ntmps88, bh0t, h0t, rP_get h0t, hb, bh1t, V.bool.injEq, V.int.injEq, true_and]
  first | rw [M.first_some h0t bh1t hj] | rw [M.first_none (fun j hj1 => hj j (by omega))])
  · intro bh1f
    have h1f := bh1f
    try simp only [CS] at h1f
    try simp only [BS] at bh1f
    try exact absurd bh1f (by decide)
    all_goals (
  apply T_skip
  apply K_blk
  apply K_seq
  apply T_r F
  · (simp only [go_sem, Try.ntmps88, bh0t, h0t, rP_get h0t, hb, bh1f]) <;> exact rfl
  refine K_lp (k + 1) ?_ ?_
  · (simp only [go_sem, Try.ntmps88, bh0t, h0t, rP_get h0t, hb, bh1f]) <;> exact rfl
  -- leaf 1 (loop0)
  grind))
    · intro bh0f
      have h0f := bh0f
      try simp only [CS] at h0f
      try simp only [BS] at bh0f
      try exact absurd bh0f (by decide)
      all_goals (
  apply T_exit
  apply K_seqE
  apply K_lpE
  apply K_blkE
  apply K_seq
  apply T_seq
  apply T_r F
  · (simp only [go_sem, Try.ntmps88, bh0f]) <;> exact rfl
  apply K_seq
  apply T_ret
  apply finS_ret
  · (simp only [go_sem, Try.ntmps88, bh0f, Try.f88]) <;> exact rfl
  · simp
  · simp
  -- leaf 2 (ret)
  simp only [go_sem, Try.ntmps88, bh0f, V.bool.injEq, V.int.injEq, true_and]
  first | rw [M.first_some h0t bh1t hj] | rw [M.first_none (fun j hj1 => hj j (by omega))])

theorem sl_containsFuncP (l : List (Int × Int)) (h : List AObj) (g : FuncId) (ca cb : List V) (bb : Nat → Bool) (hc : Closed h) (hg : ∃ fn, Try.prog.funcs[g]? = some fn ∧ fn.body.isSome = true ∧ (fn.name == "runtime.NumGoroutine") = false) (hl : l.length ≤ 9223372036854775807)
  (hcall : ∀ (k : Nat) (hk : k < l.length), RetS Try.prog g (ca ++ [.agg [.int .i64 l[k].1, .int .i64 l[k].2]] ++ cb) h (.bool (bb k)) h) : RetS Try.prog 73 [.sl 2 (rP l), .fn g ca cb] h (.bool (M.first l.length bb).isSome) h := by
  apply RetS_fin (fn := Try.f73) Try.func73 rfl (by simp [V.all]) hc
  apply T_seq
  apply T_r F
  · (simp only [go_sem, Try.ntmps73]) <;> exact rfl
  apply K_seq
  apply T_seq
  apply T_wL F [0, 1, 2, 3, 4] rfl
  apply W_pre [0, 1] [2, 3, 4]
  · (simp only [go_sem, Try.ntmps73]) <;> exact rfl
  apply W_callS -- call 0
  · (simp only [go_sem, Try.ntmps73]) <;> exact rfl
  · (simp only [go_sem, Try.ntmps73]) <;> exact rfl
  · exact rfl
  · (simp only [go_sem, Try.ntmps73]) <;> exact rfl
  · (simp only [go_sem, Try.ntmps73]) <;> exact rfl
  · exact ⟨_, Try.func88, rfl, rfl⟩
  · exact sl_indexFuncP l h g ca cb bb hc hg hl hcall
  apply W_run
  · (simp only [go_sem, Try.ntmps73]) <;> exact rfl
  apply W_nil
  apply K_seq
  apply T_ret
  apply finS_ret
  · (simp only [go_sem, Try.ntmps73, Try.f73]) <;> exact rfl
  · simp
  · simp
  -- leaf 0 (ret)
  simp only [go_sem, Try.ntmps73, V.bool.injEq, V.int.injEq, true_and]
  cases M.first l.length bb <;> simp

theorem mv_apart1 (t : Town) (p : List Int) (h : List AObj) (i : Nat) (hc : Closed h) (hi : h[i]? = some (.box 69 (cW t p))) (a b : Int) (h1 : 0 ≤ a) (h2 : a.toNat < p.length) (h3 : 0 ≤ b) (h4 : b.toNat < p.length) (h5 : 0 ≤ p[a.toNat]) (h6 : p[a.toNat].toNat < t.walk.length) (h7 : 0 ≤ p[b.toNat]) (h8 : p[b.toNat].toNat < (t.walk[p[a.toNat].toNat]).length) : RetS Try.prog 97 [.agg [.int .i64 a, .int .i64 b], .ptr i 0] h (.bool (!M.near t p[a.toNat] p[b.toNat])) h := by
  have hi1 : (h ++ [.box 43 [.int .i64 a, .int .i64 b]])[i]? = some (.box 69 (cW t p)) := by rw [List.getElem?_append_left (List.getElem?_eq_some_iff.1 hi).1]; exact hi
  have hib := heap_new h [] (.box 43 [.int .i64 a, .int .i64 b])
  have hib2 := heap_take h [.box 43 [.int .i64 a, .int .i64 b]]
  apply RetS_fin (fn := Try.f97) Try.func97 rfl (by simp [V.all]) hc
  apply T_seq
  apply T_r F
  · (simp only [go_sem, Try.ntmps97, cW_eq, hi, hi1, hib, hib2, h1, h2, h3, h4, rI_get h2, rI_get h4]) <;> exact rfl
  apply K_seq
  apply T_seq
  apply T_qL F [0, 1, 2, 3, 4, 5, 6, 7, 8, 9, 10, 11, 12, 13, 14, 15] rfl (by kernel_rfl)
  apply Q_pre [0, 1, 2, 3] [4, 5, 6, 7, 8, 9, 10, 11, 12, 13, 14, 15]
  · (simp only [go_sem, Try.ntmps97, cW_eq, hi, hi1, hib, hib2, h1, h2, h3, h4, rI_get h2, rI_get h4]) <;> exact rfl
  apply Q_pre [4, 5, 6, 7] [8, 9, 10, 11, 12, 13, 14, 15]
  · (simp only [go_sem, Try.ntmps97, cW_eq, hi, hi1, hib, hib2, h1, h2, h3, h4, rI_get h2, rI_get h4]) <;> exact rfl
  apply Q_pre [8, 9, 10, 11, 12] [13, 14, 15]
  · (simp only [go_sem, Try.ntmps97, cW_eq, hi, hi1, hib, hib2, h1, h2, h3, h4, rI_get h2, rI_get h4]) <;> exact rfl
  apply Q_call -- call 0 of function 96
  · (simp only [go_sem, Try.ntmps97, cW_eq, hi, hi1, hib, hib2, h1, h2, h3, h4, rI_get h2, rI_get h4]) <;> exact rfl
  · (simp only [go_sem, Try.ntmps97, cW_eq, hi, hi1, hib, hib2, h1, h2, h3, h4, rI_get h2, rI_get h4]) <;> exact rfl
  · exact rfl
  · (simp only [go_sem, Try.ntmps97, cW_eq, hi, hi1, hib, hib2, h1, h2, h3, h4, rI_get h2, rI_get h4]) <;> exact rfl
  · (simp only [go_sem, Try.ntmps97, cW_eq, hi, hi1, hib, hib2, h1, h2, h3, h4, rI_get h2, rI_get h4]) <;> exact rfl
  · exact ⟨_, Try.func96, rfl, rfl⟩
  · (simp only [go_sem, Try.ntmps97, cW_eq, hi, hi1, hib, hib2, h1, h2, h3, h4, rI_get h2, rI_get h4]) <;> exact rfl
  · exact mv_near _ _ _ _ (by assumption) (by assumption) (by assumption) (by assumption)
  apply Q_run
  · (simp only [go_sem, Try.ntmps97, cW_eq, hi, hi1, hib, hib2, h1, h2, h3, h4, rI_get h2, rI_get h4]) <;> exact rfl
  apply Q_nil
  apply K_seq
  apply T_ret
  apply finS_ret
  · (simp only [go_sem, Try.ntmps97, cW_eq, hi, hi1, hib, hib2, h1, h2, h3, h4, rI_get h2, rI_get h4, Try.f97]) <;> exact rfl
  · simp
  · simp
  -- leaf 0 (ret)
  simp only [go_sem, Try.ntmps97, cW_eq, hi, hi1, hib, hib2, h1, h2, h3, h4, rI_get h2, rI_get h4, V.bool.injEq, V.int.injEq, true_and]
  all_goals rfl

theorem mv_apart (t : Town) (p : List Int) (ok : M.Ok t) (hp : M.plan t p = true) (hkl : t.kin.length ≤ 9223372036854775807) : Ret Try.prog 81 [.agg (cW t p)] (.int .i64 (match M.first t.kin.length (M.apart t p) with | some i => (i : Int) | none => -1)) := by
  apply Ret_fin (fn := Try.f81) Try.func81 rfl
  apply T_seq
  apply T_r F
  · (simp only [go_sem, Try.ntmps81, cW_eq]) <;> exact rfl
  apply K_seq
  apply T_seq
  apply T_wL F [0, 1, 2, 3, 4, 5] rfl
  apply W_pre [0, 1, 2, 3] [4, 5]
  · (simp only [go_sem, Try.ntmps81, cW_eq]) <;> exact rfl
  apply W_callS -- call 0
  · (simp only [go_sem, Try.ntmps81, cW_eq]) <;> exact rfl
  · (simp only [go_sem, Try.ntmps81, cW_eq]) <;> exact rfl
  · exact rfl
  · (simp only [go_sem, Try.ntmps81, cW_eq]) <;> exact rfl
  · (simp only [go_sem, Try.ntmps81, cW_eq]) <;> exact rfl
  · exact ⟨_, Try.func88, rfl, rfl⟩
  · exact sl_indexFuncP t.kin [.box 69 (cW t p)] 97 [] [.ptr 0 0] (M.apart t p) (closed_W t p) ⟨_, Try.func97, rfl, rfl⟩ hkl (fun k hk => by
    obtain ⟨k1, k2, _⟩ := ok.kins k hk
    rw [M.kn_get hk] at k1 k2
    have k3 := M.house_iff.1 k1
    have k4 := M.house_iff.1 k2
    obtain ⟨p1, p2⟩ := M.plan_iff.1 hp
    have a1 := p2 t.kin[k].1.toNat (by omega)
    have a2 := p2 t.kin[k].2.toNat (by omega)
    rw [M.at_get (by omega)] at a1 a2
    have a3 := M.lot_iff.1 a1
    have a4 := M.lot_iff.1 a2
    have := mv_apart1 t p [.box 69 (cW t p)] 0 (closed_W t p) rfl t.kin[k].1 t.kin[k].2 k3.1 (by omega) k4.1 (by omega) a3.1 (by omega) a4.1 (by rw [ok.square]; omega)
    rw [M.apart, M.kn_get hk, M.at_get (by omega), M.at_get (by omega)]
    exact this)
  apply W_run
  · (simp only [go_sem, Try.ntmps81, cW_eq]) <;> exact rfl
  apply W_nil
  apply K_seq
  apply T_ret
  apply fin_ret
  · (simp only [go_sem, Try.ntmps81, cW_eq, Try.f81]) <;> exact rfl
  -- leaf 0 (ret)
  simp only [go_sem, Try.ntmps81, cW_eq, V.bool.injEq, V.int.injEq, true_and]
  all_goals rfl

end Go.Ab
namespace Go.Ab
open Go Go.RowKit Go.Proofs Fac
set_option linter.unusedVariables false
set_option linter.unusedSimpArgs false
set_option maxRecDepth 4000
set_option maxHeartbeats 1000000


def M.o2i : Option Nat → Int
  | some i => i
  | none => -1
def M.rule (t : Town) (p : List Int) : Nat → Int
  | 0 => M.o2i (M.first p.length (M.shared p))
  | 1 => M.o2i (M.first p.length fun i => M.gone t (M.at' p i))
  | 2 => M.o2i (M.first p.length (M.unwished t p))
  | 3 => M.o2i (M.first p.length (M.untaught t p))
  | _ => M.o2i (M.first t.kin.length (M.apart t p))
theorem M.o2i_neg {o : Option Nat} (h : M.o2i o < 0) : o = none := by
  cases o with
  | none => rfl
  | some i => simp only [M.o2i] at h; omega
theorem M.o2i_some {o : Option Nat} (h : 0 ≤ M.o2i o) : ∃ i : Nat, o = some i ∧ M.o2i o = i := by
  cases o with
  | none => simp [M.o2i] at h
  | some i => exact ⟨i, rfl, rfl⟩
theorem M.fault_rule (t : Town) (p : List Int) {k : Nat} (hk : k < 5) (hb : ∀ j, j < k → M.rule t p j < 0) (h : 0 ≤ M.rule t p k) : M.fault t p = (2 + (k : Int), M.rule t p k) := by
  unfold M.fault
  rcases k with _ | _ | _ | _ | _ | k
  · obtain ⟨i, h1, h2⟩ := M.o2i_some h
    rw [h1]; simp only [M.rule, h2]; rfl
  · have b0 := M.o2i_neg (hb 0 (by omega))
    obtain ⟨i, h1, h2⟩ := M.o2i_some h
    rw [b0, h1]; simp only [M.rule, h2]; rfl
  · have b0 := M.o2i_neg (hb 0 (by omega))
    have b1 := M.o2i_neg (hb 1 (by omega))
    obtain ⟨i, h1, h2⟩ := M.o2i_some h
    rw [b0, b1, h1]; simp only [M.rule, h2]; rfl
  · have b0 := M.o2i_neg (hb 0 (by omega))
    have b1 := M.o2i_neg (hb 1 (by omega))
    have b2 := M.o2i_neg (hb 2 (by omega))
    obtain ⟨i, h1, h2⟩ := M.o2i_some h
    rw [b0, b1, b2, h1]; simp only [M.rule, h2]; rfl
  · have b0 := M.o2i_neg (hb 0 (by omega))
    have b1 := M.o2i_neg (hb 1 (by omega))
    have b2 := M.o2i_neg (hb 2 (by omega))
    have b3 := M.o2i_neg (hb 3 (by omega))
    obtain ⟨i, h1, h2⟩ := M.o2i_some h
    rw [b0, b1, b2, b3, h1]; simp only [M.rule, h2]; rfl
  · omega
theorem M.fault_none (t : Town) (p : List Int) (hb : ∀ j, j < 5 → M.rule t p j < 0) : M.fault t p = (1, 0) := by
  unfold M.fault
  have b0 := M.o2i_neg (hb 0 (by omega))
  have b1 := M.o2i_neg (hb 1 (by omega))
  have b2 := M.o2i_neg (hb 2 (by omega))
  have b3 := M.o2i_neg (hb 3 (by omega))
  have b4 := M.o2i_neg (hb 4 (by omega))
  rw [b0, b1, b2, b3, b4]
theorem M.rule_call {t : Town} {p : List Int} (ok : M.Ok t) (hp : M.plan t p = true) (hsl : t.schools.length ≤ 9223372036854775807) (hkl : t.kin.length ≤ 9223372036854775807) {k : Nat} (hk : k < 5) : Ret Try.prog (77 + k) [.agg (cW t p)] (.int .i64 (M.rule t p k)) := by
  rcases k with _ | _ | _ | _ | _ | k
  · exact mv_shared t p
  · exact mv_gone t p ok hp
  · exact mv_unwished t p ok hp
  · exact mv_school t p ok hp hsl
  · exact mv_apart t p ok hp hkl
  · omega
theorem M.rule_fn {k : Nat} (hk : k < 5) : ∃ fn, Try.prog.funcs[77 + k]? = some fn ∧ fn.body.isSome = true ∧ (fn.name == "runtime.NumGoroutine") = false := by
  rcases k with _ | _ | _ | _ | _ | k
  · exact ⟨_, Try.func77, rfl, rfl⟩
  · exact ⟨_, Try.func78, rfl, rfl⟩
  · exact ⟨_, Try.func79, rfl, rfl⟩
  · exact ⟨_, Try.func80, rfl, rfl⟩
  · exact ⟨_, Try.func81, rfl, rfl⟩
  · omega
theorem M.plan_first {t : Town} {p : List Int} (h : p.length = t.houses.length) : (!(M.first p.length fun k => !M.lot t (M.at' p k)).isSome) = M.plan t p := by
  rw [Bool.eq_iff_iff, M.plan_iff]
  simp only [M.first, Bool.not_eq_true', Option.isSome_eq_false_iff, Option.isNone_iff_eq_none, List.find?_eq_none, List.mem_range, Bool.not_eq_false, Bool.not_not, h, true_and]
theorem M.plan_no {t : Town} {p : List Int} (h : ¬ p.length = t.houses.length) : M.plan t p = false := by
  rw [Bool.eq_false_iff]
  intro hp
  exact h (M.plan_iff.1 hp).1
def M.sorted (l : List Int) : Bool := decide (∀ j, j < l.length → 0 < j → M.at' l (j - 1) ≤ M.at' l j)
theorem M.sorted_false {l : List Int} {i : Int} (h1 : i.toNat < l.length) (h2 : (i - 1).toNat < l.length) (h3 : 0 < i) (h : l[i.toNat] < l[(i - 1).toNat]) : M.sorted l = false := by
  rw [M.sorted, decide_eq_false_iff_not]
  intro hs
  have := hs i.toNat h1 (by omega)
  have e : i.toNat - 1 = (i - 1).toNat := by omega
  rw [e, M.at_get h1, M.at_get h2] at this
  omega
theorem M.sorted_true {l : List Int} (h : ∀ j, 0 < j → j < l.length → M.at' l (j - 1) ≤ M.at' l j) : M.sorted l = true := by
  rw [M.sorted, decide_eq_true_eq]
  exact fun j h1 h2 => h j h2 h1
theorem M.sorted_step {l : List Int} {i : Int} (h1 : i.toNat < l.length) (h2 : (i - 1).toNat < l.length) (h3 : 0 < i) (h : ¬ l[i.toNat] < l[(i - 1).toNat]) (hj : (-1 ≤ i ∧ i < l.length) ∧ ∀ j : Nat, i < j → j < l.length → M.at' l (j - 1) ≤ M.at' l j) : (-1 ≤ i - 1 ∧ i - 1 < l.length) ∧ ∀ j : Nat, i - 1 < j → j < l.length → M.at' l (j - 1) ≤ M.at' l j := by
  refine ⟨⟨by omega, by omega⟩, fun j k1 k2 => ?_⟩
  by_cases hji : i < j
  · exact hj.2 j hji k2
  · have e1 : j = i.toNat := by omega
    have e : i.toNat - 1 = (i - 1).toNat := by omega
    subst e1
    rw [e, M.at_get h1, M.at_get h2]
    omega
def rules (w : V) : List V := [.fn 77 [w] [], .fn 78 [w] [], .fn 79 [w] [], .fn 80 [w] [], .fn 81 [w] []]
theorem rules_get (w : V) {k : Nat} (hk : k < 5) : indexOfV Try.prog 105 (.agg (rules w)) (.int .i64 (k : Int)) = some (.fn (77 + k) [w] []) := by
  rcases k with _ | _ | _ | _ | _ | k
  · rfl
  · rfl
  · rfl
  · rfl
  · rfl
  · omega

theorem mv_fault (t : Town) (p : List Int) (ok : M.Ok t) (hp : M.plan t p = true) (hsl : t.schools.length ≤ 9223372036854775807) (hkl : t.kin.length ≤ 9223372036854775807) : Ret Try.prog 48 [.agg (cW t p)] (.agg [.int .i64 (M.fault t p).1, .int .i64 (M.fault t p).2]) := by
  apply Ret_fin (fn := Try.f48) Try.func48 rfl
  apply T_seq
  apply T_r F
  · (simp only [go_sem, Try.ntmps48, cW_eq]) <;> exact rfl
  apply K_seq
  apply T_seq
  apply T_seq
  apply T_wL F [0, 1, 2, 3, 4, 5, 6, 7, 8, 9, 10, 11] rfl
  apply W_pre [0, 1, 2, 3] [4, 5, 6, 7, 8, 9, 10, 11]
  · (simp only [go_sem, Try.ntmps48, cW_eq]) <;> exact rfl
  apply W_pre [4, 5, 6, 7] [8, 9, 10, 11]
  · (simp only [go_sem, Try.ntmps48, cW_eq]) <;> exact rfl
  apply W_run
  · (simp only [go_sem, Try.ntmps48, cW_eq]) <;> exact rfl
  apply W_nil
  apply K_seq
  apply T_block
  apply T_lp (α := Nat) [false, false, true, false, false, false, false, false, false, false, false, false, false, false, false, false, true, true, false, false, false, false, false, false, false, false, false, false, false, false, false] (fun k => (⟨[.undef, .undef, .ptr 1 0, .undef, .undef, .undef, .undef, .undef, .undef, .undef, .undef, .undef, .undef, .undef, .undef, .undef, .agg [.fn 77 [.agg (cW t p)] [], .fn 78 [.agg (cW t p)] [], .fn 79 [.agg (cW t p)] [], .fn 80 [.agg (cW t p)] [], .fn 81 [.agg (cW t p)] []], .int .i64 (k : Int), .undef, .undef, .undef, .undef, .undef, .undef, .undef, .undef, .undef, .undef, .undef, .undef, .undef], [.box 69 (cW t p), .box 35 [.int .i64 0, .int .i64 0]]⟩ : St)) (fun k => k ≤ 5 ∧ ∀ j, j < k → M.rule t p j < 0) (fun k => 5 - k) (0)
  · (simp only [go_sem, Try.ntmps48, cW_eq]) <;> exact rfl
  · simp
  · rintro k ⟨hk, hj⟩
    apply T_seq
    apply T_r F
    · (simp only [go_sem, Try.ntmps48, cW_eq]) <;> exact rfl
    apply K_seq
    apply T_seq
    apply T_if
    · (simp only [go_sem, Try.ntmps48, cW_eq]) <;> exact rfl
    · intro bh0t
      have h0t := bh0t
      try simp only [CS] at h0t
      try simp only [BS] at bh0t
      try exact absurd bh0t (by decide)
      all_goals (
  have hk5 : k < 5 := by omega
  have hb : k < 9223372036854775807 := by omega
  have hget := rules_get (.agg (cW t p)) hk5
  simp only [rules, cW_eq] at hget
  apply T_skip
  apply K_seq
  apply T_seq
  apply T_block
  apply T_seq
  apply T_r F
  · (simp only [go_sem, Try.ntmps48, cW_eq, bh0t, h0t, hb, hget]) <;> exact rfl
  apply K_seq
  apply T_seq
  apply T_wL F [0, 1, 2] rfl
  apply W_pre [0] [1, 2]
  · (simp only [go_sem, Try.ntmps48, cW_eq, bh0t, h0t, hb, hget]) <;> exact rfl
  apply W_callS -- call 0
  · (simp only [go_sem, Try.ntmps48, cW_eq, bh0t, h0t, hb, hget]) <;> exact rfl
  · (simp only [go_sem, Try.ntmps48, cW_eq, bh0t, h0t, hb, hget]) <;> exact rfl
  · exact rfl
  · (simp only [go_sem, Try.ntmps48, cW_eq, bh0t, h0t, hb, hget]) <;> exact rfl
  · (simp only [go_sem, Try.ntmps48, cW_eq, bh0t, h0t, hb, hget]) <;> exact rfl
  · exact M.rule_fn hk5
  · exact (M.rule_call ok hp hsl hkl hk5).shared (by (simp only [go_sem, cW_eq]) <;> exact rfl) (by (simp only [go_sem, cW_eq, reduceIte, Nat.reduceLeDiff]) <;> exact rfl)
  apply W_run
  · (simp only [go_sem, Try.ntmps48, cW_eq, bh0t, h0t, hb, hget]) <;> exact rfl
  apply W_nil
  apply K_seq
  apply T_seq
  apply T_r F
  · (simp only [go_sem, Try.ntmps48, cW_eq, bh0t, h0t, hb, hget]) <;> exact rfl
  apply K_seq
  apply T_if
  · (simp only [go_sem, Try.ntmps48, cW_eq, bh0t, h0t, hb, hget]) <;> exact rfl
  · intro bh1t
    have h1t := bh1t
    try simp only [CS] at h1t
    try simp only [BS] at bh1t
    try exact absurd bh1t (by decide)
    all_goals (
  apply T_seq
  apply T_r F
  · (simp only [go_sem, Try.ntmps48, cW_eq, bh0t, h0t, hb, hget, bh1t]) <;> exact rfl
  apply K_seq
  apply T_ret
  apply K_blkR
  apply K_seqR
  apply K_lpR
  apply K_blkR
  apply K_seqR
  apply fin_ret
  · (simp only [go_sem, Try.ntmps48, cW_eq, bh0t, h0t, hb, hget, bh1t, Try.f48]) <;> exact rfl
  -- leaf 0 (ret)
  simp only [go_sem, Try.ntmps48, cW_eq, bh0t, h0t, hb, hget, bh1t, V.bool.injEq, V.int.injEq, true_and]
  first | rw [M.fault_rule t p hk5 hj h1t, wrap_id (by omega) (by omega)] | rw [M.fault_none t p (fun j hj5 => hj j (by omega))])
  · intro bh1f
    have h1f := bh1f
    try simp only [CS] at h1f
    try simp only [BS] at bh1f
    try exact absurd bh1f (by decide)
    all_goals (
  apply T_skip
  apply K_blk
  apply K_seq
  apply T_r F
  · (simp only [go_sem, Try.ntmps48, cW_eq, bh0t, h0t, hb, hget, bh1f]) <;> exact rfl
  refine K_lp (k + 1) ?_ ?_
  · (simp only [go_sem, Try.ntmps48, cW_eq, bh0t, h0t, hb, hget, bh1f]) <;> exact rfl
  -- leaf 1 (loop0)
  grind))
    · intro bh0f
      have h0f := bh0f
      try simp only [CS] at h0f
      try simp only [BS] at bh0f
      try exact absurd bh0f (by decide)
      all_goals (
  apply T_exit
  apply K_seqE
  apply K_lpE
  apply K_blkE
  apply K_seq
  apply T_seq
  apply T_r F
  · (simp only [go_sem, Try.ntmps48, cW_eq, bh0f]) <;> exact rfl
  apply K_seq
  apply T_ret
  apply fin_ret
  · (simp only [go_sem, Try.ntmps48, cW_eq, bh0f, Try.f48]) <;> exact rfl
  -- leaf 2 (ret)
  simp only [go_sem, Try.ntmps48, cW_eq, bh0f, V.bool.injEq, V.int.injEq, true_and]
  first | rw [M.fault_rule t p hk5 hj h1t, wrap_id (by omega) (by omega)] | rw [M.fault_none t p (fun j hj5 => hj j (by omega))])

theorem mv_planned1 (t : Town) (p : List Int) (h : List AObj) (i : Nat) (hc : Closed h) (hi : h[i]? = some (.box 69 (cW t p))) (hw : t.walk.length ≤ 9223372036854775807) (n : Int) : RetS Try.prog 76 [.int .i64 n, .ptr i 0] h (.bool (!M.lot t n)) h := by
  have hwr : IntKind.i64.wrap ((t.walk.length : Int) - 1) = (t.walk.length : Int) - 1 := wrap_id (by omega) (by omega)
  apply RetS_fin (fn := Try.f76) Try.func76 rfl (by simp [V.all]) hc
  apply T_seq
  apply T_r F
  · (simp only [go_sem, Try.ntmps76, cW_eq, hi, hwr]) <;> exact rfl
  apply K_seq
  apply T_seq
  apply T_wL F [0, 1, 2, 3, 4, 5, 6, 7, 8] rfl
  apply W_pre [0, 1, 2, 3, 4, 5] [6, 7, 8]
  · (simp only [go_sem, Try.ntmps76, cW_eq, hi, hwr]) <;> exact rfl
  apply W_call -- call 0 of function 70
  · (simp only [go_sem, Try.ntmps76, cW_eq, hi, hwr]) <;> exact rfl
  · (simp only [go_sem, Try.ntmps76, cW_eq, hi, hwr]) <;> exact rfl
  · exact rfl
  · (simp only [go_sem, Try.ntmps76, cW_eq, hi, hwr]) <;> exact rfl
  · (simp only [go_sem, Try.ntmps76, cW_eq, hi, hwr]) <;> exact rfl
  · exact ⟨_, Try.func70, rfl, rfl⟩
  · (simp only [go_sem, Try.ntmps76, cW_eq, hi, hwr]) <;> exact rfl
  · (simp only [go_sem, Try.ntmps76, cW_eq, hi, hwr]) <;> exact rfl
  · exact mv_in _ _ _
  apply W_run
  · (simp only [go_sem, Try.ntmps76, cW_eq, hi, hwr]) <;> exact rfl
  apply W_nil
  apply K_seq
  apply T_ret
  apply finS_ret
  · (simp only [go_sem, Try.ntmps76, cW_eq, hi, hwr, Try.f76]) <;> exact rfl
  · simp
  · simp
  -- leaf 0 (ret)
  simp only [go_sem, Try.ntmps76, cW_eq, hi, hwr, V.bool.injEq, V.int.injEq, true_and]
  simp [M.lot]

theorem mv_planned (t : Town) (p : List Int) : Ret Try.prog 47 [.agg (cW t p)] (.bool (M.plan t p)) := by
  refine Ret.of_fits fun hfits => ?_
  simp only [V.fits, V.fitsL, V.fitsR, cW_fits] at hfits
  have hwl := hfits.1.1.walk
  apply Ret_fin (fn := Try.f47) Try.func47 rfl
  apply T_seq
  apply T_r F
  · (simp only [go_sem, Try.ntmps47, cW_eq]) <;> exact rfl
  apply K_seq
  apply T_seq
  apply T_wL F [0, 1, 2, 3, 4, 5, 6, 7, 8, 9, 10, 11, 12, 13, 14, 15] rfl
  apply W_pre [0, 1, 2, 3] [4, 5, 6, 7, 8, 9, 10, 11, 12, 13, 14, 15]
  · (simp only [go_sem, Try.ntmps47, cW_eq]) <;> exact rfl
  apply W_pre [4, 5, 6, 7, 8] [9, 10, 11, 12, 13, 14, 15]
  · (simp only [go_sem, Try.ntmps47, cW_eq]) <;> exact rfl
  apply W_guard
  · (simp only [go_sem, Try.ntmps47, cW_eq]) <;> exact rfl
  · (simp only [go_sem, Try.ntmps47, cW_eq]) <;> exact rfl
  · intro bg0t
    have g0t := bg0t
    try simp only [CS] at g0t
    try simp only [BS] at bg0t
    try exact absurd bg0t (by decide)
    all_goals (
  apply W_pre [9, 10, 11] [12, 13, 14, 15]
  · (simp only [go_sem, Try.ntmps47, cW_eq, bg0t]) <;> exact rfl
  apply W_callS -- call 0
  · (simp only [go_sem, Try.ntmps47, cW_eq, bg0t]) <;> exact rfl
  · (simp only [go_sem, Try.ntmps47, cW_eq, bg0t]) <;> exact rfl
  · exact rfl
  · (simp only [go_sem, Try.ntmps47, cW_eq, bg0t]) <;> exact rfl
  · (simp only [go_sem, Try.ntmps47, cW_eq, bg0t]) <;> exact rfl
  · exact ⟨_, Try.func75, rfl, rfl⟩
  · exact sl_containsFunc p [.box 69 (cW t p)] 76 [] [.ptr 0 0] (fun k => !M.lot t (M.at' p k)) (closed_W t p) ⟨_, Try.func76, rfl, rfl⟩ hfits.1.2 (fun k hk => by
    have := mv_planned1 t p [.box 69 (cW t p)] 0 (closed_W t p) rfl hwl p[k]
    rw [M.at_get hk]
    exact this)
  apply W_run
  · (simp only [go_sem, Try.ntmps47, cW_eq, bg0t]) <;> exact rfl
  apply W_nil
  apply K_seq
  apply T_ret
  apply fin_ret
  · (simp only [go_sem, Try.ntmps47, cW_eq, bg0t, Try.f47]) <;> exact rfl
  -- leaf 0 (ret)
  simp only [go_sem, Try.ntmps47, cW_eq, bg0t, V.bool.injEq, V.int.injEq, true_and]
  first | exact M.plan_first g0t | exact (M.plan_no g0f).symm)
  · intro bg0f
    have g0f := bg0f
    try simp only [CS] at g0f
    try simp only [BS] at bg0f
    try exact absurd bg0f (by decide)
    all_goals (
  apply W_pre [9, 10, 11, 12] [13, 14, 15]
  · (simp only [go_sem, Try.ntmps47, cW_eq, bg0f]) <;> exact rfl
  apply W_run
  · (simp only [go_sem, Try.ntmps47, cW_eq, bg0f]) <;> exact rfl
  apply W_nil
  apply K_seq
  apply T_ret
  apply fin_ret
  · (simp only [go_sem, Try.ntmps47, cW_eq, bg0f, Try.f47]) <;> exact rfl
  -- leaf 1 (ret)
  simp only [go_sem, Try.ntmps47, cW_eq, bg0f, V.bool.injEq, V.int.injEq, true_and]
  first | exact M.plan_first g0t | exact (M.plan_no g0f).symm)

theorem sl_isNaN (n : Int) : Ret Try.prog 101 [.int .i64 n] (.bool false) := by
  apply Ret_fin (fn := Try.f101) Try.func101 rfl
  apply T_seq
  apply T_r F
  · (simp only [go_sem, Try.ntmps101]) <;> exact rfl
  apply K_seq
  apply T_seq
  apply T_r F
  · (simp only [go_sem, Try.ntmps101]) <;> exact rfl
  apply K_seq
  apply T_ret
  apply fin_ret
  · (simp only [go_sem, Try.ntmps101, Try.f101]) <;> exact rfl
  -- leaf 0 (ret)
  simp only [go_sem, Try.ntmps101, V.bool.injEq, V.int.injEq, true_and]
  try simp

theorem sl_less (a b : Int) : Ret Try.prog 87 [.int .i64 a, .int .i64 b] (.bool (decide (a < b))) := by
  apply Ret_fin (fn := Try.f87) Try.func87 rfl
  apply T_seq
  apply T_r F
  · (simp only [go_sem, Try.ntmps87]) <;> exact rfl
  apply K_seq
  apply T_seq
  apply T_wL F [0, 1, 2, 3, 4, 5, 6, 7, 8, 9, 10, 11, 12] rfl
  apply W_pre [0] [1, 2, 3, 4, 5, 6, 7, 8, 9, 10, 11, 12]
  · (simp only [go_sem, Try.ntmps87]) <;> exact rfl
  apply W_call -- call 0 of function 101
  · (simp only [go_sem, Try.ntmps87]) <;> exact rfl
  · (simp only [go_sem, Try.ntmps87]) <;> exact rfl
  · exact rfl
  · (simp only [go_sem, Try.ntmps87]) <;> exact rfl
  · (simp only [go_sem, Try.ntmps87]) <;> exact rfl
  · exact ⟨_, Try.func101, rfl, rfl⟩
  · (simp only [go_sem, Try.ntmps87]) <;> exact rfl
  · (simp only [go_sem, Try.ntmps87]) <;> exact rfl
  · exact sl_isNaN _
  apply W_pre [2] [3, 4, 5, 6, 7, 8, 9, 10, 11, 12]
  · (simp only [go_sem, Try.ntmps87]) <;> exact rfl
  apply W_guard
  · (simp only [go_sem, Try.ntmps87]) <;> exact rfl
  · (simp only [go_sem, Try.ntmps87]) <;> exact rfl
  · intro bg0t
    have g0t := bg0t
    try simp only [CS] at g0t
    try simp only [BS] at bg0t
    try exact absurd bg0t (by decide)
    all_goals (
  apply W_pre [3] [4, 5, 6, 7, 8, 9, 10, 11, 12]
  · (simp only [go_sem, Try.ntmps87, bg0t]) <;> exact rfl
  apply W_call -- call 1 of function 101
  · (simp only [go_sem, Try.ntmps87, bg0t]) <;> exact rfl
  · (simp only [go_sem, Try.ntmps87, bg0t]) <;> exact rfl
  · exact rfl
  · (simp only [go_sem, Try.ntmps87, bg0t]) <;> exact rfl
  · (simp only [go_sem, Try.ntmps87, bg0t]) <;> exact rfl
  · exact ⟨_, Try.func101, rfl, rfl⟩
  · (simp only [go_sem, Try.ntmps87, bg0t]) <;> exact rfl
  · (simp only [go_sem, Try.ntmps87, bg0t]) <;> exact rfl
  · exact sl_isNaN _
  apply W_pre [5, 6, 7] [8, 9, 10, 11, 12]
  · (simp only [go_sem, Try.ntmps87, bg0t]) <;> exact rfl
  apply W_guard
  · (simp only [go_sem, Try.ntmps87, bg0t]) <;> exact rfl
  · (simp only [go_sem, Try.ntmps87, bg0t]) <;> exact rfl
  · intro bg1t
    have g1t := bg1t
    try simp only [CS] at g1t
    try simp only [BS] at bg1t
    try exact absurd bg1t (by decide)
    all_goals (
  apply W_run
  · (simp only [go_sem, Try.ntmps87, bg0t, bg1t]) <;> exact rfl
  apply W_nil
  apply K_seq
  apply T_ret
  apply fin_ret
  · (simp only [go_sem, Try.ntmps87, bg0t, bg1t, Try.f87]) <;> exact rfl
  -- leaf 0 (ret)
  simp only [go_sem, Try.ntmps87, bg0t, bg1t, V.bool.injEq, V.int.injEq, true_and]
  all_goals rfl)
  · intro bg1f
    have g1f := bg1f
    try simp only [CS] at g1f
    try simp only [BS] at bg1f
    try exact absurd bg1f (by decide)
    all_goals (
  apply W_run
  · (simp only [go_sem, Try.ntmps87, bg0t, bg1f]) <;> exact rfl
  apply W_nil
  apply K_seq
  apply T_ret
  apply fin_ret
  · (simp only [go_sem, Try.ntmps87, bg0t, bg1f, Try.f87]) <;> exact rfl
  -- leaf 1 (ret)
  simp only [go_sem, Try.ntmps87, bg0t, bg1f, V.bool.injEq, V.int.injEq, true_and]
  all_goals rfl))
  · intro bg0f
    have g0f := bg0f
    try simp only [CS] at g0f
    try simp only [BS] at bg0f
    try exact absurd bg0f (by decide)
    all_goals (
  apply W_pre [3, 4, 5, 6] [7, 8, 9, 10, 11, 12]
  · (simp only [go_sem, Try.ntmps87, bg0f]) <;> exact rfl
  apply W_run
  · (simp only [go_sem, Try.ntmps87, bg0f]) <;> exact rfl
  apply W_nil
  apply K_seq
  apply T_ret
  apply fin_ret
  · (simp only [go_sem, Try.ntmps87, bg0f, Try.f87]) <;> exact rfl
  -- leaf 2 (ret)
  simp only [go_sem, Try.ntmps87, bg0f, V.bool.injEq, V.int.injEq, true_and]
  all_goals rfl)

theorem sl_sorted (l : List Int) : Ret Try.prog 72 [.sl 1 (rI l)] (.bool (M.sorted l)) := by
  refine Ret.of_fits fun hfits => ?_
  simp only [V.fits, V.fitsL, V.fitsR, rI_length] at hfits
  have hl := hfits.1.1
  have hw0 : IntKind.i64.wrap ((l.length : Int) - 1) = (l.length : Int) - 1 := wrap_id (by omega) (by omega)
  apply Ret_fin (fn := Try.f72) Try.func72 rfl
  apply T_seq
  apply T_r F
  · (simp only [go_sem, Try.ntmps72, hw0]) <;> exact rfl
  apply K_seq
  apply T_seq
  apply T_seq
  apply T_r F
  · (simp only [go_sem, Try.ntmps72, hw0]) <;> exact rfl
  apply K_seq
  apply T_block
  apply T_lp (α := Int) [true, false, false, true, false, false, false, false, false, false, false, false, false, false, false, false, false, false, false, false, false] (fun i => (⟨[.sl 1 (rI l), .undef, .undef, .int .i64 i, .undef, .undef, .undef, .undef, .undef, .undef, .undef, .undef, .undef, .undef, .undef, .undef, .undef, .undef, .undef, .undef, .undef], []⟩ : St)) (fun i => (-1 ≤ i ∧ i < l.length) ∧ ∀ j : Nat, i < j → j < l.length → M.at' l (j - 1) ≤ M.at' l j) (fun i => i.toNat) ((l.length : Int) - 1)
  · (simp only [go_sem, Try.ntmps72, hw0]) <;> exact rfl
  · refine ⟨⟨by omega, by omega⟩, fun j h1 h2 => by omega⟩
  · rintro i ⟨⟨hi1, hi2⟩, hj⟩
    apply T_seq
    apply T_seq
    apply T_r F
    · (simp only [go_sem, Try.ntmps72, hw0]) <;> exact rfl
    apply K_seq
    apply T_if
    · (simp only [go_sem, Try.ntmps72, hw0]) <;> exact rfl
    · intro bh0t
      have h0t := bh0t
      try simp only [CS] at h0t
      try simp only [BS] at bh0t
      try exact absurd bh0t (by decide)
      all_goals (
  have hi3 : 0 ≤ i := by omega
  have hi4 : i.toNat < l.length := by omega
  have hi5 : 0 ≤ i - 1 := by omega
  have hi6 : (i - 1).toNat < l.length := by omega
  have hw : IntKind.i64.wrap (i - 1) = i - 1 := wrap_id (by omega) (by omega)
  apply T_skip
  apply K_seq
  apply T_seq
  apply T_block
  apply T_seq
  apply T_qL F [0, 1, 2, 3, 4, 5, 6, 7, 8, 9] rfl (by kernel_rfl)
  apply Q_pre [0, 1, 2, 3] [4, 5, 6, 7, 8, 9]
  · (simp only [go_sem, Try.ntmps72, hw0, bh0t, h0t, hi3, hi4, hi5, hi6, hw, rI_get hi4, rI_get hi6]) <;> exact rfl
  apply Q_pre [4, 5, 6, 7, 8] [9]
  · (simp only [go_sem, Try.ntmps72, hw0, bh0t, h0t, hi3, hi4, hi5, hi6, hw, rI_get hi4, rI_get hi6]) <;> exact rfl
  apply Q_call -- call 0 of function 87
  · (simp only [go_sem, Try.ntmps72, hw0, bh0t, h0t, hi3, hi4, hi5, hi6, hw, rI_get hi4, rI_get hi6]) <;> exact rfl
  · (simp only [go_sem, Try.ntmps72, hw0, bh0t, h0t, hi3, hi4, hi5, hi6, hw, rI_get hi4, rI_get hi6]) <;> exact rfl
  · exact rfl
  · (simp only [go_sem, Try.ntmps72, hw0, bh0t, h0t, hi3, hi4, hi5, hi6, hw, rI_get hi4, rI_get hi6]) <;> exact rfl
  · (simp only [go_sem, Try.ntmps72, hw0, bh0t, h0t, hi3, hi4, hi5, hi6, hw, rI_get hi4, rI_get hi6]) <;> exact rfl
  · exact ⟨_, Try.func87, rfl, rfl⟩
  · (simp only [go_sem, Try.ntmps72, hw0, bh0t, h0t, hi3, hi4, hi5, hi6, hw, rI_get hi4, rI_get hi6]) <;> exact rfl
  · exact sl_less _ _
  apply Q_run
  · (simp only [go_sem, Try.ntmps72, hw0, bh0t, h0t, hi3, hi4, hi5, hi6, hw, rI_get hi4, rI_get hi6]) <;> exact rfl
  apply Q_nil
  apply K_seq
  apply T_if
  · (simp only [go_sem, Try.ntmps72, hw0, bh0t, h0t, hi3, hi4, hi5, hi6, hw, rI_get hi4, rI_get hi6]) <;> exact rfl
  · intro bh1t
    have h1t := bh1t
    try simp only [CS] at h1t
    try simp only [BS] at bh1t
    try exact absurd bh1t (by decide)
    all_goals (
  apply T_seq
  apply T_r F
  · (simp only [go_sem, Try.ntmps72, hw0, bh0t, h0t, hi3, hi4, hi5, hi6, hw, rI_get hi4, rI_get hi6, bh1t]) <;> exact rfl
  apply K_seq
  apply T_ret
  apply K_blkR
  apply K_seqR
  apply K_lpR
  apply K_blkR
  apply K_seqR
  apply fin_ret
  · (simp only [go_sem, Try.ntmps72, hw0, bh0t, h0t, hi3, hi4, hi5, hi6, hw, rI_get hi4, rI_get hi6, bh1t, Try.f72]) <;> exact rfl
  -- leaf 0 (ret)
  simp only [go_sem, Try.ntmps72, hw0, bh0t, h0t, hi3, hi4, hi5, hi6, hw, rI_get hi4, rI_get hi6, bh1t, V.bool.injEq, V.int.injEq, true_and]
  first | exact (M.sorted_false hi4 hi6 (by omega) (of_decide_eq_true bh1t)).symm | exact (M.sorted_true fun j h1 h2 => hj j (by omega) h2).symm)
  · intro bh1f
    have h1f := bh1f
    try simp only [CS] at h1f
    try simp only [BS] at bh1f
    try exact absurd bh1f (by decide)
    all_goals (
  apply T_skip
  apply K_blk
  apply K_seq
  apply T_r F
  · (simp only [go_sem, Try.ntmps72, hw0, bh0t, h0t, hi3, hi4, hi5, hi6, hw, rI_get hi4, rI_get hi6, bh1f]) <;> exact rfl
  refine K_lp (i - 1) ?_ ?_
  · (simp only [go_sem, Try.ntmps72, hw0, bh0t, h0t, hi3, hi4, hi5, hi6, hw, rI_get hi4, rI_get hi6, bh1f]) <;> exact rfl
  -- leaf 1 (loop0)
  exact ⟨M.sorted_step hi4 hi6 (by omega) (of_decide_eq_false bh1f) ⟨⟨hi1, hi2⟩, hj⟩, by omega⟩))
    · intro bh0f
      have h0f := bh0f
      try simp only [CS] at h0f
      try simp only [BS] at bh0f
      try exact absurd bh0f (by decide)
      all_goals (
  apply T_exit
  apply K_seqE
  apply K_lpE
  apply K_blkE
  apply K_seq
  apply T_seq
  apply T_r F
  · (simp only [go_sem, Try.ntmps72, hw0, bh0f]) <;> exact rfl
  apply K_seq
  apply T_ret
  apply fin_ret
  · (simp only [go_sem, Try.ntmps72, hw0, bh0f, Try.f72]) <;> exact rfl
  -- leaf 2 (ret)
  simp only [go_sem, Try.ntmps72, hw0, bh0f, V.bool.injEq, V.int.injEq, true_and]
  first | exact (M.sorted_false hi4 hi6 (by omega) (of_decide_eq_true bh1t)).symm | exact (M.sorted_true fun j h1 h2 => hj j (by omega) h2).symm)

end Go.Ab
namespace Go.Ab
open Go Go.RowKit Go.Proofs Fac
set_option linter.unusedVariables false
set_option linter.unusedSimpArgs false
set_option maxRecDepth 4000
set_option maxHeartbeats 1000000



def M.kinB (t : Town) (a b : Int) : Bool := !(!M.inr a 0 ((t.houses.length : Int) - 1) || (!M.inr b 0 ((t.houses.length : Int) - 1) || a == b))
def M.RowOk (t : Town) (a : Nat) : Prop := (M.row t a).length = t.walk.length ∧ ∀ b, b < t.walk.length → M.Cell t a b ∧ (M.row t b).length = t.walk.length
theorem M.kinB_iff {t : Town} {k : Nat} (hk : k < t.kin.length) : M.kinB t t.kin[k].1 t.kin[k].2 = true ↔ M.KinOk t k := by
  simp only [M.kinB, M.KinOk, M.kn_get hk, M.house, Bool.not_eq_true', Bool.or_eq_false_iff, Bool.not_eq_false', beq_eq_false_iff_ne, ne_eq]
theorem M.different_iff {l : List Int} {n : Int} : M.different l n = true ↔ ∀ i, i < l.length → M.inr (M.at' l i) 0 (n - 1) = true ∧ M.shared l i = false := by
  simp only [M.different, List.all_eq_true, List.mem_range, Bool.and_eq_true, Bool.not_eq_true']
theorem M.shared_iff {l : List Int} {i : Nat} (hi : i < l.length) : M.shared l i = false ↔ ∀ k, k < i → M.at' l k ≠ M.at' l i := by
  simp only [M.shared, Bool.eq_false_iff, ne_eq, List.contains_iff_mem, List.mem_take_iff_getElem]
  constructor
  · intro h k hk he
    exact h ⟨k, by omega, by rw [M.at_get (by omega)] at he; exact he⟩
  · rintro h ⟨k, hk, he⟩
    exact h k (by omega) (by rw [M.at_get (by omega)]; exact he)
theorem M.lot_inr {t : Town} {n : Int} : M.lot t n = M.inr n 0 ((t.walk.length : Int) - 1) := rfl
theorem M.ok_rows {t : Town} (ok : M.Ok t) (a : Nat) (ha : a < t.walk.length) : M.RowOk t a := ⟨ok.walks.1 a ha, fun b hb => ⟨ok.walks.2.1 a ha b hb, ok.walks.1 b hb⟩⟩
theorem M.ok_wishes {t : Town} (ok : M.Ok t) (i : Nat) (hi : i < t.houses.length) : M.different (M.hs t i).wishes t.walk.length = true := by
  rw [M.different_iff]
  intro k hk
  exact ((ok.houses.1 i hi).2.2 k hk)
theorem M.at_now {t : Town} {i : Nat} (hi : i < t.houses.length) : M.at' (M.now t) i = (M.hs t i).lot := by
  rw [M.at_get (by simpa [M.now] using hi), M.hs_get hi]; simp [M.now]
theorem M.ok_valid {t : Town} (hr : ∀ a, a < t.walk.length → M.RowOk t a) (hw : ∀ i, i < t.houses.length → M.different (M.hs t i).wishes t.walk.length = true) :
    M.Ok t ↔ (M.inr t.walk.length 1 7 = true ∧ M.inr t.reach 0 1000 = true ∧ M.different t.schools t.walk.length = true ∧ M.sorted t.schools = true ∧ t.gone.length = t.walk.length ∧ M.inr t.houses.length 1 6 = true ∧ M.different (M.now t) t.walk.length = true ∧ t.kin.length ≤ 10 ∧ ∀ k, k < t.kin.length → M.KinOk t k) := by
  have hnl : (M.now t).length = t.houses.length := by simp [M.now]
  constructor
  · intro ok
    refine ⟨ok.walks.2.2, ok.reach, ?_, ?_, ok.gone, ok.houses.2, ?_, ok.kin, ok.kins⟩
    · rw [M.different_iff]
      intro i hi
      refine ⟨(ok.schools i hi).1, (M.shared_iff hi).2 fun k hk => ?_⟩
      have key : ∀ d a, a + d + 1 < t.schools.length → M.at' t.schools a < M.at' t.schools (a + d + 1) := by
        intro d
        induction d with
        | zero =>
          intro a ha
          have := (ok.schools (a + 1) ha).2
          simp only [Nat.add_sub_cancel] at this
          simp only [Nat.add_zero]; omega
        | succ d ih =>
          intro a ha
          have h1 := ih a (by omega)
          have h2 := (ok.schools (a + (d + 1) + 1) ha).2
          simp only [Nat.add_sub_cancel] at h2
          rw [show a + (d + 1) = a + d + 1 by omega] at *
          omega
      have := key (i - k - 1) k (by omega)
      rw [show k + (i - k - 1) + 1 = i by omega] at this
      omega
    · rw [M.sorted, decide_eq_true_eq]
      intro j h1 h2
      have := (ok.schools j h1).2
      omega
    · rw [M.different_iff]
      intro i hi
      have hi' : i < t.houses.length := by omega
      refine ⟨?_, (M.shared_iff hi).2 fun k hk => ?_⟩
      · rw [M.at_now hi']; exact (ok.houses.1 i hi').1
      · rw [M.at_now hi', M.at_now (by omega)]; exact (ok.houses.1 i hi').2.1 k hk
  · rintro ⟨h1, h2, h3, h4, h5, h6, h7, h8, h9⟩
    rw [M.different_iff] at h3 h7
    rw [M.sorted, decide_eq_true_eq] at h4
    refine ⟨⟨fun i hi => (hr i hi).1, fun i hi k hk => ((hr i hi).2 k hk).1, h1⟩, ⟨fun i hi => ⟨?_, ?_, ?_⟩, h6⟩, h2, h5, h8, fun i hi => ⟨(h3 i hi).1, ?_⟩, h9⟩
    · have := (h7 i (by omega)).1
      rw [M.at_now hi] at this; exact this
    · intro k hk
      have := (M.shared_iff (by omega)).1 (h7 i (by omega)).2 k hk
      rwa [M.at_now hi, M.at_now (by omega)] at this
    · exact M.different_iff.1 (hw i hi)
    · rintro ⟨hp, hle⟩
      have a1 := h4 i hi hp
      have a2 := (M.shared_iff hi).1 (h3 i hi).2 (i - 1) (by omega)
      omega
theorem M.kins_first (t : Town) : (!(M.first t.kin.length fun k => !M.kinB t (M.kn t k).1 (M.kn t k).2).isSome) = decide (∀ k, k < t.kin.length → M.KinOk t k) := by
  rw [Bool.eq_iff_iff]
  simp only [M.first, Bool.not_eq_true', Option.isSome_eq_false_iff, Option.isNone_iff_eq_none, List.find?_eq_none, List.mem_range, Bool.not_eq_false, Bool.not_not, decide_eq_true_eq]
  constructor
  · intro h k hk
    have := h k hk
    rw [M.kn_get hk] at this
    exact (M.kinB_iff hk).1 this
  · intro h k hk
    rw [M.kn_get hk]
    exact (M.kinB_iff hk).2 (h k hk)
theorem closed_T (t : Town) (p : List Int) (b : Bool) : Closed [.box 28 (cT t), .arr 3 1 (rI p) b] := by
  intro o ho
  simp only [List.mem_cons, List.not_mem_nil, or_false] at ho
  rcases ho with rfl | rfl
  · simp only [AObj.all, cT, V.allL, V.all, rI_all, rB_all, rL_all, rH_all, rP_all, Bool.and_self]
  · exact rI_flat _ _

theorem mv_valid1 (t : Town) (h : List AObj) (i : Nat) (hc : Closed h) (hi : h[i]? = some (.box 28 (cT t))) (hh : t.houses.length ≤ 1000) (a b : Int) : RetS Try.prog 74 [.agg [.int .i64 a, .int .i64 b], .ptr i 0] h (.bool (!M.kinB t a b)) h := by
  have hwr : IntKind.i64.wrap ((t.houses.length : Int) - 1) = (t.houses.length : Int) - 1 := wrap_id (by omega) (by omega)
  have hi1 : (h ++ [.box 43 [.int .i64 a, .int .i64 b]])[i]? = some (.box 28 (cT t)) := by rw [List.getElem?_append_left (List.getElem?_eq_some_iff.1 hi).1]; exact hi
  have hib := heap_new h [] (.box 43 [.int .i64 a, .int .i64 b])
  have hib2 := heap_take h [.box 43 [.int .i64 a, .int .i64 b]]
  apply RetS_fin (fn := Try.f74) Try.func74 rfl (by simp [V.all]) hc
  apply T_seq
  apply T_r F
  · (simp only [go_sem, Try.ntmps74, cT_eq, hi, hi1, hib, hib2, hwr]) <;> exact rfl
  apply K_seq
  apply T_seq
  apply T_wL F [0, 1, 2, 3, 4, 5, 6, 7, 8, 9, 10, 11, 12, 13, 14, 15, 16, 17, 18, 19, 20, 21, 22, 23, 24, 25] rfl
  apply W_pre [0, 1, 2, 3, 4, 5] [6, 7, 8, 9, 10, 11, 12, 13, 14, 15, 16, 17, 18, 19, 20, 21, 22, 23, 24, 25]
  · (simp only [go_sem, Try.ntmps74, cT_eq, hi, hi1, hib, hib2, hwr]) <;> exact rfl
  apply W_call -- call 0 of function 70
  · (simp only [go_sem, Try.ntmps74, cT_eq, hi, hi1, hib, hib2, hwr]) <;> exact rfl
  · (simp only [go_sem, Try.ntmps74, cT_eq, hi, hi1, hib, hib2, hwr]) <;> exact rfl
  · exact rfl
  · (simp only [go_sem, Try.ntmps74, cT_eq, hi, hi1, hib, hib2, hwr]) <;> exact rfl
  · (simp only [go_sem, Try.ntmps74, cT_eq, hi, hi1, hib, hib2, hwr]) <;> exact rfl
  · exact ⟨_, Try.func70, rfl, rfl⟩
  · (simp only [go_sem, Try.ntmps74, cT_eq, hi, hi1, hib, hib2, hwr]) <;> exact rfl
  · (simp only [go_sem, Try.ntmps74, cT_eq, hi, hi1, hib, hib2, hwr]) <;> exact rfl
  · exact mv_in _ _ _
  apply W_pre [7, 8] [9, 10, 11, 12, 13, 14, 15, 16, 17, 18, 19, 20, 21, 22, 23, 24, 25]
  · (simp only [go_sem, Try.ntmps74, cT_eq, hi, hi1, hib, hib2, hwr]) <;> exact rfl
  apply W_guard
  · (simp only [go_sem, Try.ntmps74, cT_eq, hi, hi1, hib, hib2, hwr]) <;> exact rfl
  · (simp only [go_sem, Try.ntmps74, cT_eq, hi, hi1, hib, hib2, hwr]) <;> exact rfl
  · intro bg0t
    have g0t := bg0t
    try simp only [CS] at g0t
    try simp only [BS] at bg0t
    try exact absurd bg0t (by decide)
    all_goals (
  apply W_pre [9, 10, 11, 12, 13, 14] [15, 16, 17, 18, 19, 20, 21, 22, 23, 24, 25]
  · (simp only [go_sem, Try.ntmps74, cT_eq, hi, hi1, hib, hib2, hwr, bg0t]) <;> exact rfl
  apply W_call -- call 1 of function 70
  · (simp only [go_sem, Try.ntmps74, cT_eq, hi, hi1, hib, hib2, hwr, bg0t]) <;> exact rfl
  · (simp only [go_sem, Try.ntmps74, cT_eq, hi, hi1, hib, hib2, hwr, bg0t]) <;> exact rfl
  · exact rfl
  · (simp only [go_sem, Try.ntmps74, cT_eq, hi, hi1, hib, hib2, hwr, bg0t]) <;> exact rfl
  · (simp only [go_sem, Try.ntmps74, cT_eq, hi, hi1, hib, hib2, hwr, bg0t]) <;> exact rfl
  · exact ⟨_, Try.func70, rfl, rfl⟩
  · (simp only [go_sem, Try.ntmps74, cT_eq, hi, hi1, hib, hib2, hwr, bg0t]) <;> exact rfl
  · (simp only [go_sem, Try.ntmps74, cT_eq, hi, hi1, hib, hib2, hwr, bg0t]) <;> exact rfl
  · exact mv_in _ _ _
  apply W_pre [16, 17, 18] [19, 20, 21, 22, 23, 24, 25]
  · (simp only [go_sem, Try.ntmps74, cT_eq, hi, hi1, hib, hib2, hwr, bg0t]) <;> exact rfl
  apply W_guard
  · (simp only [go_sem, Try.ntmps74, cT_eq, hi, hi1, hib, hib2, hwr, bg0t]) <;> exact rfl
  · (simp only [go_sem, Try.ntmps74, cT_eq, hi, hi1, hib, hib2, hwr, bg0t]) <;> exact rfl
  · intro bg1t
    have g1t := bg1t
    try simp only [CS] at g1t
    try simp only [BS] at bg1t
    try exact absurd bg1t (by decide)
    all_goals (
  apply W_pre [19, 20, 21, 22] [23, 24, 25]
  · (simp only [go_sem, Try.ntmps74, cT_eq, hi, hi1, hib, hib2, hwr, bg0t, bg1t]) <;> exact rfl
  apply W_run
  · (simp only [go_sem, Try.ntmps74, cT_eq, hi, hi1, hib, hib2, hwr, bg0t, bg1t]) <;> exact rfl
  apply W_nil
  apply K_seq
  apply T_ret
  apply finS_ret
  · (simp only [go_sem, Try.ntmps74, cT_eq, hi, hi1, hib, hib2, hwr, bg0t, bg1t, Try.f74]) <;> exact rfl
  · simp
  · simp
  -- leaf 0 (ret)
  simp only [go_sem, Try.ntmps74, cT_eq, hi, hi1, hib, hib2, hwr, bg0t, bg1t, V.bool.injEq, V.int.injEq, true_and]
  simp_all [M.kinB])
  · intro bg1f
    have g1f := bg1f
    try simp only [CS] at g1f
    try simp only [BS] at bg1f
    try exact absurd bg1f (by decide)
    all_goals (
  apply W_pre [19, 20, 21, 22] [23, 24, 25]
  · (simp only [go_sem, Try.ntmps74, cT_eq, hi, hi1, hib, hib2, hwr, bg0t, bg1f]) <;> exact rfl
  apply W_run
  · (simp only [go_sem, Try.ntmps74, cT_eq, hi, hi1, hib, hib2, hwr, bg0t, bg1f]) <;> exact rfl
  apply W_nil
  apply K_seq
  apply T_ret
  apply finS_ret
  · (simp only [go_sem, Try.ntmps74, cT_eq, hi, hi1, hib, hib2, hwr, bg0t, bg1f, Try.f74]) <;> exact rfl
  · simp
  · simp
  -- leaf 1 (ret)
  simp only [go_sem, Try.ntmps74, cT_eq, hi, hi1, hib, hib2, hwr, bg0t, bg1f, V.bool.injEq, V.int.injEq, true_and]
  simp_all [M.kinB]))
  · intro bg0f
    have g0f := bg0f
    try simp only [CS] at g0f
    try simp only [BS] at bg0f
    try exact absurd bg0f (by decide)
    all_goals (
  apply W_pre [9, 10, 11, 12] [13, 14, 15, 16, 17, 18, 19, 20, 21, 22, 23, 24, 25]
  · (simp only [go_sem, Try.ntmps74, cT_eq, hi, hi1, hib, hib2, hwr, bg0f]) <;> exact rfl
  apply W_pre [13, 14, 15, 16] [17, 18, 19, 20, 21, 22, 23, 24, 25]
  · (simp only [go_sem, Try.ntmps74, cT_eq, hi, hi1, hib, hib2, hwr, bg0f]) <;> exact rfl
  apply W_pre [17, 18, 19, 20] [21, 22, 23, 24, 25]
  · (simp only [go_sem, Try.ntmps74, cT_eq, hi, hi1, hib, hib2, hwr, bg0f]) <;> exact rfl
  apply W_run
  · (simp only [go_sem, Try.ntmps74, cT_eq, hi, hi1, hib, hib2, hwr, bg0f]) <;> exact rfl
  apply W_nil
  apply K_seq
  apply T_ret
  apply finS_ret
  · (simp only [go_sem, Try.ntmps74, cT_eq, hi, hi1, hib, hib2, hwr, bg0f, Try.f74]) <;> exact rfl
  · simp
  · simp
  -- leaf 2 (ret)
  simp only [go_sem, Try.ntmps74, cT_eq, hi, hi1, hib, hib2, hwr, bg0f, V.bool.injEq, V.int.injEq, true_and]
  simp_all [M.kinB])

theorem mv_valid (t : Town) (hh : t.houses.length ≤ 1000) : Ret Try.prog 46 [.agg (cT t)] (.bool (decide (M.Ok t))) := by
  refine Ret.of_fits fun hfits => ?_
  simp only [V.fits, V.fitsL, V.fitsR, cT_fits] at hfits
  have hl := hfits.1.walk
  have hlk := hfits.1.kin
  have hlr := hfits.1.rows
  apply Ret_fin (fn := Try.f46) Try.func46 rfl
  apply T_seq
  apply T_r F
  · (simp only [go_sem, Try.ntmps46, rI_flat]) <;> exact rfl
  apply K_seq
  apply T_seq
  apply T_r F
  · (simp only [go_sem, Try.ntmps46, rI_flat]) <;> exact rfl
  apply K_seq
  apply T_seq
  apply T_seq
  apply T_r F
  · (simp only [go_sem, Try.ntmps46, rI_flat]) <;> exact rfl
  apply K_seq
  apply T_block
  apply T_lp (α := Nat) [false, true, false, true, false, false, false, false, false, false, false, false, false, false, false, true, true, true, false, false, false, false, false, false, false, false, false, false, false, false, false, false, false, false, false, false, false, false, false, false, false, false, false, false, false, false, false, false, false, false, false, false, false, false, false, false, false, false, false, false, false, false, false, false, false, false, false, false, false, false, false, false, false, false, false, false, false, false, false, false, false, false, false, false, false, false, false, false, false, false, false, false, false, false, false, false, false, false, false, false, false, false, false, false, false, false, false, false, false, false, false, false, false, false, false, false, false, false, false, false, false, false, false, false, false, false, false, false, false, false, false, false, false, false, false, false] (fun i => (⟨[.undef, .ptr 0 0, .undef, .int .i64 (t.walk.length : Int), .undef, .undef, .undef, .undef, .undef, .undef, .undef, .undef, .undef, .undef, .undef, .sl 1 (rL t.walk), .int .i64 (t.walk.length : Int), .int .i64 (i : Int), .undef, .undef, .undef, .undef, .undef, .undef, .undef, .undef, .undef, .undef, .undef, .undef, .undef, .undef, .undef, .undef, .undef, .undef, .undef, .undef, .undef, .undef, .undef, .undef, .undef, .undef, .undef, .undef, .undef, .undef, .undef, .undef, .undef, .undef, .undef, .undef, .undef, .undef, .undef, .undef, .undef, .undef, .undef, .undef, .undef, .undef, .undef, .undef, .undef, .undef, .undef, .undef, .undef, .undef, .undef, .undef, .undef, .undef, .undef, .undef, .undef, .undef, .undef, .undef, .undef, .undef, .undef, .undef, .undef, .undef, .undef, .undef, .undef, .undef, .undef, .undef, .undef, .undef, .undef, .undef, .undef, .undef, .undef, .undef, .undef, .undef, .undef, .undef, .undef, .undef, .undef, .undef, .undef, .undef, .undef, .undef, .undef, .undef, .undef, .undef, .undef, .undef, .undef, .undef, .undef, .undef, .undef, .undef, .undef, .undef, .undef, .undef, .undef, .undef, .undef, .undef, .undef, .undef], [.box 28 (cT t)]⟩ : St)) (fun i => i ≤ t.walk.length ∧ ∀ a, a < i → M.RowOk t a) (fun i => t.walk.length - i) (0)
  · (simp only [go_sem, Try.ntmps46, rI_flat]) <;> exact rfl
  · simp
  · rintro i ⟨hi, hia⟩
    apply T_seq
    apply T_r F
    · (simp only [go_sem, Try.ntmps46, rI_flat]) <;> exact rfl
    apply K_seq
    apply T_seq
    apply T_if
    · (simp only [go_sem, Try.ntmps46, rI_flat]) <;> exact rfl
    · intro bh0t
      have h0t := bh0t
      try simp only [CS] at h0t
      try simp only [BS] at bh0t
      try exact absurd bh0t (by decide)
      all_goals (
  have hb : i < 9223372036854775807 := by omega
  have hrw := M.row_get h0t
  have hok : M.Ok t → M.RowOk t i := fun ok => M.ok_rows ok i h0t
  unfold M.RowOk at hok
  apply T_skip
  apply K_seq
  apply T_seq
  apply T_block
  apply T_seq
  apply T_r F
  · (simp only [go_sem, Try.ntmps46, rI_flat, bh0t, h0t, rL_get h0t, hb]) <;> exact rfl
  apply K_seq
  apply T_seq
  apply T_seq
  apply T_r F
  · (simp only [go_sem, Try.ntmps46, rI_flat, bh0t, h0t, rL_get h0t, hb]) <;> exact rfl
  apply K_seq
  apply T_if
  · (simp only [go_sem, Try.ntmps46, rI_flat, bh0t, h0t, rL_get h0t, hb]) <;> exact rfl
  · intro bh1t
    have h1t := bh1t
    try simp only [CS] at h1t
    try simp only [BS] at bh1t
    try exact absurd bh1t (by decide)
    all_goals (
  apply T_seq
  apply T_r F
  · (simp only [go_sem, Try.ntmps46, rI_flat, bh0t, h0t, rL_get h0t, hb, bh1t]) <;> exact rfl
  apply K_seq
  apply T_ret
  apply K_seqR
  apply K_blkR
  apply K_seqR
  apply K_lpR
  apply K_blkR
  apply K_seqR
  apply fin_ret
  · (simp only [go_sem, Try.ntmps46, rI_flat, bh0t, h0t, rL_get h0t, hb, bh1t, Try.f46]) <;> exact rfl
  -- leaf 0 (ret)
  simp only [go_sem, Try.ntmps46, rI_flat, bh0t, h0t, rL_get h0t, hb, bh1t, V.bool.injEq, V.int.injEq, true_and]
  grind)
  · intro bh1f
    have h1f := bh1f
    try simp only [CS] at h1f
    try simp only [BS] at bh1f
    try exact absurd bh1f (by decide)
    all_goals (
  have hlen : t.walk[i].length = t.walk.length := h1f
  apply T_skip
  apply K_seq
  apply T_seq
  apply T_r F
  · (simp only [go_sem, Try.ntmps46, rI_flat, bh0t, h0t, rL_get h0t, hb, bh1f]) <;> exact rfl
  apply K_seq
  apply T_block
  apply T_lp (α := Nat) [false, true, false, true, true, false, false, false, false, false, false, false, false, false, false, true, true, true, false, false, false, false, false, false, false, false, true, true, true, false, false, false, false, false, false, false, false, false, false, false, false, false, false, false, false, false, false, false, false, false, false, false, false, false, false, false, false, false, false, false, false, false, false, false, false, false, false, false, false, false, false, false, false, false, false, false, false, false, false, false, false, false, false, false, false, false, false, false, false, false, false, false, false, false, false, false, false, false, false, false, false, false, false, false, false, false, false, false, false, false, false, false, false, false, false, false, false, false, false, false, false, false, false, false, false, false, false, false, false, false, false, false, false, false, false, false] (fun j => (⟨[.undef, .ptr 0 0, .undef, .int .i64 (t.walk.length : Int), .int .i64 (i : Int), .undef, .undef, .undef, .undef, .undef, .undef, .undef, .undef, .undef, .undef, .sl 1 (rL t.walk), .int .i64 (t.walk.length : Int), .int .i64 (i : Int), .undef, .undef, .undef, .undef, .undef, .undef, .undef, .undef, .sl 1 (rI t.walk[i]), .int .i64 (t.walk[i].length : Int), .int .i64 (j : Int), .undef, .undef, .undef, .undef, .undef, .undef, .undef, .undef, .undef, .undef, .undef, .undef, .undef, .undef, .undef, .undef, .undef, .undef, .undef, .undef, .undef, .undef, .undef, .undef, .undef, .undef, .undef, .undef, .undef, .undef, .undef, .undef, .undef, .undef, .undef, .undef, .undef, .undef, .undef, .undef, .undef, .undef, .undef, .undef, .undef, .undef, .undef, .undef, .undef, .undef, .undef, .undef, .undef, .undef, .undef, .undef, .undef, .undef, .undef, .undef, .undef, .undef, .undef, .undef, .undef, .undef, .undef, .undef, .undef, .undef, .undef, .undef, .undef, .undef, .undef, .undef, .undef, .undef, .undef, .undef, .undef, .undef, .undef, .undef, .undef, .undef, .undef, .undef, .undef, .undef, .undef, .undef, .undef, .undef, .undef, .undef, .undef, .undef, .undef, .undef, .undef, .undef, .undef, .undef, .undef, .undef, .undef], [.box 28 (cT t)]⟩ : St)) (fun j => j ≤ t.walk[i].length ∧ ∀ b, b < j → M.Cell t i b ∧ (M.row t b).length = t.walk.length) (fun j => t.walk[i].length - j) (0)
  · (simp only [go_sem, Try.ntmps46, rI_flat, bh0t, h0t, rL_get h0t, hb, bh1f]) <;> exact rfl
  · simp
  · rintro j ⟨hjj, hjb⟩
    apply T_seq
    apply T_r F
    · (simp only [go_sem, Try.ntmps46, rI_flat, bh0t, h0t, rL_get h0t, hb, bh1f]) <;> exact rfl
    apply K_seq
    apply T_seq
    apply T_if
    · (simp only [go_sem, Try.ntmps46, rI_flat, bh0t, h0t, rL_get h0t, hb, bh1f]) <;> exact rfl
    · intro bh2t
      have h2t := bh2t
      try simp only [CS] at h2t
      try simp only [BS] at bh2t
      try exact absurd bh2t (by decide)
      all_goals (
  have hbj : j < 9223372036854775807 := by omega
  have hjn : j < t.walk.length := by omega
  have hrj := M.row_get hjn
  have d1 := M.dist_nat h0t h2t
  have hcj : M.Ok t → M.Cell t i j ∧ (M.row t j).length = t.walk.length := fun ok => (hok ok).2 j hjn
  have hcu := M.Cell.eq_1 t i j
  rw [d1] at hcu
  apply T_skip
  apply K_seq
  apply T_seq
  apply T_block
  apply T_seq
  apply T_r F
  · (simp only [go_sem, Try.ntmps46, rI_flat, bh0t, h0t, rL_get h0t, hb, bh1f, bh2t, h2t, rI_get h2t, hbj, hjn, rL_get hjn]) <;> exact rfl
  apply K_seq
  apply T_seq
  apply T_wL F [0, 1, 2, 3, 4, 5, 6, 7, 8, 9, 10, 11, 12, 13, 14, 15, 16, 17, 18, 19, 20, 21, 22, 23, 24, 25, 26, 27, 28, 29, 30, 31, 32, 33] rfl
  apply W_pre [0] [1, 2, 3, 4, 5, 6, 7, 8, 9, 10, 11, 12, 13, 14, 15, 16, 17, 18, 19, 20, 21, 22, 23, 24, 25, 26, 27, 28, 29, 30, 31, 32, 33]
  · (simp only [go_sem, Try.ntmps46, rI_flat, bh0t, h0t, rL_get h0t, hb, bh1f, bh2t, h2t, rI_get h2t, hbj, hjn, rL_get hjn]) <;> exact rfl
  apply W_call -- call 0 of function 70
  · (simp only [go_sem, Try.ntmps46, rI_flat, bh0t, h0t, rL_get h0t, hb, bh1f, bh2t, h2t, rI_get h2t, hbj, hjn, rL_get hjn]) <;> exact rfl
  · (simp only [go_sem, Try.ntmps46, rI_flat, bh0t, h0t, rL_get h0t, hb, bh1f, bh2t, h2t, rI_get h2t, hbj, hjn, rL_get hjn]) <;> exact rfl
  · exact rfl
  · (simp only [go_sem, Try.ntmps46, rI_flat, bh0t, h0t, rL_get h0t, hb, bh1f, bh2t, h2t, rI_get h2t, hbj, hjn, rL_get hjn]) <;> exact rfl
  · (simp only [go_sem, Try.ntmps46, rI_flat, bh0t, h0t, rL_get h0t, hb, bh1f, bh2t, h2t, rI_get h2t, hbj, hjn, rL_get hjn]) <;> exact rfl
  · exact ⟨_, Try.func70, rfl, rfl⟩
  · (simp only [go_sem, Try.ntmps46, rI_flat, bh0t, h0t, rL_get h0t, hb, bh1f, bh2t, h2t, rI_get h2t, hbj, hjn, rL_get hjn]) <;> exact rfl
  · (simp only [go_sem, Try.ntmps46, rI_flat, bh0t, h0t, rL_get h0t, hb, bh1f, bh2t, h2t, rI_get h2t, hbj, hjn, rL_get hjn]) <;> exact rfl
  · exact mv_in _ _ _
  apply W_pre [2, 3] [4, 5, 6, 7, 8, 9, 10, 11, 12, 13, 14, 15, 16, 17, 18, 19, 20, 21, 22, 23, 24, 25, 26, 27, 28, 29, 30, 31, 32, 33]
  · (simp only [go_sem, Try.ntmps46, rI_flat, bh0t, h0t, rL_get h0t, hb, bh1f, bh2t, h2t, rI_get h2t, hbj, hjn, rL_get hjn]) <;> exact rfl
  apply W_guard
  · (simp only [go_sem, Try.ntmps46, rI_flat, bh0t, h0t, rL_get h0t, hb, bh1f, bh2t, h2t, rI_get h2t, hbj, hjn, rL_get hjn]) <;> exact rfl
  · (simp only [go_sem, Try.ntmps46, rI_flat, bh0t, h0t, rL_get h0t, hb, bh1f, bh2t, h2t, rI_get h2t, hbj, hjn, rL_get hjn]) <;> exact rfl
  · intro bg0t
    have g0t := bg0t
    try simp only [CS] at g0t
    try simp only [BS] at bg0t
    try exact absurd bg0t (by decide)
    all_goals (
  apply W_pre [4, 5, 6, 7] [8, 9, 10, 11, 12, 13, 14, 15, 16, 17, 18, 19, 20, 21, 22, 23, 24, 25, 26, 27, 28, 29, 30, 31, 32, 33]
  · (simp only [go_sem, Try.ntmps46, rI_flat, bh0t, h0t, rL_get h0t, hb, bh1f, bh2t, h2t, rI_get h2t, hbj, hjn, rL_get hjn, bg0t]) <;> exact rfl
  apply W_guard
  · (simp only [go_sem, Try.ntmps46, rI_flat, bh0t, h0t, rL_get h0t, hb, bh1f, bh2t, h2t, rI_get h2t, hbj, hjn, rL_get hjn, bg0t]) <;> exact rfl
  · (simp only [go_sem, Try.ntmps46, rI_flat, bh0t, h0t, rL_get h0t, hb, bh1f, bh2t, h2t, rI_get h2t, hbj, hjn, rL_get hjn, bg0t]) <;> exact rfl
  · intro bg1t
    have g1t := bg1t
    try simp only [CS] at g1t
    try simp only [BS] at bg1t
    try exact absurd bg1t (by decide)
    all_goals (
  apply W_pre [8, 9, 10, 11, 12] [13, 14, 15, 16, 17, 18, 19, 20, 21, 22, 23, 24, 25, 26, 27, 28, 29, 30, 31, 32, 33]
  · (simp only [go_sem, Try.ntmps46, rI_flat, bh0t, h0t, rL_get h0t, hb, bh1f, bh2t, h2t, rI_get h2t, hbj, hjn, rL_get hjn, bg0t, bg1t]) <;> exact rfl
  apply W_guard
  · (simp only [go_sem, Try.ntmps46, rI_flat, bh0t, h0t, rL_get h0t, hb, bh1f, bh2t, h2t, rI_get h2t, hbj, hjn, rL_get hjn, bg0t, bg1t]) <;> exact rfl
  · (simp only [go_sem, Try.ntmps46, rI_flat, bh0t, h0t, rL_get h0t, hb, bh1f, bh2t, h2t, rI_get h2t, hbj, hjn, rL_get hjn, bg0t, bg1t]) <;> exact rfl
  · intro bg2t
    have g2t := bg2t
    try simp only [CS] at g2t
    try simp only [BS] at bg2t
    try exact absurd bg2t (by decide)
    all_goals (
  apply W_pre [13, 14, 15, 16] [17, 18, 19, 20, 21, 22, 23, 24, 25, 26, 27, 28, 29, 30, 31, 32, 33]
  · (simp only [go_sem, Try.ntmps46, rI_flat, bh0t, h0t, rL_get h0t, hb, bh1f, bh2t, h2t, rI_get h2t, hbj, hjn, rL_get hjn, bg0t, bg1t, bg2t]) <;> exact rfl
  apply W_pre [17, 18, 19, 20, 21, 22] [23, 24, 25, 26, 27, 28, 29, 30, 31, 32, 33]
  · (simp only [go_sem, Try.ntmps46, rI_flat, bh0t, h0t, rL_get h0t, hb, bh1f, bh2t, h2t, rI_get h2t, hbj, hjn, rL_get hjn, bg0t, bg1t, bg2t]) <;> exact rfl
  apply W_guard
  · (simp only [go_sem, Try.ntmps46, rI_flat, bh0t, h0t, rL_get h0t, hb, bh1f, bh2t, h2t, rI_get h2t, hbj, hjn, rL_get hjn, bg0t, bg1t, bg2t]) <;> exact rfl
  · (simp only [go_sem, Try.ntmps46, rI_flat, bh0t, h0t, rL_get h0t, hb, bh1f, bh2t, h2t, rI_get h2t, hbj, hjn, rL_get hjn, bg0t, bg1t, bg2t]) <;> exact rfl
  · intro bg3t
    have g3t := bg3t
    try simp only [CS] at g3t
    try simp only [BS] at bg3t
    try exact absurd bg3t (by decide)
    all_goals (
  have r2 : i < (t.walk[j]).length := by omega
  have d2 := M.dist_nat hjn r2
  rw [d2] at hcu
  apply W_pre [23, 24, 25, 26] [27, 28, 29, 30, 31, 32, 33]
  · (simp only [go_sem, Try.ntmps46, rI_flat, bh0t, h0t, rL_get h0t, hb, bh1f, bh2t, h2t, rI_get h2t, hbj, hjn, rL_get hjn, bg0t, bg1t, bg2t, bg3t, r2, rI_get r2]) <;> exact rfl
  apply W_pre [27, 28, 29, 30] [31, 32, 33]
  · (simp only [go_sem, Try.ntmps46, rI_flat, bh0t, h0t, rL_get h0t, hb, bh1f, bh2t, h2t, rI_get h2t, hbj, hjn, rL_get hjn, bg0t, bg1t, bg2t, bg3t, r2, rI_get r2]) <;> exact rfl
  apply W_run
  · (simp only [go_sem, Try.ntmps46, rI_flat, bh0t, h0t, rL_get h0t, hb, bh1f, bh2t, h2t, rI_get h2t, hbj, hjn, rL_get hjn, bg0t, bg1t, bg2t, bg3t, r2, rI_get r2]) <;> exact rfl
  apply W_nil
  apply K_seq
  apply T_if
  · (simp only [go_sem, Try.ntmps46, rI_flat, bh0t, h0t, rL_get h0t, hb, bh1f, bh2t, h2t, rI_get h2t, hbj, hjn, rL_get hjn, bg0t, bg1t, bg2t, bg3t, r2, rI_get r2]) <;> exact rfl
  · intro bh3t
    have h3t := bh3t
    try simp only [CS] at h3t
    try simp only [BS] at bh3t
    try exact absurd bh3t (by decide)
    all_goals (
  apply T_seq
  apply T_r F
  · (simp only [go_sem, Try.ntmps46, rI_flat, bh0t, h0t, rL_get h0t, hb, bh1f, bh2t, h2t, rI_get h2t, hbj, hjn, rL_get hjn, bg0t, bg1t, bg2t, bg3t, r2, rI_get r2, bh3t]) <;> exact rfl
  apply K_seq
  apply T_ret
  apply K_blkR
  apply K_seqR
  apply K_lpR
  apply K_blkR
  apply K_blkR
  apply K_seqR
  apply K_lpR
  apply K_blkR
  apply K_seqR
  apply fin_ret
  · (simp only [go_sem, Try.ntmps46, rI_flat, bh0t, h0t, rL_get h0t, hb, bh1f, bh2t, h2t, rI_get h2t, hbj, hjn, rL_get hjn, bg0t, bg1t, bg2t, bg3t, r2, rI_get r2, bh3t, Try.f46]) <;> exact rfl
  -- leaf 1 (ret)
  simp only [go_sem, Try.ntmps46, rI_flat, bh0t, h0t, rL_get h0t, hb, bh1f, bh2t, h2t, rI_get h2t, hbj, hjn, rL_get hjn, bg0t, bg1t, bg2t, bg3t, r2, rI_get r2, bh3t, V.bool.injEq, V.int.injEq, true_and]
  grind)
  · intro bh3f
    have h3f := bh3f
    try simp only [CS] at h3f
    try simp only [BS] at bh3f
    try exact absurd bh3f (by decide)
    all_goals (
  apply T_skip
  apply K_blk
  apply K_seq
  apply T_r F
  · (simp only [go_sem, Try.ntmps46, rI_flat, bh0t, h0t, rL_get h0t, hb, bh1f, bh2t, h2t, rI_get h2t, hbj, hjn, rL_get hjn, bg0t, bg1t, bg2t, bg3t, r2, rI_get r2, bh3f]) <;> exact rfl
  refine K_lp (j + 1) ?_ ?_
  · (simp only [go_sem, Try.ntmps46, rI_flat, bh0t, h0t, rL_get h0t, hb, bh1f, bh2t, h2t, rI_get h2t, hbj, hjn, rL_get hjn, bg0t, bg1t, bg2t, bg3t, r2, rI_get r2, bh3f]) <;> exact rfl
  -- leaf 2 (loop1)
  grind))
  · intro bg3f
    have g3f := bg3f
    try simp only [CS] at g3f
    try simp only [BS] at bg3f
    try exact absurd bg3f (by decide)
    all_goals (
  apply W_pre [23, 24, 25, 26] [27, 28, 29, 30, 31, 32, 33]
  · (simp only [go_sem, Try.ntmps46, rI_flat, bh0t, h0t, rL_get h0t, hb, bh1f, bh2t, h2t, rI_get h2t, hbj, hjn, rL_get hjn, bg0t, bg1t, bg2t, bg3f]) <;> exact rfl
  apply W_pre [27, 28, 29, 30] [31, 32, 33]
  · (simp only [go_sem, Try.ntmps46, rI_flat, bh0t, h0t, rL_get h0t, hb, bh1f, bh2t, h2t, rI_get h2t, hbj, hjn, rL_get hjn, bg0t, bg1t, bg2t, bg3f]) <;> exact rfl
  apply W_run
  · (simp only [go_sem, Try.ntmps46, rI_flat, bh0t, h0t, rL_get h0t, hb, bh1f, bh2t, h2t, rI_get h2t, hbj, hjn, rL_get hjn, bg0t, bg1t, bg2t, bg3f]) <;> exact rfl
  apply W_nil
  apply K_seq
  apply T_if
  · (simp only [go_sem, Try.ntmps46, rI_flat, bh0t, h0t, rL_get h0t, hb, bh1f, bh2t, h2t, rI_get h2t, hbj, hjn, rL_get hjn, bg0t, bg1t, bg2t, bg3f]) <;> exact rfl
  · intro bh4t
    have h4t := bh4t
    try simp only [CS] at h4t
    try simp only [BS] at bh4t
    try exact absurd bh4t (by decide)
    all_goals (
  apply T_seq
  apply T_r F
  · (simp only [go_sem, Try.ntmps46, rI_flat, bh0t, h0t, rL_get h0t, hb, bh1f, bh2t, h2t, rI_get h2t, hbj, hjn, rL_get hjn, bg0t, bg1t, bg2t, bg3f, bh4t]) <;> exact rfl
  apply K_seq
  apply T_ret
  apply K_blkR
  apply K_seqR
  apply K_lpR
  apply K_blkR
  apply K_blkR
  apply K_seqR
  apply K_lpR
  apply K_blkR
  apply K_seqR
  apply fin_ret
  · (simp only [go_sem, Try.ntmps46, rI_flat, bh0t, h0t, rL_get h0t, hb, bh1f, bh2t, h2t, rI_get h2t, hbj, hjn, rL_get hjn, bg0t, bg1t, bg2t, bg3f, bh4t, Try.f46]) <;> exact rfl
  -- leaf 3 (ret)
  simp only [go_sem, Try.ntmps46, rI_flat, bh0t, h0t, rL_get h0t, hb, bh1f, bh2t, h2t, rI_get h2t, hbj, hjn, rL_get hjn, bg0t, bg1t, bg2t, bg3f, bh4t, V.bool.injEq, V.int.injEq, true_and]
  grind)
  · intro bh4f
    exact absurd bh4f (by simp)))
  · intro bg2f
    have g2f := bg2f
    try simp only [CS] at g2f
    try simp only [BS] at bg2f
    try exact absurd bg2f (by decide)
    all_goals (
  apply W_pre [13, 14, 15, 16] [17, 18, 19, 20, 21, 22, 23, 24, 25, 26, 27, 28, 29, 30, 31, 32, 33]
  · (simp only [go_sem, Try.ntmps46, rI_flat, bh0t, h0t, rL_get h0t, hb, bh1f, bh2t, h2t, rI_get h2t, hbj, hjn, rL_get hjn, bg0t, bg1t, bg2f]) <;> exact rfl
  apply W_pre [17, 18, 19, 20] [21, 22, 23, 24, 25, 26, 27, 28, 29, 30, 31, 32, 33]
  · (simp only [go_sem, Try.ntmps46, rI_flat, bh0t, h0t, rL_get h0t, hb, bh1f, bh2t, h2t, rI_get h2t, hbj, hjn, rL_get hjn, bg0t, bg1t, bg2f]) <;> exact rfl
  apply W_pre [21, 22, 23, 24] [25, 26, 27, 28, 29, 30, 31, 32, 33]
  · (simp only [go_sem, Try.ntmps46, rI_flat, bh0t, h0t, rL_get h0t, hb, bh1f, bh2t, h2t, rI_get h2t, hbj, hjn, rL_get hjn, bg0t, bg1t, bg2f]) <;> exact rfl
  apply W_pre [25, 26, 27, 28] [29, 30, 31, 32, 33]
  · (simp only [go_sem, Try.ntmps46, rI_flat, bh0t, h0t, rL_get h0t, hb, bh1f, bh2t, h2t, rI_get h2t, hbj, hjn, rL_get hjn, bg0t, bg1t, bg2f]) <;> exact rfl
  apply W_run
  · (simp only [go_sem, Try.ntmps46, rI_flat, bh0t, h0t, rL_get h0t, hb, bh1f, bh2t, h2t, rI_get h2t, hbj, hjn, rL_get hjn, bg0t, bg1t, bg2f]) <;> exact rfl
  apply W_nil
  apply K_seq
  apply T_if
  · (simp only [go_sem, Try.ntmps46, rI_flat, bh0t, h0t, rL_get h0t, hb, bh1f, bh2t, h2t, rI_get h2t, hbj, hjn, rL_get hjn, bg0t, bg1t, bg2f]) <;> exact rfl
  · intro bh5t
    have h5t := bh5t
    try simp only [CS] at h5t
    try simp only [BS] at bh5t
    try exact absurd bh5t (by decide)
    all_goals (
  apply T_seq
  apply T_r F
  · (simp only [go_sem, Try.ntmps46, rI_flat, bh0t, h0t, rL_get h0t, hb, bh1f, bh2t, h2t, rI_get h2t, hbj, hjn, rL_get hjn, bg0t, bg1t, bg2f, bh5t]) <;> exact rfl
  apply K_seq
  apply T_ret
  apply K_blkR
  apply K_seqR
  apply K_lpR
  apply K_blkR
  apply K_blkR
  apply K_seqR
  apply K_lpR
  apply K_blkR
  apply K_seqR
  apply fin_ret
  · (simp only [go_sem, Try.ntmps46, rI_flat, bh0t, h0t, rL_get h0t, hb, bh1f, bh2t, h2t, rI_get h2t, hbj, hjn, rL_get hjn, bg0t, bg1t, bg2f, bh5t, Try.f46]) <;> exact rfl
  -- leaf 4 (ret)
  simp only [go_sem, Try.ntmps46, rI_flat, bh0t, h0t, rL_get h0t, hb, bh1f, bh2t, h2t, rI_get h2t, hbj, hjn, rL_get hjn, bg0t, bg1t, bg2f, bh5t, V.bool.injEq, V.int.injEq, true_and]
  grind)
  · intro bh5f
    exact absurd bh5f (by simp)))
  · intro bg1f
    have g1f := bg1f
    try simp only [CS] at g1f
    try simp only [BS] at bg1f
    try exact absurd bg1f (by decide)
    all_goals (
  apply W_pre [8, 9, 10, 11] [12, 13, 14, 15, 16, 17, 18, 19, 20, 21, 22, 23, 24, 25, 26, 27, 28, 29, 30, 31, 32, 33]
  · (simp only [go_sem, Try.ntmps46, rI_flat, bh0t, h0t, rL_get h0t, hb, bh1f, bh2t, h2t, rI_get h2t, hbj, hjn, rL_get hjn, bg0t, bg1f]) <;> exact rfl
  apply W_pre [12, 13, 14, 15] [16, 17, 18, 19, 20, 21, 22, 23, 24, 25, 26, 27, 28, 29, 30, 31, 32, 33]
  · (simp only [go_sem, Try.ntmps46, rI_flat, bh0t, h0t, rL_get h0t, hb, bh1f, bh2t, h2t, rI_get h2t, hbj, hjn, rL_get hjn, bg0t, bg1f]) <;> exact rfl
  apply W_pre [16, 17, 18, 19] [20, 21, 22, 23, 24, 25, 26, 27, 28, 29, 30, 31, 32, 33]
  · (simp only [go_sem, Try.ntmps46, rI_flat, bh0t, h0t, rL_get h0t, hb, bh1f, bh2t, h2t, rI_get h2t, hbj, hjn, rL_get hjn, bg0t, bg1f]) <;> exact rfl
  apply W_pre [20, 21, 22] [23, 24, 25, 26, 27, 28, 29, 30, 31, 32, 33]
  · (simp only [go_sem, Try.ntmps46, rI_flat, bh0t, h0t, rL_get h0t, hb, bh1f, bh2t, h2t, rI_get h2t, hbj, hjn, rL_get hjn, bg0t, bg1f]) <;> exact rfl
  apply W_guard
  · (simp only [go_sem, Try.ntmps46, rI_flat, bh0t, h0t, rL_get h0t, hb, bh1f, bh2t, h2t, rI_get h2t, hbj, hjn, rL_get hjn, bg0t, bg1f]) <;> exact rfl
  · (simp only [go_sem, Try.ntmps46, rI_flat, bh0t, h0t, rL_get h0t, hb, bh1f, bh2t, h2t, rI_get h2t, hbj, hjn, rL_get hjn, bg0t, bg1f]) <;> exact rfl
  · intro bg4t
    have g4t := bg4t
    try simp only [CS] at g4t
    try simp only [BS] at bg4t
    try exact absurd bg4t (by decide)
    all_goals (
  have r2 : i < (t.walk[j]).length := by omega
  have d2 := M.dist_nat hjn r2
  rw [d2] at hcu
  apply W_pre [23, 24, 25, 26] [27, 28, 29, 30, 31, 32, 33]
  · (simp only [go_sem, Try.ntmps46, rI_flat, bh0t, h0t, rL_get h0t, hb, bh1f, bh2t, h2t, rI_get h2t, hbj, hjn, rL_get hjn, bg0t, bg1f, bg4t, r2, rI_get r2]) <;> exact rfl
  apply W_pre [27, 28, 29, 30] [31, 32, 33]
  · (simp only [go_sem, Try.ntmps46, rI_flat, bh0t, h0t, rL_get h0t, hb, bh1f, bh2t, h2t, rI_get h2t, hbj, hjn, rL_get hjn, bg0t, bg1f, bg4t, r2, rI_get r2]) <;> exact rfl
  apply W_run
  · (simp only [go_sem, Try.ntmps46, rI_flat, bh0t, h0t, rL_get h0t, hb, bh1f, bh2t, h2t, rI_get h2t, hbj, hjn, rL_get hjn, bg0t, bg1f, bg4t, r2, rI_get r2]) <;> exact rfl
  apply W_nil
  apply K_seq
  apply T_if
  · (simp only [go_sem, Try.ntmps46, rI_flat, bh0t, h0t, rL_get h0t, hb, bh1f, bh2t, h2t, rI_get h2t, hbj, hjn, rL_get hjn, bg0t, bg1f, bg4t, r2, rI_get r2]) <;> exact rfl
  · intro bh6t
    have h6t := bh6t
    try simp only [CS] at h6t
    try simp only [BS] at bh6t
    try exact absurd bh6t (by decide)
    all_goals (
  apply T_seq
  apply T_r F
  · (simp only [go_sem, Try.ntmps46, rI_flat, bh0t, h0t, rL_get h0t, hb, bh1f, bh2t, h2t, rI_get h2t, hbj, hjn, rL_get hjn, bg0t, bg1f, bg4t, r2, rI_get r2, bh6t]) <;> exact rfl
  apply K_seq
  apply T_ret
  apply K_blkR
  apply K_seqR
  apply K_lpR
  apply K_blkR
  apply K_blkR
  apply K_seqR
  apply K_lpR
  apply K_blkR
  apply K_seqR
  apply fin_ret
  · (simp only [go_sem, Try.ntmps46, rI_flat, bh0t, h0t, rL_get h0t, hb, bh1f, bh2t, h2t, rI_get h2t, hbj, hjn, rL_get hjn, bg0t, bg1f, bg4t, r2, rI_get r2, bh6t, Try.f46]) <;> exact rfl
  -- leaf 5 (ret)
  simp only [go_sem, Try.ntmps46, rI_flat, bh0t, h0t, rL_get h0t, hb, bh1f, bh2t, h2t, rI_get h2t, hbj, hjn, rL_get hjn, bg0t, bg1f, bg4t, r2, rI_get r2, bh6t, V.bool.injEq, V.int.injEq, true_and]
  grind)
  · intro bh6f
    have h6f := bh6f
    try simp only [CS] at h6f
    try simp only [BS] at bh6f
    try exact absurd bh6f (by decide)
    all_goals (
  apply T_skip
  apply K_blk
  apply K_seq
  apply T_r F
  · (simp only [go_sem, Try.ntmps46, rI_flat, bh0t, h0t, rL_get h0t, hb, bh1f, bh2t, h2t, rI_get h2t, hbj, hjn, rL_get hjn, bg0t, bg1f, bg4t, r2, rI_get r2, bh6f]) <;> exact rfl
  refine K_lp (j + 1) ?_ ?_
  · (simp only [go_sem, Try.ntmps46, rI_flat, bh0t, h0t, rL_get h0t, hb, bh1f, bh2t, h2t, rI_get h2t, hbj, hjn, rL_get hjn, bg0t, bg1f, bg4t, r2, rI_get r2, bh6f]) <;> exact rfl
  -- leaf 6 (loop1)
  grind))
  · intro bg4f
    have g4f := bg4f
    try simp only [CS] at g4f
    try simp only [BS] at bg4f
    try exact absurd bg4f (by decide)
    all_goals (
  apply W_pre [23, 24, 25, 26] [27, 28, 29, 30, 31, 32, 33]
  · (simp only [go_sem, Try.ntmps46, rI_flat, bh0t, h0t, rL_get h0t, hb, bh1f, bh2t, h2t, rI_get h2t, hbj, hjn, rL_get hjn, bg0t, bg1f, bg4f]) <;> exact rfl
  apply W_pre [27, 28, 29, 30] [31, 32, 33]
  · (simp only [go_sem, Try.ntmps46, rI_flat, bh0t, h0t, rL_get h0t, hb, bh1f, bh2t, h2t, rI_get h2t, hbj, hjn, rL_get hjn, bg0t, bg1f, bg4f]) <;> exact rfl
  apply W_run
  · (simp only [go_sem, Try.ntmps46, rI_flat, bh0t, h0t, rL_get h0t, hb, bh1f, bh2t, h2t, rI_get h2t, hbj, hjn, rL_get hjn, bg0t, bg1f, bg4f]) <;> exact rfl
  apply W_nil
  apply K_seq
  apply T_if
  · (simp only [go_sem, Try.ntmps46, rI_flat, bh0t, h0t, rL_get h0t, hb, bh1f, bh2t, h2t, rI_get h2t, hbj, hjn, rL_get hjn, bg0t, bg1f, bg4f]) <;> exact rfl
  · intro bh7t
    have h7t := bh7t
    try simp only [CS] at h7t
    try simp only [BS] at bh7t
    try exact absurd bh7t (by decide)
    all_goals (
  apply T_seq
  apply T_r F
  · (simp only [go_sem, Try.ntmps46, rI_flat, bh0t, h0t, rL_get h0t, hb, bh1f, bh2t, h2t, rI_get h2t, hbj, hjn, rL_get hjn, bg0t, bg1f, bg4f, bh7t]) <;> exact rfl
  apply K_seq
  apply T_ret
  apply K_blkR
  apply K_seqR
  apply K_lpR
  apply K_blkR
  apply K_blkR
  apply K_seqR
  apply K_lpR
  apply K_blkR
  apply K_seqR
  apply fin_ret
  · (simp only [go_sem, Try.ntmps46, rI_flat, bh0t, h0t, rL_get h0t, hb, bh1f, bh2t, h2t, rI_get h2t, hbj, hjn, rL_get hjn, bg0t, bg1f, bg4f, bh7t, Try.f46]) <;> exact rfl
  -- leaf 7 (ret)
  simp only [go_sem, Try.ntmps46, rI_flat, bh0t, h0t, rL_get h0t, hb, bh1f, bh2t, h2t, rI_get h2t, hbj, hjn, rL_get hjn, bg0t, bg1f, bg4f, bh7t, V.bool.injEq, V.int.injEq, true_and]
  grind)
  · intro bh7f
    exact absurd bh7f (by simp))))
  · intro bg0f
    have g0f := bg0f
    try simp only [CS] at g0f
    try simp only [BS] at bg0f
    try exact absurd bg0f (by decide)
    all_goals (
  apply W_pre [4, 5, 6, 7] [8, 9, 10, 11, 12, 13, 14, 15, 16, 17, 18, 19, 20, 21, 22, 23, 24, 25, 26, 27, 28, 29, 30, 31, 32, 33]
  · (simp only [go_sem, Try.ntmps46, rI_flat, bh0t, h0t, rL_get h0t, hb, bh1f, bh2t, h2t, rI_get h2t, hbj, hjn, rL_get hjn, bg0f]) <;> exact rfl
  apply W_pre [8, 9, 10, 11] [12, 13, 14, 15, 16, 17, 18, 19, 20, 21, 22, 23, 24, 25, 26, 27, 28, 29, 30, 31, 32, 33]
  · (simp only [go_sem, Try.ntmps46, rI_flat, bh0t, h0t, rL_get h0t, hb, bh1f, bh2t, h2t, rI_get h2t, hbj, hjn, rL_get hjn, bg0f]) <;> exact rfl
  apply W_pre [12, 13, 14, 15] [16, 17, 18, 19, 20, 21, 22, 23, 24, 25, 26, 27, 28, 29, 30, 31, 32, 33]
  · (simp only [go_sem, Try.ntmps46, rI_flat, bh0t, h0t, rL_get h0t, hb, bh1f, bh2t, h2t, rI_get h2t, hbj, hjn, rL_get hjn, bg0f]) <;> exact rfl
  apply W_pre [16, 17, 18, 19] [20, 21, 22, 23, 24, 25, 26, 27, 28, 29, 30, 31, 32, 33]
  · (simp only [go_sem, Try.ntmps46, rI_flat, bh0t, h0t, rL_get h0t, hb, bh1f, bh2t, h2t, rI_get h2t, hbj, hjn, rL_get hjn, bg0f]) <;> exact rfl
  apply W_pre [20, 21, 22, 23] [24, 25, 26, 27, 28, 29, 30, 31, 32, 33]
  · (simp only [go_sem, Try.ntmps46, rI_flat, bh0t, h0t, rL_get h0t, hb, bh1f, bh2t, h2t, rI_get h2t, hbj, hjn, rL_get hjn, bg0f]) <;> exact rfl
  apply W_pre [24, 25, 26, 27] [28, 29, 30, 31, 32, 33]
  · (simp only [go_sem, Try.ntmps46, rI_flat, bh0t, h0t, rL_get h0t, hb, bh1f, bh2t, h2t, rI_get h2t, hbj, hjn, rL_get hjn, bg0f]) <;> exact rfl
  apply W_run
  · (simp only [go_sem, Try.ntmps46, rI_flat, bh0t, h0t, rL_get h0t, hb, bh1f, bh2t, h2t, rI_get h2t, hbj, hjn, rL_get hjn, bg0f]) <;> exact rfl
  apply W_nil
  apply K_seq
  apply T_if
  · (simp only [go_sem, Try.ntmps46, rI_flat, bh0t, h0t, rL_get h0t, hb, bh1f, bh2t, h2t, rI_get h2t, hbj, hjn, rL_get hjn, bg0f]) <;> exact rfl
  · intro bh8t
    have h8t := bh8t
    try simp only [CS] at h8t
    try simp only [BS] at bh8t
    try exact absurd bh8t (by decide)
    all_goals (
  apply T_seq
  apply T_r F
  · (simp only [go_sem, Try.ntmps46, rI_flat, bh0t, h0t, rL_get h0t, hb, bh1f, bh2t, h2t, rI_get h2t, hbj, hjn, rL_get hjn, bg0f, bh8t]) <;> exact rfl
  apply K_seq
  apply T_ret
  apply K_blkR
  apply K_seqR
  apply K_lpR
  apply K_blkR
  apply K_blkR
  apply K_seqR
  apply K_lpR
  apply K_blkR
  apply K_seqR
  apply fin_ret
  · (simp only [go_sem, Try.ntmps46, rI_flat, bh0t, h0t, rL_get h0t, hb, bh1f, bh2t, h2t, rI_get h2t, hbj, hjn, rL_get hjn, bg0f, bh8t, Try.f46]) <;> exact rfl
  -- leaf 8 (ret)
  simp only [go_sem, Try.ntmps46, rI_flat, bh0t, h0t, rL_get h0t, hb, bh1f, bh2t, h2t, rI_get h2t, hbj, hjn, rL_get hjn, bg0f, bh8t, V.bool.injEq, V.int.injEq, true_and]
  grind)
  · intro bh8f
    exact absurd bh8f (by simp)))
    · intro bh2f
      have h2f := bh2f
      try simp only [CS] at h2f
      try simp only [BS] at bh2f
      try exact absurd bh2f (by decide)
      all_goals (
  apply T_exit
  apply K_seqE
  apply K_lpE
  apply K_blkE
  apply K_blk
  apply K_seq
  apply T_r F
  · (simp only [go_sem, Try.ntmps46, rI_flat, bh0t, h0t, rL_get h0t, hb, bh1f, bh2f]) <;> exact rfl
  refine K_lp (i + 1) ?_ ?_
  · (simp only [go_sem, Try.ntmps46, rI_flat, bh0t, h0t, rL_get h0t, hb, bh1f, bh2f]) <;> exact rfl
  -- leaf 9 (loop0)
  grind [M.RowOk])))
    · intro bh0f
      have h0f := bh0f
      try simp only [CS] at h0f
      try simp only [BS] at bh0f
      try exact absurd bh0f (by decide)
      all_goals (
  have hrows : ∀ a, a < t.walk.length → M.RowOk t a := fun a ha => hia a (by omega)
  apply T_exit
  apply K_seqE
  apply K_lpE
  apply K_blkE
  apply K_seq
  apply T_seq
  apply T_r F
  · (simp only [go_sem, Try.ntmps46, rI_flat, bh0f]) <;> exact rfl
  apply K_seq
  apply T_seq
  apply T_seq
  apply T_r F
  · (simp only [go_sem, Try.ntmps46, rI_flat, bh0f]) <;> exact rfl
  apply K_seq
  apply T_block
  apply T_ghost (d := 8) (T := 3) (sz := 1)
  · (simp only [go_sem, Try.ntmps46, rI_flat, bh0f]) <;> exact rfl
  apply T_lp (α := Nat) [false, true, false, true, false, false, false, false, true, false, false, false, false, false, false, false, false, false, false, false, false, false, false, false, false, false, false, false, false, false, false, false, false, false, false, false, false, false, false, false, false, false, false, false, false, false, false, false, false, false, false, false, false, false, false, false, false, false, false, false, false, false, false, false, false, false, false, false, false, false, true, true, true, false, false, false, false, false, false, false, false, false, false, false, false, false, false, false, false, false, false, false, false, false, false, false, false, false, false, false, false, false, false, false, false, false, false, false, false, false, false, false, false, false, false, false, false, false, false, false, false, false, false, false, false, false, false, false, false, false, false, false, false, false, false, false] (fun k => (⟨[.undef, .ptr 0 0, .undef, .int .i64 (t.walk.length : Int), .undef, .undef, .undef, .undef, .arr 1 k, .undef, .undef, .undef, .undef, .undef, .undef, .undef, .undef, .undef, .undef, .undef, .undef, .undef, .undef, .undef, .undef, .undef, .undef, .undef, .undef, .undef, .undef, .undef, .undef, .undef, .undef, .undef, .undef, .undef, .undef, .undef, .undef, .undef, .undef, .undef, .undef, .undef, .undef, .undef, .undef, .undef, .undef, .undef, .undef, .undef, .undef, .undef, .undef, .undef, .undef, .undef, .undef, .undef, .undef, .undef, .undef, .undef, .undef, .undef, .undef, .undef, .sl 3 (rH t.houses), .int .i64 (t.houses.length : Int), .int .i64 (k : Int), .undef, .undef, .undef, .undef, .undef, .undef, .undef, .undef, .undef, .undef, .undef, .undef, .undef, .undef, .undef, .undef, .undef, .undef, .undef, .undef, .undef, .undef, .undef, .undef, .undef, .undef, .undef, .undef, .undef, .undef, .undef, .undef, .undef, .undef, .undef, .undef, .undef, .undef, .undef, .undef, .undef, .undef, .undef, .undef, .undef, .undef, .undef, .undef, .undef, .undef, .undef, .undef, .undef, .undef, .undef, .undef, .undef, .undef, .undef, .undef, .undef, .undef, .undef], [.box 28 (cT t), .arr 3 1 (rI ((M.now t).take k)) false]⟩ : St)) (fun k => k ≤ t.houses.length ∧ ∀ a, a < k → M.different (M.hs t a).wishes t.walk.length = true) (fun k => t.houses.length - k) (0)
  · (simp only [go_sem, Try.ntmps46, rI_flat, bh0f]) <;> exact rfl
  · simp
  · rintro k ⟨hk, hka⟩
    have hlen : ((M.now t).take k).length = k := by simp [M.now]; omega
    apply T_seq
    apply T_r F
    · (simp only [go_sem, Try.ntmps46, rI_flat, bh0f, hlen]) <;> exact rfl
    apply K_seq
    apply T_seq
    apply T_if
    · (simp only [go_sem, Try.ntmps46, rI_flat, bh0f, hlen]) <;> exact rfl
    · intro bh9t
      have h9t := bh9t
      try simp only [CS] at h9t
      try simp only [BS] at bh9t
      try exact absurd bh9t (by decide)
      all_goals (
  have hbk : k < 9223372036854775807 := by omega
  have hcap : (k + 1) * 8 ≤ 140737488355328 := by omega
  have hnow := M.now_step t h9t
  have hsk := M.hs_get h9t
  have hwk := fun ok : M.Ok t => M.ok_wishes ok k h9t
  apply T_skip
  apply K_seq
  apply T_seq
  apply T_block
  apply T_seq
  apply T_r F
  · (simp only [go_sem, Try.ntmps46, rI_flat, bh0f, hlen, bh9t, h9t, rH_get h9t, hbk, hcap, hnow]) <;> exact rfl
  apply K_seq
  apply T_seq
  apply T_r F
  · (simp only [go_sem, Try.ntmps46, rI_flat, bh0f, hlen, bh9t, h9t, rH_get h9t, hbk, hcap, hnow]) <;> exact rfl
  apply K_seq
  apply T_seq
  apply T_wL F [0, 1, 2, 3, 4] rfl
  apply W_pre [0, 1, 2] [3, 4]
  · (simp only [go_sem, Try.ntmps46, rI_flat, bh0f, hlen, bh9t, h9t, rH_get h9t, hbk, hcap, hnow]) <;> exact rfl
  apply W_call -- call 1 of function 71
  · (simp only [go_sem, Try.ntmps46, rI_flat, bh0f, hlen, bh9t, h9t, rH_get h9t, hbk, hcap, hnow]) <;> exact rfl
  · (simp only [go_sem, Try.ntmps46, rI_flat, bh0f, hlen, bh9t, h9t, rH_get h9t, hbk, hcap, hnow]) <;> exact rfl
  · exact rfl
  · (simp only [go_sem, Try.ntmps46, rI_flat, bh0f, hlen, bh9t, h9t, rH_get h9t, hbk, hcap, hnow]) <;> exact rfl
  · (simp only [go_sem, Try.ntmps46, rI_flat, bh0f, hlen, bh9t, h9t, rH_get h9t, hbk, hcap, hnow]) <;> exact rfl
  · exact ⟨_, Try.func71, rfl, rfl⟩
  · (simp only [go_sem, Try.ntmps46, rI_flat, bh0f, hlen, bh9t, h9t, rH_get h9t, hbk, hcap, hnow]) <;> exact rfl
  · (simp only [go_sem, Try.ntmps46, rI_flat, bh0f, hlen, bh9t, h9t, rH_get h9t, hbk, hcap, hnow]) <;> exact rfl
  · exact mv_different _ _ (by omega)
  apply W_run
  · (simp only [go_sem, Try.ntmps46, rI_flat, bh0f, hlen, bh9t, h9t, rH_get h9t, hbk, hcap, hnow]) <;> exact rfl
  apply W_nil
  apply K_seq
  apply T_if
  · (simp only [go_sem, Try.ntmps46, rI_flat, bh0f, hlen, bh9t, h9t, rH_get h9t, hbk, hcap, hnow]) <;> exact rfl
  · intro bh10t
    have h10t := bh10t
    try simp only [CS] at h10t
    try simp only [BS] at bh10t
    try exact absurd bh10t (by decide)
    all_goals (
  apply T_seq
  apply T_r F
  · (simp only [go_sem, Try.ntmps46, rI_flat, bh0f, hlen, bh9t, h9t, rH_get h9t, hbk, hcap, hnow, bh10t]) <;> exact rfl
  apply K_seq
  apply T_ret
  apply K_blkR
  apply K_seqR
  apply K_lpR
  apply K_blkR
  apply K_seqR
  apply fin_ret
  · (simp only [go_sem, Try.ntmps46, rI_flat, bh0f, hlen, bh9t, h9t, rH_get h9t, hbk, hcap, hnow, bh10t, Try.f46]) <;> exact rfl
  -- leaf 10 (ret)
  simp only [go_sem, Try.ntmps46, rI_flat, bh0f, hlen, bh9t, h9t, rH_get h9t, hbk, hcap, hnow, bh10t, V.bool.injEq, V.int.injEq, true_and]
  grind)
  · intro bh10f
    have h10f := bh10f
    try simp only [CS] at h10f
    try simp only [BS] at bh10f
    try exact absurd bh10f (by decide)
    all_goals (
  apply T_skip
  apply K_blk
  apply K_seq
  apply T_r F
  · (simp only [go_sem, Try.ntmps46, rI_flat, bh0f, hlen, bh9t, h9t, rH_get h9t, hbk, hcap, hnow, bh10f]) <;> exact rfl
  refine K_lpc (k + 1) 2 (Nat.zero_le _) ?_ ?_ ?_ ?_ ?_
  · (simp only [go_sem, Try.ntmps46, rI_flat, bh0f, hlen, bh9t, h9t, rH_get h9t, hbk, hcap, hnow, bh10f]) <;> decide
  · (simp only [go_sem, Try.ntmps46, rI_flat, bh0f, hlen, bh9t, h9t, rH_get h9t, hbk, hcap, hnow, bh10f, Nat.reduceLT, decide_true, Nat.zero_lt_one, Nat.zero_lt_succ]) <;> rfl
  · (simp only [go_sem, Try.ntmps46, rI_flat, bh0f, hlen, bh9t, h9t, rH_get h9t, hbk, hcap, hnow, bh10f, Nat.reduceLT, decide_true, Nat.zero_lt_one, Nat.zero_lt_succ]) <;> rfl
  · (simp only [go_sem, Try.ntmps46, rI_flat, bh0f, hlen, bh9t, h9t, rH_get h9t, hbk, hcap, hnow, bh10f]) <;> exact rfl
  -- leaf 11 (loop2)
  grind))
    · intro bh9f
      have h9f := bh9f
      try simp only [CS] at h9f
      try simp only [BS] at bh9f
      try exact absurd bh9f (by decide)
      all_goals (
  have htk : (M.now t).take k = M.now t := List.take_of_length_le (by simp [M.now]; omega)
  have hnl : (M.now t).length = k := by simp [M.now]; omega
  have hval := M.ok_valid hrows (fun a ha => hka a (by omega))
  apply T_exit
  apply K_seqE
  apply K_lpE
  apply K_blkE
  apply K_seq
  apply T_seq
  apply T_wL F [0, 1, 2, 3, 4, 5, 6, 7, 8, 9, 10, 11, 12, 13, 14, 15, 16, 17, 18, 19, 20, 21, 22, 23, 24, 25, 26, 27, 28, 29, 30, 31, 32, 33, 34, 35, 36, 37, 38, 39, 40, 41, 42, 43, 44, 45, 46, 47, 48, 49] rfl
  apply W_pre [0] [1, 2, 3, 4, 5, 6, 7, 8, 9, 10, 11, 12, 13, 14, 15, 16, 17, 18, 19, 20, 21, 22, 23, 24, 25, 26, 27, 28, 29, 30, 31, 32, 33, 34, 35, 36, 37, 38, 39, 40, 41, 42, 43, 44, 45, 46, 47, 48, 49]
  · (simp only [go_sem, Try.ntmps46, rI_flat, bh0f, hlen, bh9f, htk, hnl]) <;> exact rfl
  apply W_call -- call 2 of function 70
  · (simp only [go_sem, Try.ntmps46, rI_flat, bh0f, hlen, bh9f, htk, hnl]) <;> exact rfl
  · (simp only [go_sem, Try.ntmps46, rI_flat, bh0f, hlen, bh9f, htk, hnl]) <;> exact rfl
  · exact rfl
  · (simp only [go_sem, Try.ntmps46, rI_flat, bh0f, hlen, bh9f, htk, hnl]) <;> exact rfl
  · (simp only [go_sem, Try.ntmps46, rI_flat, bh0f, hlen, bh9f, htk, hnl]) <;> exact rfl
  · exact ⟨_, Try.func70, rfl, rfl⟩
  · (simp only [go_sem, Try.ntmps46, rI_flat, bh0f, hlen, bh9f, htk, hnl]) <;> exact rfl
  · (simp only [go_sem, Try.ntmps46, rI_flat, bh0f, hlen, bh9f, htk, hnl]) <;> exact rfl
  · exact mv_in _ _ _
  apply W_pre [2] [3, 4, 5, 6, 7, 8, 9, 10, 11, 12, 13, 14, 15, 16, 17, 18, 19, 20, 21, 22, 23, 24, 25, 26, 27, 28, 29, 30, 31, 32, 33, 34, 35, 36, 37, 38, 39, 40, 41, 42, 43, 44, 45, 46, 47, 48, 49]
  · (simp only [go_sem, Try.ntmps46, rI_flat, bh0f, hlen, bh9f, htk, hnl]) <;> exact rfl
  apply W_guard
  · (simp only [go_sem, Try.ntmps46, rI_flat, bh0f, hlen, bh9f, htk, hnl]) <;> exact rfl
  · (simp only [go_sem, Try.ntmps46, rI_flat, bh0f, hlen, bh9f, htk, hnl]) <;> exact rfl
  · intro bg5t
    have g5t := bg5t
    try simp only [CS] at g5t
    try simp only [BS] at bg5t
    try exact absurd bg5t (by decide)
    all_goals (
  apply W_pre [3, 4] [5, 6, 7, 8, 9, 10, 11, 12, 13, 14, 15, 16, 17, 18, 19, 20, 21, 22, 23, 24, 25, 26, 27, 28, 29, 30, 31, 32, 33, 34, 35, 36, 37, 38, 39, 40, 41, 42, 43, 44, 45, 46, 47, 48, 49]
  · (simp only [go_sem, Try.ntmps46, rI_flat, bh0f, hlen, bh9f, htk, hnl, bg5t]) <;> exact rfl
  apply W_call -- call 3 of function 70
  · (simp only [go_sem, Try.ntmps46, rI_flat, bh0f, hlen, bh9f, htk, hnl, bg5t]) <;> exact rfl
  · (simp only [go_sem, Try.ntmps46, rI_flat, bh0f, hlen, bh9f, htk, hnl, bg5t]) <;> exact rfl
  · exact rfl
  · (simp only [go_sem, Try.ntmps46, rI_flat, bh0f, hlen, bh9f, htk, hnl, bg5t]) <;> exact rfl
  · (simp only [go_sem, Try.ntmps46, rI_flat, bh0f, hlen, bh9f, htk, hnl, bg5t]) <;> exact rfl
  · exact ⟨_, Try.func70, rfl, rfl⟩
  · (simp only [go_sem, Try.ntmps46, rI_flat, bh0f, hlen, bh9f, htk, hnl, bg5t]) <;> exact rfl
  · (simp only [go_sem, Try.ntmps46, rI_flat, bh0f, hlen, bh9f, htk, hnl, bg5t]) <;> exact rfl
  · exact mv_in _ _ _
  apply W_pre [6, 7] [8, 9, 10, 11, 12, 13, 14, 15, 16, 17, 18, 19, 20, 21, 22, 23, 24, 25, 26, 27, 28, 29, 30, 31, 32, 33, 34, 35, 36, 37, 38, 39, 40, 41, 42, 43, 44, 45, 46, 47, 48, 49]
  · (simp only [go_sem, Try.ntmps46, rI_flat, bh0f, hlen, bh9f, htk, hnl, bg5t]) <;> exact rfl
  apply W_guard
  · (simp only [go_sem, Try.ntmps46, rI_flat, bh0f, hlen, bh9f, htk, hnl, bg5t]) <;> exact rfl
  · (simp only [go_sem, Try.ntmps46, rI_flat, bh0f, hlen, bh9f, htk, hnl, bg5t]) <;> exact rfl
  · intro bg6t
    have g6t := bg6t
    try simp only [CS] at g6t
    try simp only [BS] at bg6t
    try exact absurd bg6t (by decide)
    all_goals (
  apply W_pre [8, 9, 10] [11, 12, 13, 14, 15, 16, 17, 18, 19, 20, 21, 22, 23, 24, 25, 26, 27, 28, 29, 30, 31, 32, 33, 34, 35, 36, 37, 38, 39, 40, 41, 42, 43, 44, 45, 46, 47, 48, 49]
  · (simp only [go_sem, Try.ntmps46, rI_flat, bh0f, hlen, bh9f, htk, hnl, bg5t, bg6t]) <;> exact rfl
  apply W_call -- call 4 of function 71
  · (simp only [go_sem, Try.ntmps46, rI_flat, bh0f, hlen, bh9f, htk, hnl, bg5t, bg6t]) <;> exact rfl
  · (simp only [go_sem, Try.ntmps46, rI_flat, bh0f, hlen, bh9f, htk, hnl, bg5t, bg6t]) <;> exact rfl
  · exact rfl
  · (simp only [go_sem, Try.ntmps46, rI_flat, bh0f, hlen, bh9f, htk, hnl, bg5t, bg6t]) <;> exact rfl
  · (simp only [go_sem, Try.ntmps46, rI_flat, bh0f, hlen, bh9f, htk, hnl, bg5t, bg6t]) <;> exact rfl
  · exact ⟨_, Try.func71, rfl, rfl⟩
  · (simp only [go_sem, Try.ntmps46, rI_flat, bh0f, hlen, bh9f, htk, hnl, bg5t, bg6t]) <;> exact rfl
  · (simp only [go_sem, Try.ntmps46, rI_flat, bh0f, hlen, bh9f, htk, hnl, bg5t, bg6t]) <;> exact rfl
  · exact mv_different _ _ (by omega)
  apply W_pre [12, 13] [14, 15, 16, 17, 18, 19, 20, 21, 22, 23, 24, 25, 26, 27, 28, 29, 30, 31, 32, 33, 34, 35, 36, 37, 38, 39, 40, 41, 42, 43, 44, 45, 46, 47, 48, 49]
  · (simp only [go_sem, Try.ntmps46, rI_flat, bh0f, hlen, bh9f, htk, hnl, bg5t, bg6t]) <;> exact rfl
  apply W_guard
  · (simp only [go_sem, Try.ntmps46, rI_flat, bh0f, hlen, bh9f, htk, hnl, bg5t, bg6t]) <;> exact rfl
  · (simp only [go_sem, Try.ntmps46, rI_flat, bh0f, hlen, bh9f, htk, hnl, bg5t, bg6t]) <;> exact rfl
  · intro bg7t
    have g7t := bg7t
    try simp only [CS] at g7t
    try simp only [BS] at bg7t
    try exact absurd bg7t (by decide)
    all_goals (
  apply W_pre [14, 15] [16, 17, 18, 19, 20, 21, 22, 23, 24, 25, 26, 27, 28, 29, 30, 31, 32, 33, 34, 35, 36, 37, 38, 39, 40, 41, 42, 43, 44, 45, 46, 47, 48, 49]
  · (simp only [go_sem, Try.ntmps46, rI_flat, bh0f, hlen, bh9f, htk, hnl, bg5t, bg6t, bg7t]) <;> exact rfl
  apply W_call -- call 5 of function 72
  · (simp only [go_sem, Try.ntmps46, rI_flat, bh0f, hlen, bh9f, htk, hnl, bg5t, bg6t, bg7t]) <;> exact rfl
  · (simp only [go_sem, Try.ntmps46, rI_flat, bh0f, hlen, bh9f, htk, hnl, bg5t, bg6t, bg7t]) <;> exact rfl
  · exact rfl
  · (simp only [go_sem, Try.ntmps46, rI_flat, bh0f, hlen, bh9f, htk, hnl, bg5t, bg6t, bg7t]) <;> exact rfl
  · (simp only [go_sem, Try.ntmps46, rI_flat, bh0f, hlen, bh9f, htk, hnl, bg5t, bg6t, bg7t]) <;> exact rfl
  · exact ⟨_, Try.func72, rfl, rfl⟩
  · (simp only [go_sem, Try.ntmps46, rI_flat, bh0f, hlen, bh9f, htk, hnl, bg5t, bg6t, bg7t]) <;> exact rfl
  · (simp only [go_sem, Try.ntmps46, rI_flat, bh0f, hlen, bh9f, htk, hnl, bg5t, bg6t, bg7t]) <;> exact rfl
  · exact sl_sorted _
  apply W_pre [17, 18] [19, 20, 21, 22, 23, 24, 25, 26, 27, 28, 29, 30, 31, 32, 33, 34, 35, 36, 37, 38, 39, 40, 41, 42, 43, 44, 45, 46, 47, 48, 49]
  · (simp only [go_sem, Try.ntmps46, rI_flat, bh0f, hlen, bh9f, htk, hnl, bg5t, bg6t, bg7t]) <;> exact rfl
  apply W_guard
  · (simp only [go_sem, Try.ntmps46, rI_flat, bh0f, hlen, bh9f, htk, hnl, bg5t, bg6t, bg7t]) <;> exact rfl
  · (simp only [go_sem, Try.ntmps46, rI_flat, bh0f, hlen, bh9f, htk, hnl, bg5t, bg6t, bg7t]) <;> exact rfl
  · intro bg8t
    have g8t := bg8t
    try simp only [CS] at g8t
    try simp only [BS] at bg8t
    try exact absurd bg8t (by decide)
    all_goals (
  apply W_pre [19, 20, 21, 22] [23, 24, 25, 26, 27, 28, 29, 30, 31, 32, 33, 34, 35, 36, 37, 38, 39, 40, 41, 42, 43, 44, 45, 46, 47, 48, 49]
  · (simp only [go_sem, Try.ntmps46, rI_flat, bh0f, hlen, bh9f, htk, hnl, bg5t, bg6t, bg7t, bg8t]) <;> exact rfl
  apply W_pre [23, 24, 25] [26, 27, 28, 29, 30, 31, 32, 33, 34, 35, 36, 37, 38, 39, 40, 41, 42, 43, 44, 45, 46, 47, 48, 49]
  · (simp only [go_sem, Try.ntmps46, rI_flat, bh0f, hlen, bh9f, htk, hnl, bg5t, bg6t, bg7t, bg8t]) <;> exact rfl
  apply W_guard
  · (simp only [go_sem, Try.ntmps46, rI_flat, bh0f, hlen, bh9f, htk, hnl, bg5t, bg6t, bg7t, bg8t]) <;> exact rfl
  · (simp only [go_sem, Try.ntmps46, rI_flat, bh0f, hlen, bh9f, htk, hnl, bg5t, bg6t, bg7t, bg8t]) <;> exact rfl
  · intro bg9t
    have g9t := bg9t
    try simp only [CS] at g9t
    try simp only [BS] at bg9t
    try exact absurd bg9t (by decide)
    all_goals (
  apply W_pre [26, 27, 28] [29, 30, 31, 32, 33, 34, 35, 36, 37, 38, 39, 40, 41, 42, 43, 44, 45, 46, 47, 48, 49]
  · (simp only [go_sem, Try.ntmps46, rI_flat, bh0f, hlen, bh9f, htk, hnl, bg5t, bg6t, bg7t, bg8t, bg9t]) <;> exact rfl
  apply W_call -- call 6 of function 70
  · (simp only [go_sem, Try.ntmps46, rI_flat, bh0f, hlen, bh9f, htk, hnl, bg5t, bg6t, bg7t, bg8t, bg9t]) <;> exact rfl
  · (simp only [go_sem, Try.ntmps46, rI_flat, bh0f, hlen, bh9f, htk, hnl, bg5t, bg6t, bg7t, bg8t, bg9t]) <;> exact rfl
  · exact rfl
  · (simp only [go_sem, Try.ntmps46, rI_flat, bh0f, hlen, bh9f, htk, hnl, bg5t, bg6t, bg7t, bg8t, bg9t]) <;> exact rfl
  · (simp only [go_sem, Try.ntmps46, rI_flat, bh0f, hlen, bh9f, htk, hnl, bg5t, bg6t, bg7t, bg8t, bg9t]) <;> exact rfl
  · exact ⟨_, Try.func70, rfl, rfl⟩
  · (simp only [go_sem, Try.ntmps46, rI_flat, bh0f, hlen, bh9f, htk, hnl, bg5t, bg6t, bg7t, bg8t, bg9t]) <;> exact rfl
  · (simp only [go_sem, Try.ntmps46, rI_flat, bh0f, hlen, bh9f, htk, hnl, bg5t, bg6t, bg7t, bg8t, bg9t]) <;> exact rfl
  · exact mv_in _ _ _
  apply W_pre [30, 31] [32, 33, 34, 35, 36, 37, 38, 39, 40, 41, 42, 43, 44, 45, 46, 47, 48, 49]
  · (simp only [go_sem, Try.ntmps46, rI_flat, bh0f, hlen, bh9f, htk, hnl, bg5t, bg6t, bg7t, bg8t, bg9t]) <;> exact rfl
  apply W_guard
  · (simp only [go_sem, Try.ntmps46, rI_flat, bh0f, hlen, bh9f, htk, hnl, bg5t, bg6t, bg7t, bg8t, bg9t]) <;> exact rfl
  · (simp only [go_sem, Try.ntmps46, rI_flat, bh0f, hlen, bh9f, htk, hnl, bg5t, bg6t, bg7t, bg8t, bg9t]) <;> exact rfl
  · intro bg10t
    have g10t := bg10t
    try simp only [CS] at g10t
    try simp only [BS] at bg10t
    try exact absurd bg10t (by decide)
    all_goals (
  apply W_pre [32, 33] [34, 35, 36, 37, 38, 39, 40, 41, 42, 43, 44, 45, 46, 47, 48, 49]
  · (simp only [go_sem, Try.ntmps46, rI_flat, bh0f, hlen, bh9f, htk, hnl, bg5t, bg6t, bg7t, bg8t, bg9t, bg10t]) <;> exact rfl
  apply W_call -- call 7 of function 71
  · (simp only [go_sem, Try.ntmps46, rI_flat, bh0f, hlen, bh9f, htk, hnl, bg5t, bg6t, bg7t, bg8t, bg9t, bg10t]) <;> exact rfl
  · (simp only [go_sem, Try.ntmps46, rI_flat, bh0f, hlen, bh9f, htk, hnl, bg5t, bg6t, bg7t, bg8t, bg9t, bg10t]) <;> exact rfl
  · exact rfl
  · (simp only [go_sem, Try.ntmps46, rI_flat, bh0f, hlen, bh9f, htk, hnl, bg5t, bg6t, bg7t, bg8t, bg9t, bg10t]) <;> exact rfl
  · (simp only [go_sem, Try.ntmps46, rI_flat, bh0f, hlen, bh9f, htk, hnl, bg5t, bg6t, bg7t, bg8t, bg9t, bg10t]) <;> exact rfl
  · exact ⟨_, Try.func71, rfl, rfl⟩
  · (simp only [go_sem, Try.ntmps46, rI_flat, bh0f, hlen, bh9f, htk, hnl, bg5t, bg6t, bg7t, bg8t, bg9t, bg10t]) <;> exact rfl
  · (simp only [go_sem, Try.ntmps46, rI_flat, bh0f, hlen, bh9f, htk, hnl, bg5t, bg6t, bg7t, bg8t, bg9t, bg10t]) <;> exact rfl
  · exact mv_different _ _ (by omega)
  apply W_pre [35, 36] [37, 38, 39, 40, 41, 42, 43, 44, 45, 46, 47, 48, 49]
  · (simp only [go_sem, Try.ntmps46, rI_flat, bh0f, hlen, bh9f, htk, hnl, bg5t, bg6t, bg7t, bg8t, bg9t, bg10t]) <;> exact rfl
  apply W_guard
  · (simp only [go_sem, Try.ntmps46, rI_flat, bh0f, hlen, bh9f, htk, hnl, bg5t, bg6t, bg7t, bg8t, bg9t, bg10t]) <;> exact rfl
  · (simp only [go_sem, Try.ntmps46, rI_flat, bh0f, hlen, bh9f, htk, hnl, bg5t, bg6t, bg7t, bg8t, bg9t, bg10t]) <;> exact rfl
  · intro bg11t
    have g11t := bg11t
    try simp only [CS] at g11t
    try simp only [BS] at bg11t
    try exact absurd bg11t (by decide)
    all_goals (
  apply W_pre [37, 38, 39, 40, 41, 42] [43, 44, 45, 46, 47, 48, 49]
  · (simp only [go_sem, Try.ntmps46, rI_flat, bh0f, hlen, bh9f, htk, hnl, bg5t, bg6t, bg7t, bg8t, bg9t, bg10t, bg11t]) <;> exact rfl
  apply W_guard
  · (simp only [go_sem, Try.ntmps46, rI_flat, bh0f, hlen, bh9f, htk, hnl, bg5t, bg6t, bg7t, bg8t, bg9t, bg10t, bg11t]) <;> exact rfl
  · (simp only [go_sem, Try.ntmps46, rI_flat, bh0f, hlen, bh9f, htk, hnl, bg5t, bg6t, bg7t, bg8t, bg9t, bg10t, bg11t]) <;> exact rfl
  · intro bg12t
    have g12t := bg12t
    try simp only [CS] at g12t
    try simp only [BS] at bg12t
    try exact absurd bg12t (by decide)
    all_goals (
  have hkf := M.kins_first t
  apply W_pre [43, 44, 45] [46, 47, 48, 49]
  · (simp only [go_sem, Try.ntmps46, rI_flat, bh0f, hlen, bh9f, htk, hnl, bg5t, bg6t, bg7t, bg8t, bg9t, bg10t, bg11t, bg12t]) <;> exact rfl
  apply W_callS -- call 8
  · (simp only [go_sem, Try.ntmps46, rI_flat, bh0f, hlen, bh9f, htk, hnl, bg5t, bg6t, bg7t, bg8t, bg9t, bg10t, bg11t, bg12t]) <;> exact rfl
  · (simp only [go_sem, Try.ntmps46, rI_flat, bh0f, hlen, bh9f, htk, hnl, bg5t, bg6t, bg7t, bg8t, bg9t, bg10t, bg11t, bg12t]) <;> exact rfl
  · exact rfl
  · (simp only [go_sem, Try.ntmps46, rI_flat, bh0f, hlen, bh9f, htk, hnl, bg5t, bg6t, bg7t, bg8t, bg9t, bg10t, bg11t, bg12t]) <;> exact rfl
  · (simp only [go_sem, Try.ntmps46, rI_flat, bh0f, hlen, bh9f, htk, hnl, bg5t, bg6t, bg7t, bg8t, bg9t, bg10t, bg11t, bg12t]) <;> exact rfl
  · exact ⟨_, Try.func73, rfl, rfl⟩
  · exact sl_containsFuncP t.kin [.box 28 (cT t), .arr 3 1 (rI (M.now t)) true] 74 [] [.ptr 0 0] (fun k => !M.kinB t (M.kn t k).1 (M.kn t k).2) (closed_T t _ true) ⟨_, Try.func74, rfl, rfl⟩ hlk (fun k hk => by rw [M.kn_get hk]; exact mv_valid1 t [.box 28 (cT t), .arr 3 1 (rI (M.now t)) true] 0 (closed_T t _ true) rfl hh _ _)
  apply W_run
  · (simp only [go_sem, Try.ntmps46, rI_flat, bh0f, hlen, bh9f, htk, hnl, bg5t, bg6t, bg7t, bg8t, bg9t, bg10t, bg11t, bg12t]) <;> exact rfl
  apply W_nil
  apply K_seq
  apply T_ret
  apply fin_ret
  · (simp only [go_sem, Try.ntmps46, rI_flat, bh0f, hlen, bh9f, htk, hnl, bg5t, bg6t, bg7t, bg8t, bg9t, bg10t, bg11t, bg12t, Try.f46]) <;> exact rfl
  -- leaf 12 (ret)
  simp only [go_sem, Try.ntmps46, rI_flat, bh0f, hlen, bh9f, htk, hnl, bg5t, bg6t, bg7t, bg8t, bg9t, bg10t, bg11t, bg12t, V.bool.injEq, V.int.injEq, true_and]
  grind)
  · intro bg12f
    have g12f := bg12f
    try simp only [CS] at g12f
    try simp only [BS] at bg12f
    try exact absurd bg12f (by decide)
    all_goals (
  apply W_pre [43, 44, 45, 46] [47, 48, 49]
  · (simp only [go_sem, Try.ntmps46, rI_flat, bh0f, hlen, bh9f, htk, hnl, bg5t, bg6t, bg7t, bg8t, bg9t, bg10t, bg11t, bg12f]) <;> exact rfl
  apply W_run
  · (simp only [go_sem, Try.ntmps46, rI_flat, bh0f, hlen, bh9f, htk, hnl, bg5t, bg6t, bg7t, bg8t, bg9t, bg10t, bg11t, bg12f]) <;> exact rfl
  apply W_nil
  apply K_seq
  apply T_ret
  apply fin_ret
  · (simp only [go_sem, Try.ntmps46, rI_flat, bh0f, hlen, bh9f, htk, hnl, bg5t, bg6t, bg7t, bg8t, bg9t, bg10t, bg11t, bg12f, Try.f46]) <;> exact rfl
  -- leaf 13 (ret)
  simp only [go_sem, Try.ntmps46, rI_flat, bh0f, hlen, bh9f, htk, hnl, bg5t, bg6t, bg7t, bg8t, bg9t, bg10t, bg11t, bg12f, V.bool.injEq, V.int.injEq, true_and]
  grind))
  · intro bg11f
    have g11f := bg11f
    try simp only [CS] at g11f
    try simp only [BS] at bg11f
    try exact absurd bg11f (by decide)
    all_goals (
  apply W_pre [37, 38, 39, 40] [41, 42, 43, 44, 45, 46, 47, 48, 49]
  · (simp only [go_sem, Try.ntmps46, rI_flat, bh0f, hlen, bh9f, htk, hnl, bg5t, bg6t, bg7t, bg8t, bg9t, bg10t, bg11f]) <;> exact rfl
  apply W_pre [41, 42, 43, 44] [45, 46, 47, 48, 49]
  · (simp only [go_sem, Try.ntmps46, rI_flat, bh0f, hlen, bh9f, htk, hnl, bg5t, bg6t, bg7t, bg8t, bg9t, bg10t, bg11f]) <;> exact rfl
  apply W_run
  · (simp only [go_sem, Try.ntmps46, rI_flat, bh0f, hlen, bh9f, htk, hnl, bg5t, bg6t, bg7t, bg8t, bg9t, bg10t, bg11f]) <;> exact rfl
  apply W_nil
  apply K_seq
  apply T_ret
  apply fin_ret
  · (simp only [go_sem, Try.ntmps46, rI_flat, bh0f, hlen, bh9f, htk, hnl, bg5t, bg6t, bg7t, bg8t, bg9t, bg10t, bg11f, Try.f46]) <;> exact rfl
  -- leaf 14 (ret)
  simp only [go_sem, Try.ntmps46, rI_flat, bh0f, hlen, bh9f, htk, hnl, bg5t, bg6t, bg7t, bg8t, bg9t, bg10t, bg11f, V.bool.injEq, V.int.injEq, true_and]
  grind))
  · intro bg10f
    have g10f := bg10f
    try simp only [CS] at g10f
    try simp only [BS] at bg10f
    try exact absurd bg10f (by decide)
    all_goals (
  apply W_pre [32, 33, 34, 35] [36, 37, 38, 39, 40, 41, 42, 43, 44, 45, 46, 47, 48, 49]
  · (simp only [go_sem, Try.ntmps46, rI_flat, bh0f, hlen, bh9f, htk, hnl, bg5t, bg6t, bg7t, bg8t, bg9t, bg10f]) <;> exact rfl
  apply W_pre [36, 37, 38, 39] [40, 41, 42, 43, 44, 45, 46, 47, 48, 49]
  · (simp only [go_sem, Try.ntmps46, rI_flat, bh0f, hlen, bh9f, htk, hnl, bg5t, bg6t, bg7t, bg8t, bg9t, bg10f]) <;> exact rfl
  apply W_pre [40, 41, 42, 43] [44, 45, 46, 47, 48, 49]
  · (simp only [go_sem, Try.ntmps46, rI_flat, bh0f, hlen, bh9f, htk, hnl, bg5t, bg6t, bg7t, bg8t, bg9t, bg10f]) <;> exact rfl
  apply W_run
  · (simp only [go_sem, Try.ntmps46, rI_flat, bh0f, hlen, bh9f, htk, hnl, bg5t, bg6t, bg7t, bg8t, bg9t, bg10f]) <;> exact rfl
  apply W_nil
  apply K_seq
  apply T_ret
  apply fin_ret
  · (simp only [go_sem, Try.ntmps46, rI_flat, bh0f, hlen, bh9f, htk, hnl, bg5t, bg6t, bg7t, bg8t, bg9t, bg10f, Try.f46]) <;> exact rfl
  -- leaf 15 (ret)
  simp only [go_sem, Try.ntmps46, rI_flat, bh0f, hlen, bh9f, htk, hnl, bg5t, bg6t, bg7t, bg8t, bg9t, bg10f, V.bool.injEq, V.int.injEq, true_and]
  grind))
  · intro bg9f
    have g9f := bg9f
    try simp only [CS] at g9f
    try simp only [BS] at bg9f
    try exact absurd bg9f (by decide)
    all_goals (
  apply W_pre [26, 27, 28, 29] [30, 31, 32, 33, 34, 35, 36, 37, 38, 39, 40, 41, 42, 43, 44, 45, 46, 47, 48, 49]
  · (simp only [go_sem, Try.ntmps46, rI_flat, bh0f, hlen, bh9f, htk, hnl, bg5t, bg6t, bg7t, bg8t, bg9f]) <;> exact rfl
  apply W_pre [30, 31, 32, 33] [34, 35, 36, 37, 38, 39, 40, 41, 42, 43, 44, 45, 46, 47, 48, 49]
  · (simp only [go_sem, Try.ntmps46, rI_flat, bh0f, hlen, bh9f, htk, hnl, bg5t, bg6t, bg7t, bg8t, bg9f]) <;> exact rfl
  apply W_pre [34, 35, 36, 37] [38, 39, 40, 41, 42, 43, 44, 45, 46, 47, 48, 49]
  · (simp only [go_sem, Try.ntmps46, rI_flat, bh0f, hlen, bh9f, htk, hnl, bg5t, bg6t, bg7t, bg8t, bg9f]) <;> exact rfl
  apply W_pre [38, 39, 40, 41] [42, 43, 44, 45, 46, 47, 48, 49]
  · (simp only [go_sem, Try.ntmps46, rI_flat, bh0f, hlen, bh9f, htk, hnl, bg5t, bg6t, bg7t, bg8t, bg9f]) <;> exact rfl
  apply W_pre [42, 43, 44, 45] [46, 47, 48, 49]
  · (simp only [go_sem, Try.ntmps46, rI_flat, bh0f, hlen, bh9f, htk, hnl, bg5t, bg6t, bg7t, bg8t, bg9f]) <;> exact rfl
  apply W_run
  · (simp only [go_sem, Try.ntmps46, rI_flat, bh0f, hlen, bh9f, htk, hnl, bg5t, bg6t, bg7t, bg8t, bg9f]) <;> exact rfl
  apply W_nil
  apply K_seq
  apply T_ret
  apply fin_ret
  · (simp only [go_sem, Try.ntmps46, rI_flat, bh0f, hlen, bh9f, htk, hnl, bg5t, bg6t, bg7t, bg8t, bg9f, Try.f46]) <;> exact rfl
  -- leaf 16 (ret)
  simp only [go_sem, Try.ntmps46, rI_flat, bh0f, hlen, bh9f, htk, hnl, bg5t, bg6t, bg7t, bg8t, bg9f, V.bool.injEq, V.int.injEq, true_and]
  grind))
  · intro bg8f
    have g8f := bg8f
    try simp only [CS] at g8f
    try simp only [BS] at bg8f
    try exact absurd bg8f (by decide)
    all_goals (
  apply W_pre [19, 20, 21, 22] [23, 24, 25, 26, 27, 28, 29, 30, 31, 32, 33, 34, 35, 36, 37, 38, 39, 40, 41, 42, 43, 44, 45, 46, 47, 48, 49]
  · (simp only [go_sem, Try.ntmps46, rI_flat, bh0f, hlen, bh9f, htk, hnl, bg5t, bg6t, bg7t, bg8f]) <;> exact rfl
  apply W_pre [23, 24, 25, 26] [27, 28, 29, 30, 31, 32, 33, 34, 35, 36, 37, 38, 39, 40, 41, 42, 43, 44, 45, 46, 47, 48, 49]
  · (simp only [go_sem, Try.ntmps46, rI_flat, bh0f, hlen, bh9f, htk, hnl, bg5t, bg6t, bg7t, bg8f]) <;> exact rfl
  apply W_pre [27, 28, 29, 30] [31, 32, 33, 34, 35, 36, 37, 38, 39, 40, 41, 42, 43, 44, 45, 46, 47, 48, 49]
  · (simp only [go_sem, Try.ntmps46, rI_flat, bh0f, hlen, bh9f, htk, hnl, bg5t, bg6t, bg7t, bg8f]) <;> exact rfl
  apply W_pre [31, 32, 33, 34] [35, 36, 37, 38, 39, 40, 41, 42, 43, 44, 45, 46, 47, 48, 49]
  · (simp only [go_sem, Try.ntmps46, rI_flat, bh0f, hlen, bh9f, htk, hnl, bg5t, bg6t, bg7t, bg8f]) <;> exact rfl
  apply W_pre [35, 36, 37, 38] [39, 40, 41, 42, 43, 44, 45, 46, 47, 48, 49]
  · (simp only [go_sem, Try.ntmps46, rI_flat, bh0f, hlen, bh9f, htk, hnl, bg5t, bg6t, bg7t, bg8f]) <;> exact rfl
  apply W_pre [39, 40, 41, 42] [43, 44, 45, 46, 47, 48, 49]
  · (simp only [go_sem, Try.ntmps46, rI_flat, bh0f, hlen, bh9f, htk, hnl, bg5t, bg6t, bg7t, bg8f]) <;> exact rfl
  apply W_pre [43, 44, 45, 46] [47, 48, 49]
  · (simp only [go_sem, Try.ntmps46, rI_flat, bh0f, hlen, bh9f, htk, hnl, bg5t, bg6t, bg7t, bg8f]) <;> exact rfl
  apply W_run
  · (simp only [go_sem, Try.ntmps46, rI_flat, bh0f, hlen, bh9f, htk, hnl, bg5t, bg6t, bg7t, bg8f]) <;> exact rfl
  apply W_nil
  apply K_seq
  apply T_ret
  apply fin_ret
  · (simp only [go_sem, Try.ntmps46, rI_flat, bh0f, hlen, bh9f, htk, hnl, bg5t, bg6t, bg7t, bg8f, Try.f46]) <;> exact rfl
  -- leaf 17 (ret)
  simp only [go_sem, Try.ntmps46, rI_flat, bh0f, hlen, bh9f, htk, hnl, bg5t, bg6t, bg7t, bg8f, V.bool.injEq, V.int.injEq, true_and]
  grind))
  · intro bg7f
    have g7f := bg7f
    try simp only [CS] at g7f
    try simp only [BS] at bg7f
    try exact absurd bg7f (by decide)
    all_goals (
  apply W_pre [14, 15, 16, 17] [18, 19, 20, 21, 22, 23, 24, 25, 26, 27, 28, 29, 30, 31, 32, 33, 34, 35, 36, 37, 38, 39, 40, 41, 42, 43, 44, 45, 46, 47, 48, 49]
  · (simp only [go_sem, Try.ntmps46, rI_flat, bh0f, hlen, bh9f, htk, hnl, bg5t, bg6t, bg7f]) <;> exact rfl
  apply W_pre [18, 19, 20, 21] [22, 23, 24, 25, 26, 27, 28, 29, 30, 31, 32, 33, 34, 35, 36, 37, 38, 39, 40, 41, 42, 43, 44, 45, 46, 47, 48, 49]
  · (simp only [go_sem, Try.ntmps46, rI_flat, bh0f, hlen, bh9f, htk, hnl, bg5t, bg6t, bg7f]) <;> exact rfl
  apply W_pre [22, 23, 24, 25] [26, 27, 28, 29, 30, 31, 32, 33, 34, 35, 36, 37, 38, 39, 40, 41, 42, 43, 44, 45, 46, 47, 48, 49]
  · (simp only [go_sem, Try.ntmps46, rI_flat, bh0f, hlen, bh9f, htk, hnl, bg5t, bg6t, bg7f]) <;> exact rfl
  apply W_pre [26, 27, 28, 29] [30, 31, 32, 33, 34, 35, 36, 37, 38, 39, 40, 41, 42, 43, 44, 45, 46, 47, 48, 49]
  · (simp only [go_sem, Try.ntmps46, rI_flat, bh0f, hlen, bh9f, htk, hnl, bg5t, bg6t, bg7f]) <;> exact rfl
  apply W_pre [30, 31, 32, 33] [34, 35, 36, 37, 38, 39, 40, 41, 42, 43, 44, 45, 46, 47, 48, 49]
  · (simp only [go_sem, Try.ntmps46, rI_flat, bh0f, hlen, bh9f, htk, hnl, bg5t, bg6t, bg7f]) <;> exact rfl
  apply W_pre [34, 35, 36, 37] [38, 39, 40, 41, 42, 43, 44, 45, 46, 47, 48, 49]
  · (simp only [go_sem, Try.ntmps46, rI_flat, bh0f, hlen, bh9f, htk, hnl, bg5t, bg6t, bg7f]) <;> exact rfl
  apply W_pre [38, 39, 40, 41] [42, 43, 44, 45, 46, 47, 48, 49]
  · (simp only [go_sem, Try.ntmps46, rI_flat, bh0f, hlen, bh9f, htk, hnl, bg5t, bg6t, bg7f]) <;> exact rfl
  apply W_pre [42, 43, 44, 45] [46, 47, 48, 49]
  · (simp only [go_sem, Try.ntmps46, rI_flat, bh0f, hlen, bh9f, htk, hnl, bg5t, bg6t, bg7f]) <;> exact rfl
  apply W_run
  · (simp only [go_sem, Try.ntmps46, rI_flat, bh0f, hlen, bh9f, htk, hnl, bg5t, bg6t, bg7f]) <;> exact rfl
  apply W_nil
  apply K_seq
  apply T_ret
  apply fin_ret
  · (simp only [go_sem, Try.ntmps46, rI_flat, bh0f, hlen, bh9f, htk, hnl, bg5t, bg6t, bg7f, Try.f46]) <;> exact rfl
  -- leaf 18 (ret)
  simp only [go_sem, Try.ntmps46, rI_flat, bh0f, hlen, bh9f, htk, hnl, bg5t, bg6t, bg7f, V.bool.injEq, V.int.injEq, true_and]
  grind))
  · intro bg6f
    have g6f := bg6f
    try simp only [CS] at g6f
    try simp only [BS] at bg6f
    try exact absurd bg6f (by decide)
    all_goals (
  apply W_pre [8, 9, 10, 11] [12, 13, 14, 15, 16, 17, 18, 19, 20, 21, 22, 23, 24, 25, 26, 27, 28, 29, 30, 31, 32, 33, 34, 35, 36, 37, 38, 39, 40, 41, 42, 43, 44, 45, 46, 47, 48, 49]
  · (simp only [go_sem, Try.ntmps46, rI_flat, bh0f, hlen, bh9f, htk, hnl, bg5t, bg6f]) <;> exact rfl
  apply W_pre [12, 13, 14, 15] [16, 17, 18, 19, 20, 21, 22, 23, 24, 25, 26, 27, 28, 29, 30, 31, 32, 33, 34, 35, 36, 37, 38, 39, 40, 41, 42, 43, 44, 45, 46, 47, 48, 49]
  · (simp only [go_sem, Try.ntmps46, rI_flat, bh0f, hlen, bh9f, htk, hnl, bg5t, bg6f]) <;> exact rfl
  apply W_pre [16, 17, 18, 19] [20, 21, 22, 23, 24, 25, 26, 27, 28, 29, 30, 31, 32, 33, 34, 35, 36, 37, 38, 39, 40, 41, 42, 43, 44, 45, 46, 47, 48, 49]
  · (simp only [go_sem, Try.ntmps46, rI_flat, bh0f, hlen, bh9f, htk, hnl, bg5t, bg6f]) <;> exact rfl
  apply W_pre [20, 21, 22, 23] [24, 25, 26, 27, 28, 29, 30, 31, 32, 33, 34, 35, 36, 37, 38, 39, 40, 41, 42, 43, 44, 45, 46, 47, 48, 49]
  · (simp only [go_sem, Try.ntmps46, rI_flat, bh0f, hlen, bh9f, htk, hnl, bg5t, bg6f]) <;> exact rfl
  apply W_pre [24, 25, 26, 27] [28, 29, 30, 31, 32, 33, 34, 35, 36, 37, 38, 39, 40, 41, 42, 43, 44, 45, 46, 47, 48, 49]
  · (simp only [go_sem, Try.ntmps46, rI_flat, bh0f, hlen, bh9f, htk, hnl, bg5t, bg6f]) <;> exact rfl
  apply W_pre [28, 29, 30, 31] [32, 33, 34, 35, 36, 37, 38, 39, 40, 41, 42, 43, 44, 45, 46, 47, 48, 49]
  · (simp only [go_sem, Try.ntmps46, rI_flat, bh0f, hlen, bh9f, htk, hnl, bg5t, bg6f]) <;> exact rfl
  apply W_pre [32, 33, 34, 35] [36, 37, 38, 39, 40, 41, 42, 43, 44, 45, 46, 47, 48, 49]
  · (simp only [go_sem, Try.ntmps46, rI_flat, bh0f, hlen, bh9f, htk, hnl, bg5t, bg6f]) <;> exact rfl
  apply W_pre [36, 37, 38, 39] [40, 41, 42, 43, 44, 45, 46, 47, 48, 49]
  · (simp only [go_sem, Try.ntmps46, rI_flat, bh0f, hlen, bh9f, htk, hnl, bg5t, bg6f]) <;> exact rfl
  apply W_pre [40, 41, 42, 43] [44, 45, 46, 47, 48, 49]
  · (simp only [go_sem, Try.ntmps46, rI_flat, bh0f, hlen, bh9f, htk, hnl, bg5t, bg6f]) <;> exact rfl
  apply W_run
  · (simp only [go_sem, Try.ntmps46, rI_flat, bh0f, hlen, bh9f, htk, hnl, bg5t, bg6f]) <;> exact rfl
  apply W_nil
  apply K_seq
  apply T_ret
  apply fin_ret
  · (simp only [go_sem, Try.ntmps46, rI_flat, bh0f, hlen, bh9f, htk, hnl, bg5t, bg6f, Try.f46]) <;> exact rfl
  -- leaf 19 (ret)
  simp only [go_sem, Try.ntmps46, rI_flat, bh0f, hlen, bh9f, htk, hnl, bg5t, bg6f, V.bool.injEq, V.int.injEq, true_and]
  grind))
  · intro bg5f
    have g5f := bg5f
    try simp only [CS] at g5f
    try simp only [BS] at bg5f
    try exact absurd bg5f (by decide)
    all_goals (
  apply W_pre [3, 4, 5, 6] [7, 8, 9, 10, 11, 12, 13, 14, 15, 16, 17, 18, 19, 20, 21, 22, 23, 24, 25, 26, 27, 28, 29, 30, 31, 32, 33, 34, 35, 36, 37, 38, 39, 40, 41, 42, 43, 44, 45, 46, 47, 48, 49]
  · (simp only [go_sem, Try.ntmps46, rI_flat, bh0f, hlen, bh9f, htk, hnl, bg5f]) <;> exact rfl
  apply W_pre [7, 8, 9, 10] [11, 12, 13, 14, 15, 16, 17, 18, 19, 20, 21, 22, 23, 24, 25, 26, 27, 28, 29, 30, 31, 32, 33, 34, 35, 36, 37, 38, 39, 40, 41, 42, 43, 44, 45, 46, 47, 48, 49]
  · (simp only [go_sem, Try.ntmps46, rI_flat, bh0f, hlen, bh9f, htk, hnl, bg5f]) <;> exact rfl
  apply W_pre [11, 12, 13, 14] [15, 16, 17, 18, 19, 20, 21, 22, 23, 24, 25, 26, 27, 28, 29, 30, 31, 32, 33, 34, 35, 36, 37, 38, 39, 40, 41, 42, 43, 44, 45, 46, 47, 48, 49]
  · (simp only [go_sem, Try.ntmps46, rI_flat, bh0f, hlen, bh9f, htk, hnl, bg5f]) <;> exact rfl
  apply W_pre [15, 16, 17, 18] [19, 20, 21, 22, 23, 24, 25, 26, 27, 28, 29, 30, 31, 32, 33, 34, 35, 36, 37, 38, 39, 40, 41, 42, 43, 44, 45, 46, 47, 48, 49]
  · (simp only [go_sem, Try.ntmps46, rI_flat, bh0f, hlen, bh9f, htk, hnl, bg5f]) <;> exact rfl
  apply W_pre [19, 20, 21, 22] [23, 24, 25, 26, 27, 28, 29, 30, 31, 32, 33, 34, 35, 36, 37, 38, 39, 40, 41, 42, 43, 44, 45, 46, 47, 48, 49]
  · (simp only [go_sem, Try.ntmps46, rI_flat, bh0f, hlen, bh9f, htk, hnl, bg5f]) <;> exact rfl
  apply W_pre [23, 24, 25, 26] [27, 28, 29, 30, 31, 32, 33, 34, 35, 36, 37, 38, 39, 40, 41, 42, 43, 44, 45, 46, 47, 48, 49]
  · (simp only [go_sem, Try.ntmps46, rI_flat, bh0f, hlen, bh9f, htk, hnl, bg5f]) <;> exact rfl
  apply W_pre [27, 28, 29, 30] [31, 32, 33, 34, 35, 36, 37, 38, 39, 40, 41, 42, 43, 44, 45, 46, 47, 48, 49]
  · (simp only [go_sem, Try.ntmps46, rI_flat, bh0f, hlen, bh9f, htk, hnl, bg5f]) <;> exact rfl
  apply W_pre [31, 32, 33, 34] [35, 36, 37, 38, 39, 40, 41, 42, 43, 44, 45, 46, 47, 48, 49]
  · (simp only [go_sem, Try.ntmps46, rI_flat, bh0f, hlen, bh9f, htk, hnl, bg5f]) <;> exact rfl
  apply W_pre [35, 36, 37, 38] [39, 40, 41, 42, 43, 44, 45, 46, 47, 48, 49]
  · (simp only [go_sem, Try.ntmps46, rI_flat, bh0f, hlen, bh9f, htk, hnl, bg5f]) <;> exact rfl
  apply W_pre [39, 40, 41, 42] [43, 44, 45, 46, 47, 48, 49]
  · (simp only [go_sem, Try.ntmps46, rI_flat, bh0f, hlen, bh9f, htk, hnl, bg5f]) <;> exact rfl
  apply W_pre [43, 44, 45, 46] [47, 48, 49]
  · (simp only [go_sem, Try.ntmps46, rI_flat, bh0f, hlen, bh9f, htk, hnl, bg5f]) <;> exact rfl
  apply W_run
  · (simp only [go_sem, Try.ntmps46, rI_flat, bh0f, hlen, bh9f, htk, hnl, bg5f]) <;> exact rfl
  apply W_nil
  apply K_seq
  apply T_ret
  apply fin_ret
  · (simp only [go_sem, Try.ntmps46, rI_flat, bh0f, hlen, bh9f, htk, hnl, bg5f, Try.f46]) <;> exact rfl
  -- leaf 20 (ret)
  simp only [go_sem, Try.ntmps46, rI_flat, bh0f, hlen, bh9f, htk, hnl, bg5f, V.bool.injEq, V.int.injEq, true_and]
  grind)))

end Go.Ab
namespace Go.Ab
open Go Go.RowKit Go.Proofs Fac
set_option linter.unusedVariables false
set_option linter.unusedSimpArgs false
set_option maxRecDepth 4000
set_option maxHeartbeats 1000000

theorem mv_goes0 (t : Town) (p0 : List Int) (lot : Int) (h1 : 0 ≤ lot) (h2 : lot.toNat < t.gone.length) (h3 : t.houses.length ≤ 1000) (hh : 0 < t.houses.length) (hok : M.gone t lot = false ∧ ¬ M.rank t 0 lot < 0) : Ret Try.prog 100 [.agg (cW t p0), .nil, .int .i64 lot] (.sl 1 ([] ++ [[.int .i64 lot]])) := by
  have hgo : t.gone[lot.toNat] = M.gone t lot := (M.gone_get h2).symm
  have hcl := True.intro
  apply Ret_fin (fn := Try.f100) Try.func100 rfl
  apply T_seq
  apply T_r F
  · (simp only [go_sem, Try.ntmps100, cW_eq, h1, h1, h2, rB_get h2, hgo, hcl]) <;> exact rfl
  apply K_seq
  apply T_seq
  apply T_r F
  · (simp only [go_sem, Try.ntmps100, cW_eq, h1, h1, h2, rB_get h2, hgo, hcl]) <;> exact rfl
  apply K_seq
  apply T_seq
  apply T_seq
  apply T_wL F [0, 1, 2, 3, 4, 5, 6, 7, 8, 9, 10, 11, 12, 13, 14, 15, 16, 17] rfl
  apply W_pre [0, 1] [2, 3, 4, 5, 6, 7, 8, 9, 10, 11, 12, 13, 14, 15, 16, 17]
  · (simp only [go_sem, Try.ntmps100, cW_eq, h1, h1, h2, rB_get h2, hgo, hcl]) <;> exact rfl
  apply W_call -- call 0 of function 86
  · (simp only [go_sem, Try.ntmps100, cW_eq, h1, h1, h2, rB_get h2, hgo, hcl]) <;> exact rfl
  · (simp only [go_sem, Try.ntmps100, cW_eq, h1, h1, h2, rB_get h2, hgo, hcl]) <;> exact rfl
  · exact rfl
  · (simp only [go_sem, Try.ntmps100, cW_eq, h1, h1, h2, rB_get h2, hgo, hcl]) <;> exact rfl
  · (simp only [go_sem, Try.ntmps100, cW_eq, h1, h1, h2, rB_get h2, hgo, hcl]) <;> exact rfl
  · exact ⟨_, Try.func86, rfl, rfl⟩
  · (simp only [go_sem, Try.ntmps100, cW_eq, h1, h1, h2, rB_get h2, hgo, hcl]) <;> exact rfl
  · (simp only [go_sem, Try.ntmps100, cW_eq, h1, h1, h2, rB_get h2, hgo, hcl]) <;> exact rfl
  · exact Ret.wk (sl_contains [] lot) (.cons (.nil 1) (.cons (.refl _) .nil))
  apply W_pre [3] [4, 5, 6, 7, 8, 9, 10, 11, 12, 13, 14, 15, 16, 17]
  · (simp only [go_sem, Try.ntmps100, cW_eq, h1, h1, h2, rB_get h2, hgo, hcl]) <;> exact rfl
  apply W_guard
  · (simp only [go_sem, Try.ntmps100, cW_eq, h1, h1, h2, rB_get h2, hgo, hcl]) <;> exact rfl
  · (simp only [go_sem, Try.ntmps100, cW_eq, h1, h1, h2, rB_get h2, hgo, hcl]) <;> exact rfl
  · intro bg0t
    have g0t := bg0t
    try simp only [CS] at g0t
    try simp only [BS] at bg0t
    try exact absurd bg0t (by decide)
    all_goals (
  apply W_pre [4, 5, 6, 7] [8, 9, 10, 11, 12, 13, 14, 15, 16, 17]
  · (simp only [go_sem, Try.ntmps100, cW_eq, h1, h1, h2, rB_get h2, hgo, hcl, bg0t]) <;> exact rfl
  apply W_pre [8, 9, 10, 11] [12, 13, 14, 15, 16, 17]
  · (simp only [go_sem, Try.ntmps100, cW_eq, h1, h1, h2, rB_get h2, hgo, hcl, bg0t]) <;> exact rfl
  apply W_guard
  · (simp only [go_sem, Try.ntmps100, cW_eq, h1, h1, h2, rB_get h2, hgo, hcl, bg0t]) <;> exact rfl
  · (simp only [go_sem, Try.ntmps100, cW_eq, h1, h1, h2, rB_get h2, hgo, hcl, bg0t]) <;> exact rfl
  · intro bg1t
    have g1t := bg1t
    try simp only [CS] at g1t
    try simp only [BS] at bg1t
    try exact absurd bg1t (by decide)
    all_goals (
  apply W_pre [12, 13, 14] [15, 16, 17]
  · (simp only [go_sem, Try.ntmps100, cW_eq, h1, h1, h2, rB_get h2, hgo, hcl, bg0t, bg1t]) <;> exact rfl
  apply W_call -- call 1 of function 82
  · (simp only [go_sem, Try.ntmps100, cW_eq, h1, h1, h2, rB_get h2, hgo, hcl, bg0t, bg1t]) <;> exact rfl
  · (simp only [go_sem, Try.ntmps100, cW_eq, h1, h1, h2, rB_get h2, hgo, hcl, bg0t, bg1t]) <;> exact rfl
  · exact rfl
  · (simp only [go_sem, Try.ntmps100, cW_eq, h1, h1, h2, rB_get h2, hgo, hcl, bg0t, bg1t]) <;> exact rfl
  · (simp only [go_sem, Try.ntmps100, cW_eq, h1, h1, h2, rB_get h2, hgo, hcl, bg0t, bg1t]) <;> exact rfl
  · exact ⟨_, Try.func82, rfl, rfl⟩
  · (simp only [go_sem, Try.ntmps100, cW_eq, h1, h1, h2, rB_get h2, hgo, hcl, bg0t, bg1t]) <;> exact rfl
  · (simp only [go_sem, Try.ntmps100, cW_eq, h1, h1, h2, rB_get h2, hgo, hcl, bg0t, bg1t]) <;> exact rfl
  · exact mv_rank t p0 (0) lot hh
  apply W_run
  · (simp only [go_sem, Try.ntmps100, cW_eq, h1, h1, h2, rB_get h2, hgo, hcl, bg0t, bg1t]) <;> exact rfl
  apply W_nil
  apply K_seq
  apply T_if
  · (simp only [go_sem, Try.ntmps100, cW_eq, h1, h1, h2, rB_get h2, hgo, hcl, bg0t, bg1t]) <;> exact rfl
  · intro bh0t
    have h0t := bh0t
    try simp only [CS] at h0t
    all_goals (first | (simp_all; done) | omega)
  · intro bh0f
    have h0f := bh0f
    try simp only [CS] at h0f
    try simp only [BS] at bh0f
    try exact absurd bh0f (by decide)
    all_goals (
  apply T_skip
  apply K_seq
  apply T_seq
  apply T_wL F [0, 1, 2, 3, 4, 5] rfl
  apply W_pre [0] [1, 2, 3, 4, 5]
  · (simp only [go_sem, Try.ntmps100, cW_eq, h1, h1, h2, rB_get h2, hgo, hcl, bg0t, bg1t, bh0f]) <;> exact rfl
  apply W_call -- call 2 of function 102
  · (simp only [go_sem, Try.ntmps100, cW_eq, h1, h1, h2, rB_get h2, hgo, hcl, bg0t, bg1t, bh0f]) <;> exact rfl
  · (simp only [go_sem, Try.ntmps100, cW_eq, h1, h1, h2, rB_get h2, hgo, hcl, bg0t, bg1t, bh0f]) <;> exact rfl
  · exact rfl
  · (simp only [go_sem, Try.ntmps100, cW_eq, h1, h1, h2, rB_get h2, hgo, hcl, bg0t, bg1t, bh0f]) <;> exact rfl
  · (simp only [go_sem, Try.ntmps100, cW_eq, h1, h1, h2, rB_get h2, hgo, hcl, bg0t, bg1t, bh0f]) <;> exact rfl
  · exact ⟨_, Try.func102, rfl, rfl⟩
  · (simp only [go_sem, Try.ntmps100, cW_eq, h1, h1, h2, rB_get h2, hgo, hcl, bg0t, bg1t, bh0f]) <;> exact rfl
  · (simp only [go_sem, Try.ntmps100, cW_eq, h1, h1, h2, rB_get h2, hgo, hcl, bg0t, bg1t, bh0f]) <;> exact rfl
  · exact sl_cloneNil
  apply W_run
  · (simp only [go_sem, Try.ntmps100, cW_eq, h1, h1, h2, rB_get h2, hgo, hcl, bg0t, bg1t, bh0f]) <;> exact rfl
  apply W_nil
  apply K_seq
  apply T_ret
  apply fin_ret
  · (simp only [go_sem, Try.ntmps100, cW_eq, h1, h1, h2, rB_get h2, hgo, hcl, bg0t, bg1t, bh0f, Try.f100]) <;> exact rfl
  -- leaf 0 (ret)
  simp only [go_sem, Try.ntmps100, cW_eq, h1, h1, h2, rB_get h2, hgo, hcl, bg0t, bg1t, bh0f, V.bool.injEq, V.int.injEq, true_and]
  try rfl))
  · intro bg1f
    have g1f := bg1f
    try simp only [CS] at g1f
    try simp only [BS] at bg1f
    try exact absurd bg1f (by decide)
    all_goals (
  apply W_run
  · (simp only [go_sem, Try.ntmps100, cW_eq, h1, h1, h2, rB_get h2, hgo, hcl, bg0t, bg1f]) <;> exact rfl
  apply W_nil
  apply K_seq
  apply T_if
  · (simp only [go_sem, Try.ntmps100, cW_eq, h1, h1, h2, rB_get h2, hgo, hcl, bg0t, bg1f]) <;> exact rfl
  · intro bh1t
    have h1t := bh1t
    try simp only [CS] at h1t
    all_goals (first | (simp_all; done) | omega)
  · intro bh1f
    exact absurd bh1f (by simp)))
  · intro bg0f
    have g0f := bg0f
    try simp only [CS] at g0f
    try simp only [BS] at bg0f
    try exact absurd bg0f (by decide)
    all_goals (
  apply W_pre [4, 5, 6, 7] [8, 9, 10, 11, 12, 13, 14, 15, 16, 17]
  · (simp only [go_sem, Try.ntmps100, cW_eq, h1, h1, h2, rB_get h2, hgo, hcl, bg0f]) <;> exact rfl
  apply W_pre [8, 9, 10, 11] [12, 13, 14, 15, 16, 17]
  · (simp only [go_sem, Try.ntmps100, cW_eq, h1, h1, h2, rB_get h2, hgo, hcl, bg0f]) <;> exact rfl
  apply W_run
  · (simp only [go_sem, Try.ntmps100, cW_eq, h1, h1, h2, rB_get h2, hgo, hcl, bg0f]) <;> exact rfl
  apply W_nil
  apply K_seq
  apply T_if
  · (simp only [go_sem, Try.ntmps100, cW_eq, h1, h1, h2, rB_get h2, hgo, hcl, bg0f]) <;> exact rfl
  · intro bh2t
    have h2t := bh2t
    try simp only [CS] at h2t
    all_goals (first | (simp_all; done) | omega)
  · intro bh2f
    exact absurd bh2f (by simp))

theorem mv_goes0p (t : Town) (p0 : List Int) (lot : Int) (h1 : 0 ≤ lot) (h2 : lot.toNat < t.gone.length) (h3 : t.houses.length ≤ 1000) (hh : 0 < t.houses.length) (hok : M.gone t lot = true ∨ M.rank t 0 lot < 0) : Pan Try.prog 100 [.agg (cW t p0), .nil, .int .i64 lot] (.iface 114 (.agg #[.int .i64 ((0 : Nat) : Int)])) := by
  have hgo : t.gone[lot.toNat] = M.gone t lot := (M.gone_get h2).symm
  have hcl := True.intro
  apply Pan_intro (fn := Try.f100) Try.func100 rfl
  apply T_seq
  apply T_r F
  · (simp only [go_sem, Try.ntmps100, cW_eq, h1, h1, h2, rB_get h2, hgo, hcl]) <;> exact rfl
  apply K_seq
  apply T_seq
  apply T_r F
  · (simp only [go_sem, Try.ntmps100, cW_eq, h1, h1, h2, rB_get h2, hgo, hcl]) <;> exact rfl
  apply K_seq
  apply T_seq
  apply T_seq
  apply T_wL F [0, 1, 2, 3, 4, 5, 6, 7, 8, 9, 10, 11, 12, 13, 14, 15, 16, 17] rfl
  apply W_pre [0, 1] [2, 3, 4, 5, 6, 7, 8, 9, 10, 11, 12, 13, 14, 15, 16, 17]
  · (simp only [go_sem, Try.ntmps100, cW_eq, h1, h1, h2, rB_get h2, hgo, hcl]) <;> exact rfl
  apply W_call -- call 0 of function 86
  · (simp only [go_sem, Try.ntmps100, cW_eq, h1, h1, h2, rB_get h2, hgo, hcl]) <;> exact rfl
  · (simp only [go_sem, Try.ntmps100, cW_eq, h1, h1, h2, rB_get h2, hgo, hcl]) <;> exact rfl
  · exact rfl
  · (simp only [go_sem, Try.ntmps100, cW_eq, h1, h1, h2, rB_get h2, hgo, hcl]) <;> exact rfl
  · (simp only [go_sem, Try.ntmps100, cW_eq, h1, h1, h2, rB_get h2, hgo, hcl]) <;> exact rfl
  · exact ⟨_, Try.func86, rfl, rfl⟩
  · (simp only [go_sem, Try.ntmps100, cW_eq, h1, h1, h2, rB_get h2, hgo, hcl]) <;> exact rfl
  · (simp only [go_sem, Try.ntmps100, cW_eq, h1, h1, h2, rB_get h2, hgo, hcl]) <;> exact rfl
  · exact Ret.wk (sl_contains [] lot) (.cons (.nil 1) (.cons (.refl _) .nil))
  apply W_pre [3] [4, 5, 6, 7, 8, 9, 10, 11, 12, 13, 14, 15, 16, 17]
  · (simp only [go_sem, Try.ntmps100, cW_eq, h1, h1, h2, rB_get h2, hgo, hcl]) <;> exact rfl
  apply W_guard
  · (simp only [go_sem, Try.ntmps100, cW_eq, h1, h1, h2, rB_get h2, hgo, hcl]) <;> exact rfl
  · (simp only [go_sem, Try.ntmps100, cW_eq, h1, h1, h2, rB_get h2, hgo, hcl]) <;> exact rfl
  · intro bg0t
    have g0t := bg0t
    try simp only [CS] at g0t
    try simp only [BS] at bg0t
    try exact absurd bg0t (by decide)
    all_goals (
  apply W_pre [4, 5, 6, 7] [8, 9, 10, 11, 12, 13, 14, 15, 16, 17]
  · (simp only [go_sem, Try.ntmps100, cW_eq, h1, h1, h2, rB_get h2, hgo, hcl, bg0t]) <;> exact rfl
  apply W_pre [8, 9, 10, 11] [12, 13, 14, 15, 16, 17]
  · (simp only [go_sem, Try.ntmps100, cW_eq, h1, h1, h2, rB_get h2, hgo, hcl, bg0t]) <;> exact rfl
  apply W_guard
  · (simp only [go_sem, Try.ntmps100, cW_eq, h1, h1, h2, rB_get h2, hgo, hcl, bg0t]) <;> exact rfl
  · (simp only [go_sem, Try.ntmps100, cW_eq, h1, h1, h2, rB_get h2, hgo, hcl, bg0t]) <;> exact rfl
  · intro bg1t
    have g1t := bg1t
    try simp only [CS] at g1t
    try simp only [BS] at bg1t
    try exact absurd bg1t (by decide)
    all_goals (
  apply W_pre [12, 13, 14] [15, 16, 17]
  · (simp only [go_sem, Try.ntmps100, cW_eq, h1, h1, h2, rB_get h2, hgo, hcl, bg0t, bg1t]) <;> exact rfl
  apply W_call -- call 1 of function 82
  · (simp only [go_sem, Try.ntmps100, cW_eq, h1, h1, h2, rB_get h2, hgo, hcl, bg0t, bg1t]) <;> exact rfl
  · (simp only [go_sem, Try.ntmps100, cW_eq, h1, h1, h2, rB_get h2, hgo, hcl, bg0t, bg1t]) <;> exact rfl
  · exact rfl
  · (simp only [go_sem, Try.ntmps100, cW_eq, h1, h1, h2, rB_get h2, hgo, hcl, bg0t, bg1t]) <;> exact rfl
  · (simp only [go_sem, Try.ntmps100, cW_eq, h1, h1, h2, rB_get h2, hgo, hcl, bg0t, bg1t]) <;> exact rfl
  · exact ⟨_, Try.func82, rfl, rfl⟩
  · (simp only [go_sem, Try.ntmps100, cW_eq, h1, h1, h2, rB_get h2, hgo, hcl, bg0t, bg1t]) <;> exact rfl
  · (simp only [go_sem, Try.ntmps100, cW_eq, h1, h1, h2, rB_get h2, hgo, hcl, bg0t, bg1t]) <;> exact rfl
  · exact mv_rank t p0 (0) lot hh
  apply W_run
  · (simp only [go_sem, Try.ntmps100, cW_eq, h1, h1, h2, rB_get h2, hgo, hcl, bg0t, bg1t]) <;> exact rfl
  apply W_nil
  apply K_seq
  apply T_if
  · (simp only [go_sem, Try.ntmps100, cW_eq, h1, h1, h2, rB_get h2, hgo, hcl, bg0t, bg1t]) <;> exact rfl
  · intro bh0t
    have h0t := bh0t
    try simp only [CS] at h0t
    try simp only [BS] at bh0t
    try exact absurd bh0t (by decide)
    all_goals (
  apply T_panW F (l := [0, 1, 2]) (i := 3) rfl
  apply W_run
  · (simp only [go_sem, Try.ntmps100, cW_eq, h1, h1, h2, rB_get h2, hgo, hcl, bg0t, bg1t, bh0t]) <;> exact rfl
  apply W_nil
  refine ⟨_, _, _, _, rfl, rfl, rfl, rfl, rfl, ?_⟩
  apply K_seqP
  -- leaf 0 (pan)
  rfl)
  · intro bh0f
    have h0f := bh0f
    try simp only [CS] at h0f
    all_goals (first | (simp_all; done) | omega))
  · intro bg1f
    have g1f := bg1f
    try simp only [CS] at g1f
    try simp only [BS] at bg1f
    try exact absurd bg1f (by decide)
    all_goals (
  apply W_run
  · (simp only [go_sem, Try.ntmps100, cW_eq, h1, h1, h2, rB_get h2, hgo, hcl, bg0t, bg1f]) <;> exact rfl
  apply W_nil
  apply K_seq
  apply T_if
  · (simp only [go_sem, Try.ntmps100, cW_eq, h1, h1, h2, rB_get h2, hgo, hcl, bg0t, bg1f]) <;> exact rfl
  · intro bh1t
    have h1t := bh1t
    try simp only [CS] at h1t
    try simp only [BS] at bh1t
    try exact absurd bh1t (by decide)
    all_goals (
  apply T_panW F (l := [0, 1, 2]) (i := 3) rfl
  apply W_run
  · (simp only [go_sem, Try.ntmps100, cW_eq, h1, h1, h2, rB_get h2, hgo, hcl, bg0t, bg1f, bh1t]) <;> exact rfl
  apply W_nil
  refine ⟨_, _, _, _, rfl, rfl, rfl, rfl, rfl, ?_⟩
  apply K_seqP
  -- leaf 1 (pan)
  rfl)
  · intro bh1f
    exact absurd bh1f (by simp)))
  · intro bg0f
    have g0f := bg0f
    try simp only [CS] at g0f
    try simp only [BS] at bg0f
    try exact absurd bg0f (by decide)
    all_goals (
  apply W_pre [4, 5, 6, 7] [8, 9, 10, 11, 12, 13, 14, 15, 16, 17]
  · (simp only [go_sem, Try.ntmps100, cW_eq, h1, h1, h2, rB_get h2, hgo, hcl, bg0f]) <;> exact rfl
  apply W_pre [8, 9, 10, 11] [12, 13, 14, 15, 16, 17]
  · (simp only [go_sem, Try.ntmps100, cW_eq, h1, h1, h2, rB_get h2, hgo, hcl, bg0f]) <;> exact rfl
  apply W_run
  · (simp only [go_sem, Try.ntmps100, cW_eq, h1, h1, h2, rB_get h2, hgo, hcl, bg0f]) <;> exact rfl
  apply W_nil
  apply K_seq
  apply T_if
  · (simp only [go_sem, Try.ntmps100, cW_eq, h1, h1, h2, rB_get h2, hgo, hcl, bg0f]) <;> exact rfl
  · intro bh2t
    have h2t := bh2t
    try simp only [CS] at h2t
    try simp only [BS] at bh2t
    try exact absurd bh2t (by decide)
    all_goals (
  apply T_panW F (l := [0, 1, 2]) (i := 3) rfl
  apply W_run
  · (simp only [go_sem, Try.ntmps100, cW_eq, h1, h1, h2, rB_get h2, hgo, hcl, bg0f, bh2t]) <;> exact rfl
  apply W_nil
  refine ⟨_, _, _, _, rfl, rfl, rfl, rfl, rfl, ?_⟩
  apply K_seqP
  -- leaf 2 (pan)
  rfl)
  · intro bh2f
    exact absurd bh2f (by simp))

theorem mv_goes1 (t : Town) (p0 : List Int) (lot : Int) (h1 : 0 ≤ lot) (h2 : lot.toNat < t.gone.length) (h3 : t.houses.length ≤ 1000) (x : Int) (l : List Int) (hh : (x :: l).length < t.houses.length) (hok : (x :: l).contains lot = false ∧ M.gone t lot = false ∧ ¬ M.rank t (x :: l).length lot < 0) : Ret Try.prog 100 [.agg (cW t p0), .sl 1 (rI (x :: l)), .int .i64 lot] (.sl 1 (rI (x :: l) ++ [[.int .i64 lot]])) := by
  have hgo : t.gone[lot.toNat] = M.gone t lot := (M.gone_get h2).symm
  have hcl := rI_length (x :: l)
  have hap : rI (x :: l) ++ [[.int .i64 lot]] = rI ((x :: l) ++ [lot]) := by simp [rI]
  have hcap : (l.length + 1 + 1) * 8 ≤ 140737488355328 := by simp only [List.length_cons] at hh; omega
  obtain ⟨c, hcon⟩ : ∃ c, (x :: l).contains lot = c := ⟨_, rfl⟩
  rw [hcon] at hok
  apply Ret_fin (fn := Try.f100) Try.func100 rfl
  apply T_seq
  apply T_r F
  · (simp only [go_sem, Try.ntmps100, cW_eq, hcap, h1, h2, rB_get h2, hgo, hcl]) <;> exact rfl
  apply K_seq
  apply T_seq
  apply T_r F
  · (simp only [go_sem, Try.ntmps100, cW_eq, hcap, h1, h2, rB_get h2, hgo, hcl]) <;> exact rfl
  apply K_seq
  apply T_seq
  apply T_seq
  apply T_wL F [0, 1, 2, 3, 4, 5, 6, 7, 8, 9, 10, 11, 12, 13, 14, 15, 16, 17] rfl
  apply W_pre [0, 1] [2, 3, 4, 5, 6, 7, 8, 9, 10, 11, 12, 13, 14, 15, 16, 17]
  · (simp only [go_sem, Try.ntmps100, cW_eq, hcap, h1, h2, rB_get h2, hgo, hcl]) <;> exact rfl
  apply W_call -- call 0 of function 86
  · (simp only [go_sem, Try.ntmps100, cW_eq, hcap, h1, h2, rB_get h2, hgo, hcl]) <;> exact rfl
  · (simp only [go_sem, Try.ntmps100, cW_eq, hcap, h1, h2, rB_get h2, hgo, hcl]) <;> exact rfl
  · exact rfl
  · (simp only [go_sem, Try.ntmps100, cW_eq, hcap, h1, h2, rB_get h2, hgo, hcl]) <;> exact rfl
  · (simp only [go_sem, Try.ntmps100, cW_eq, hcap, h1, h2, rB_get h2, hgo, hcl]) <;> exact rfl
  · exact ⟨_, Try.func86, rfl, rfl⟩
  · (simp only [go_sem, Try.ntmps100, cW_eq, hcap, h1, h2, rB_get h2, hgo, hcl]) <;> exact rfl
  · (simp only [go_sem, Try.ntmps100, cW_eq, hcap, h1, h2, rB_get h2, hgo, hcl]) <;> exact rfl
  · exact hcon ▸ sl_contains (x :: l) lot
  apply W_pre [3] [4, 5, 6, 7, 8, 9, 10, 11, 12, 13, 14, 15, 16, 17]
  · (simp only [go_sem, Try.ntmps100, cW_eq, hcap, h1, h2, rB_get h2, hgo, hcl]) <;> exact rfl
  apply W_guard
  · (simp only [go_sem, Try.ntmps100, cW_eq, hcap, h1, h2, rB_get h2, hgo, hcl]) <;> exact rfl
  · (simp only [go_sem, Try.ntmps100, cW_eq, hcap, h1, h2, rB_get h2, hgo, hcl]) <;> exact rfl
  · intro bg0t
    have g0t := bg0t
    try simp only [CS] at g0t
    try simp only [BS] at bg0t
    try exact absurd bg0t (by decide)
    all_goals (
  apply W_pre [4, 5, 6, 7] [8, 9, 10, 11, 12, 13, 14, 15, 16, 17]
  · (simp only [go_sem, Try.ntmps100, cW_eq, hcap, h1, h2, rB_get h2, hgo, hcl, bg0t]) <;> exact rfl
  apply W_pre [8, 9, 10, 11] [12, 13, 14, 15, 16, 17]
  · (simp only [go_sem, Try.ntmps100, cW_eq, hcap, h1, h2, rB_get h2, hgo, hcl, bg0t]) <;> exact rfl
  apply W_guard
  · (simp only [go_sem, Try.ntmps100, cW_eq, hcap, h1, h2, rB_get h2, hgo, hcl, bg0t]) <;> exact rfl
  · (simp only [go_sem, Try.ntmps100, cW_eq, hcap, h1, h2, rB_get h2, hgo, hcl, bg0t]) <;> exact rfl
  · intro bg1t
    have g1t := bg1t
    try simp only [CS] at g1t
    try simp only [BS] at bg1t
    try exact absurd bg1t (by decide)
    all_goals (
  apply W_pre [12, 13, 14] [15, 16, 17]
  · (simp only [go_sem, Try.ntmps100, cW_eq, hcap, h1, h2, rB_get h2, hgo, hcl, bg0t, bg1t]) <;> exact rfl
  apply W_call -- call 1 of function 82
  · (simp only [go_sem, Try.ntmps100, cW_eq, hcap, h1, h2, rB_get h2, hgo, hcl, bg0t, bg1t]) <;> exact rfl
  · (simp only [go_sem, Try.ntmps100, cW_eq, hcap, h1, h2, rB_get h2, hgo, hcl, bg0t, bg1t]) <;> exact rfl
  · exact rfl
  · (simp only [go_sem, Try.ntmps100, cW_eq, hcap, h1, h2, rB_get h2, hgo, hcl, bg0t, bg1t]) <;> exact rfl
  · (simp only [go_sem, Try.ntmps100, cW_eq, hcap, h1, h2, rB_get h2, hgo, hcl, bg0t, bg1t]) <;> exact rfl
  · exact ⟨_, Try.func82, rfl, rfl⟩
  · (simp only [go_sem, Try.ntmps100, cW_eq, hcap, h1, h2, rB_get h2, hgo, hcl, bg0t, bg1t]) <;> exact rfl
  · (simp only [go_sem, Try.ntmps100, cW_eq, hcap, h1, h2, rB_get h2, hgo, hcl, bg0t, bg1t]) <;> exact rfl
  · exact mv_rank t p0 ((x :: l).length) lot hh
  apply W_run
  · (simp only [go_sem, Try.ntmps100, cW_eq, hcap, h1, h2, rB_get h2, hgo, hcl, bg0t, bg1t]) <;> exact rfl
  apply W_nil
  apply K_seq
  apply T_if
  · (simp only [go_sem, Try.ntmps100, cW_eq, hcap, h1, h2, rB_get h2, hgo, hcl, bg0t, bg1t]) <;> exact rfl
  · intro bh0t
    have h0t := bh0t
    try simp only [CS] at h0t
    all_goals (first | (simp_all; done) | omega)
  · intro bh0f
    have h0f := bh0f
    try simp only [CS] at h0f
    try simp only [BS] at bh0f
    try exact absurd bh0f (by decide)
    all_goals (
  apply T_skip
  apply K_seq
  apply T_seq
  apply T_wL F [0, 1, 2, 3, 4, 5] rfl
  apply W_pre [0] [1, 2, 3, 4, 5]
  · (simp only [go_sem, Try.ntmps100, cW_eq, hcap, h1, h2, rB_get h2, hgo, hcl, bg0t, bg1t, bh0f]) <;> exact rfl
  apply W_callS -- call 2
  · (simp only [go_sem, Try.ntmps100, cW_eq, hcap, h1, h2, rB_get h2, hgo, hcl, bg0t, bg1t, bh0f]) <;> exact rfl
  · (simp only [go_sem, Try.ntmps100, cW_eq, hcap, h1, h2, rB_get h2, hgo, hcl, bg0t, bg1t, bh0f]) <;> exact rfl
  · exact rfl
  · (simp only [go_sem, Try.ntmps100, cW_eq, hcap, h1, h2, rB_get h2, hgo, hcl, bg0t, bg1t, bh0f]) <;> exact rfl
  · (simp only [go_sem, Try.ntmps100, cW_eq, hcap, h1, h2, rB_get h2, hgo, hcl, bg0t, bg1t, bh0f]) <;> exact rfl
  · exact ⟨_, Try.func102, rfl, rfl⟩
  · exact sl_clone x l [.box 69 (cW t p0)] (closed_W t p0) (by simp only [List.length_cons] at hh ⊢; omega)
  apply W_run
  · (simp only [go_sem, Try.ntmps100, cW_eq, hcap, h1, h2, rB_get h2, hgo, hcl, bg0t, bg1t, bh0f]) <;> exact rfl
  apply W_nil
  apply K_seq
  apply T_ret
  apply fin_ret
  · (simp only [go_sem, Try.ntmps100, cW_eq, hcap, h1, h2, rB_get h2, hgo, hcl, bg0t, bg1t, bh0f, Try.f100]) <;> exact rfl
  -- leaf 0 (ret)
  simp only [go_sem, Try.ntmps100, cW_eq, hcap, h1, h2, rB_get h2, hgo, hcl, bg0t, bg1t, bh0f, V.bool.injEq, V.int.injEq, true_and]
  rw [if_pos ⟨by simp [rI_length], by rw [hap, rI_all]⟩]))
  · intro bg1f
    have g1f := bg1f
    try simp only [CS] at g1f
    try simp only [BS] at bg1f
    try exact absurd bg1f (by decide)
    all_goals (
  apply W_run
  · (simp only [go_sem, Try.ntmps100, cW_eq, hcap, h1, h2, rB_get h2, hgo, hcl, bg0t, bg1f]) <;> exact rfl
  apply W_nil
  apply K_seq
  apply T_if
  · (simp only [go_sem, Try.ntmps100, cW_eq, hcap, h1, h2, rB_get h2, hgo, hcl, bg0t, bg1f]) <;> exact rfl
  · intro bh1t
    have h1t := bh1t
    try simp only [CS] at h1t
    all_goals (first | (simp_all; done) | omega)
  · intro bh1f
    exact absurd bh1f (by simp)))
  · intro bg0f
    have g0f := bg0f
    try simp only [CS] at g0f
    try simp only [BS] at bg0f
    try exact absurd bg0f (by decide)
    all_goals (
  apply W_pre [4, 5, 6, 7] [8, 9, 10, 11, 12, 13, 14, 15, 16, 17]
  · (simp only [go_sem, Try.ntmps100, cW_eq, hcap, h1, h2, rB_get h2, hgo, hcl, bg0f]) <;> exact rfl
  apply W_pre [8, 9, 10, 11] [12, 13, 14, 15, 16, 17]
  · (simp only [go_sem, Try.ntmps100, cW_eq, hcap, h1, h2, rB_get h2, hgo, hcl, bg0f]) <;> exact rfl
  apply W_run
  · (simp only [go_sem, Try.ntmps100, cW_eq, hcap, h1, h2, rB_get h2, hgo, hcl, bg0f]) <;> exact rfl
  apply W_nil
  apply K_seq
  apply T_if
  · (simp only [go_sem, Try.ntmps100, cW_eq, hcap, h1, h2, rB_get h2, hgo, hcl, bg0f]) <;> exact rfl
  · intro bh2t
    have h2t := bh2t
    try simp only [CS] at h2t
    all_goals (first | (simp_all; done) | omega)
  · intro bh2f
    exact absurd bh2f (by simp))

theorem mv_goes1p (t : Town) (p0 : List Int) (lot : Int) (h1 : 0 ≤ lot) (h2 : lot.toNat < t.gone.length) (h3 : t.houses.length ≤ 1000) (x : Int) (l : List Int) (hh : (x :: l).length < t.houses.length) (hok : (x :: l).contains lot = true ∨ M.gone t lot = true ∨ M.rank t (x :: l).length lot < 0) : Pan Try.prog 100 [.agg (cW t p0), .sl 1 (rI (x :: l)), .int .i64 lot] (.iface 114 (.agg #[.int .i64 (((x :: l).length : Nat) : Int)])) := by
  have hgo : t.gone[lot.toNat] = M.gone t lot := (M.gone_get h2).symm
  have hcl := rI_length (x :: l)
  have hap : rI (x :: l) ++ [[.int .i64 lot]] = rI ((x :: l) ++ [lot]) := by simp [rI]
  have hcap : (l.length + 1 + 1) * 8 ≤ 140737488355328 := by simp only [List.length_cons] at hh; omega
  obtain ⟨c, hcon⟩ : ∃ c, (x :: l).contains lot = c := ⟨_, rfl⟩
  rw [hcon] at hok
  apply Pan_intro (fn := Try.f100) Try.func100 rfl
  apply T_seq
  apply T_r F
  · (simp only [go_sem, Try.ntmps100, cW_eq, hcap, h1, h2, rB_get h2, hgo, hcl]) <;> exact rfl
  apply K_seq
  apply T_seq
  apply T_r F
  · (simp only [go_sem, Try.ntmps100, cW_eq, hcap, h1, h2, rB_get h2, hgo, hcl]) <;> exact rfl
  apply K_seq
  apply T_seq
  apply T_seq
  apply T_wL F [0, 1, 2, 3, 4, 5, 6, 7, 8, 9, 10, 11, 12, 13, 14, 15, 16, 17] rfl
  apply W_pre [0, 1] [2, 3, 4, 5, 6, 7, 8, 9, 10, 11, 12, 13, 14, 15, 16, 17]
  · (simp only [go_sem, Try.ntmps100, cW_eq, hcap, h1, h2, rB_get h2, hgo, hcl]) <;> exact rfl
  apply W_call -- call 0 of function 86
  · (simp only [go_sem, Try.ntmps100, cW_eq, hcap, h1, h2, rB_get h2, hgo, hcl]) <;> exact rfl
  · (simp only [go_sem, Try.ntmps100, cW_eq, hcap, h1, h2, rB_get h2, hgo, hcl]) <;> exact rfl
  · exact rfl
  · (simp only [go_sem, Try.ntmps100, cW_eq, hcap, h1, h2, rB_get h2, hgo, hcl]) <;> exact rfl
  · (simp only [go_sem, Try.ntmps100, cW_eq, hcap, h1, h2, rB_get h2, hgo, hcl]) <;> exact rfl
  · exact ⟨_, Try.func86, rfl, rfl⟩
  · (simp only [go_sem, Try.ntmps100, cW_eq, hcap, h1, h2, rB_get h2, hgo, hcl]) <;> exact rfl
  · (simp only [go_sem, Try.ntmps100, cW_eq, hcap, h1, h2, rB_get h2, hgo, hcl]) <;> exact rfl
  · exact hcon ▸ sl_contains (x :: l) lot
  apply W_pre [3] [4, 5, 6, 7, 8, 9, 10, 11, 12, 13, 14, 15, 16, 17]
  · (simp only [go_sem, Try.ntmps100, cW_eq, hcap, h1, h2, rB_get h2, hgo, hcl]) <;> exact rfl
  apply W_guard
  · (simp only [go_sem, Try.ntmps100, cW_eq, hcap, h1, h2, rB_get h2, hgo, hcl]) <;> exact rfl
  · (simp only [go_sem, Try.ntmps100, cW_eq, hcap, h1, h2, rB_get h2, hgo, hcl]) <;> exact rfl
  · intro bg0t
    have g0t := bg0t
    try simp only [CS] at g0t
    try simp only [BS] at bg0t
    try exact absurd bg0t (by decide)
    all_goals (
  apply W_pre [4, 5, 6, 7] [8, 9, 10, 11, 12, 13, 14, 15, 16, 17]
  · (simp only [go_sem, Try.ntmps100, cW_eq, hcap, h1, h2, rB_get h2, hgo, hcl, bg0t]) <;> exact rfl
  apply W_pre [8, 9, 10, 11] [12, 13, 14, 15, 16, 17]
  · (simp only [go_sem, Try.ntmps100, cW_eq, hcap, h1, h2, rB_get h2, hgo, hcl, bg0t]) <;> exact rfl
  apply W_guard
  · (simp only [go_sem, Try.ntmps100, cW_eq, hcap, h1, h2, rB_get h2, hgo, hcl, bg0t]) <;> exact rfl
  · (simp only [go_sem, Try.ntmps100, cW_eq, hcap, h1, h2, rB_get h2, hgo, hcl, bg0t]) <;> exact rfl
  · intro bg1t
    have g1t := bg1t
    try simp only [CS] at g1t
    try simp only [BS] at bg1t
    try exact absurd bg1t (by decide)
    all_goals (
  apply W_pre [12, 13, 14] [15, 16, 17]
  · (simp only [go_sem, Try.ntmps100, cW_eq, hcap, h1, h2, rB_get h2, hgo, hcl, bg0t, bg1t]) <;> exact rfl
  apply W_call -- call 1 of function 82
  · (simp only [go_sem, Try.ntmps100, cW_eq, hcap, h1, h2, rB_get h2, hgo, hcl, bg0t, bg1t]) <;> exact rfl
  · (simp only [go_sem, Try.ntmps100, cW_eq, hcap, h1, h2, rB_get h2, hgo, hcl, bg0t, bg1t]) <;> exact rfl
  · exact rfl
  · (simp only [go_sem, Try.ntmps100, cW_eq, hcap, h1, h2, rB_get h2, hgo, hcl, bg0t, bg1t]) <;> exact rfl
  · (simp only [go_sem, Try.ntmps100, cW_eq, hcap, h1, h2, rB_get h2, hgo, hcl, bg0t, bg1t]) <;> exact rfl
  · exact ⟨_, Try.func82, rfl, rfl⟩
  · (simp only [go_sem, Try.ntmps100, cW_eq, hcap, h1, h2, rB_get h2, hgo, hcl, bg0t, bg1t]) <;> exact rfl
  · (simp only [go_sem, Try.ntmps100, cW_eq, hcap, h1, h2, rB_get h2, hgo, hcl, bg0t, bg1t]) <;> exact rfl
  · exact mv_rank t p0 ((x :: l).length) lot hh
  apply W_run
  · (simp only [go_sem, Try.ntmps100, cW_eq, hcap, h1, h2, rB_get h2, hgo, hcl, bg0t, bg1t]) <;> exact rfl
  apply W_nil
  apply K_seq
  apply T_if
  · (simp only [go_sem, Try.ntmps100, cW_eq, hcap, h1, h2, rB_get h2, hgo, hcl, bg0t, bg1t]) <;> exact rfl
  · intro bh0t
    have h0t := bh0t
    try simp only [CS] at h0t
    try simp only [BS] at bh0t
    try exact absurd bh0t (by decide)
    all_goals (
  apply T_panW F (l := [0, 1, 2]) (i := 3) rfl
  apply W_run
  · (simp only [go_sem, Try.ntmps100, cW_eq, hcap, h1, h2, rB_get h2, hgo, hcl, bg0t, bg1t, bh0t]) <;> exact rfl
  apply W_nil
  refine ⟨_, _, _, _, rfl, rfl, rfl, rfl, rfl, ?_⟩
  apply K_seqP
  -- leaf 0 (pan)
  rfl)
  · intro bh0f
    have h0f := bh0f
    try simp only [CS] at h0f
    all_goals (first | (simp_all; done) | omega))
  · intro bg1f
    have g1f := bg1f
    try simp only [CS] at g1f
    try simp only [BS] at bg1f
    try exact absurd bg1f (by decide)
    all_goals (
  apply W_run
  · (simp only [go_sem, Try.ntmps100, cW_eq, hcap, h1, h2, rB_get h2, hgo, hcl, bg0t, bg1f]) <;> exact rfl
  apply W_nil
  apply K_seq
  apply T_if
  · (simp only [go_sem, Try.ntmps100, cW_eq, hcap, h1, h2, rB_get h2, hgo, hcl, bg0t, bg1f]) <;> exact rfl
  · intro bh1t
    have h1t := bh1t
    try simp only [CS] at h1t
    try simp only [BS] at bh1t
    try exact absurd bh1t (by decide)
    all_goals (
  apply T_panW F (l := [0, 1, 2]) (i := 3) rfl
  apply W_run
  · (simp only [go_sem, Try.ntmps100, cW_eq, hcap, h1, h2, rB_get h2, hgo, hcl, bg0t, bg1f, bh1t]) <;> exact rfl
  apply W_nil
  refine ⟨_, _, _, _, rfl, rfl, rfl, rfl, rfl, ?_⟩
  apply K_seqP
  -- leaf 1 (pan)
  rfl)
  · intro bh1f
    exact absurd bh1f (by simp)))
  · intro bg0f
    have g0f := bg0f
    try simp only [CS] at g0f
    try simp only [BS] at bg0f
    try exact absurd bg0f (by decide)
    all_goals (
  apply W_pre [4, 5, 6, 7] [8, 9, 10, 11, 12, 13, 14, 15, 16, 17]
  · (simp only [go_sem, Try.ntmps100, cW_eq, hcap, h1, h2, rB_get h2, hgo, hcl, bg0f]) <;> exact rfl
  apply W_pre [8, 9, 10, 11] [12, 13, 14, 15, 16, 17]
  · (simp only [go_sem, Try.ntmps100, cW_eq, hcap, h1, h2, rB_get h2, hgo, hcl, bg0f]) <;> exact rfl
  apply W_run
  · (simp only [go_sem, Try.ntmps100, cW_eq, hcap, h1, h2, rB_get h2, hgo, hcl, bg0f]) <;> exact rfl
  apply W_nil
  apply K_seq
  apply T_if
  · (simp only [go_sem, Try.ntmps100, cW_eq, hcap, h1, h2, rB_get h2, hgo, hcl, bg0f]) <;> exact rfl
  · intro bh2t
    have h2t := bh2t
    try simp only [CS] at h2t
    try simp only [BS] at bh2t
    try exact absurd bh2t (by decide)
    all_goals (
  apply T_panW F (l := [0, 1, 2]) (i := 3) rfl
  apply W_run
  · (simp only [go_sem, Try.ntmps100, cW_eq, hcap, h1, h2, rB_get h2, hgo, hcl, bg0f, bh2t]) <;> exact rfl
  apply W_nil
  refine ⟨_, _, _, _, rfl, rfl, rfl, rfl, rfl, ?_⟩
  apply K_seqP
  -- leaf 2 (pan)
  rfl)
  · intro bh2f
    exact absurd bh2f (by simp))

end Go.Ab
namespace Go.Ab
open Go Go.RowKit Go.Proofs Fac
set_option linter.unusedVariables false
set_option linter.unusedSimpArgs false
set_option maxRecDepth 4000
set_option maxHeartbeats 1000000
def lots (n : Int) : Value := .iface 114 (.agg #[.int .i64 n])
theorem mv_catch0 (o : AObj) (b : Bool) (hc : Closed [o, .box 4 [.bool b]]) : DfrS Try.prog 99 [.ptr 1 0] [o, .box 4 [.bool b]] .returning .returning [o, .box 4 [.bool b]] := by
  refine DfrS_intro (fn := Try.f99) (v := .nilif) (uv := .nilIface) Try.func99 rfl rfl rfl rfl rfl (fun c cs hm => .inl ⟨by simp [recoverD, hm], rfl, rfl⟩) (fun E => by simp only [Rel]) ?_
  apply T_block
  apply T_seq
  apply T_r F
  · (simp only [go_sem, Try.ntmps99]) <;> exact rfl
  apply K_seq
  apply T_if
  · exact rfl
  · intro _
    apply T_r F
    · (simp only [go_sem, Try.ntmps99]) <;> exact rfl
    apply K_blk
    exact ⟨.inl rfl, 2, by simp, by simp, rfl, hc⟩
  · intro h
    exact absurd h (by decide)
theorem mv_catch1 (o : AObj) (b : Bool) (n : Int) (hc : Closed [o, .box 4 [.bool false]]) : DfrS Try.prog 99 [.ptr 1 0] [o, .box 4 [.bool b]] (.panicking (chainOf (lots n))) (.panicking [{ v := lots n, recovered := true }]) [o, .box 4 [.bool false]] := by
  refine DfrS_intro (fn := Try.f99) (v := .iface 114 (.agg [.int .i64 n])) (uv := lots n) Try.func99 rfl rfl rfl rfl rfl (fun c cs hm => .inr (by simp [recoverD, hm, chainOf])) (fun E => by simp [lots, Rel, RelL]) ?_
  apply T_block
  apply T_seq
  apply T_r F
  · (simp only [go_sem, Try.ntmps99]) <;> exact rfl
  apply K_seq
  apply T_if
  · exact rfl
  · intro h
    exact absurd h (by decide)
  · intro _
    apply T_seq
    apply T_r F
    · (simp only [go_sem, Try.ntmps99]) <;> exact rfl
    apply K_seq
    apply T_if
    · exact rfl
    · intro _
      apply T_seq
      apply T_r F
      · (simp only [go_sem, Try.ntmps99]) <;> exact rfl
      apply K_seq
      apply T_r F
      · (simp only [go_sem, Try.ntmps99]) <;> exact rfl
      apply K_blk
      exact ⟨.inl rfl, 2, by simp, by simp, rfl, hc⟩
    · intro h
      exact absurd h (by decide)
end Go.Ab
namespace Go.Ab
open Go Go.RowKit Go.Proofs Fac
set_option linter.unusedVariables false
set_option linter.unusedSimpArgs false
set_option maxRecDepth 4000
set_option maxHeartbeats 1000000
theorem closed_B (t : Town) (p : List Int) (b : Bool) : Closed [.box 69 (cW t p), .box 4 [.bool b]] := by
  intro o ho
  simp only [List.mem_cons, List.not_mem_nil, or_false] at ho
  rcases ho with rfl | rfl
  · simp only [AObj.all, cW, V.allL, V.all, rI_all, rB_all, rL_all, rH_all, rP_all, Bool.and_self]
  · rfl
theorem mv_gone1ok0 (t : Town) (p0 : List Int) (lot : Int) (m : List Int) (hg : Ret Try.prog 100 [.agg (cW t p0), .nil, .int .i64 lot] (.sl 1 (rI m))) : Ret Try.prog 84 [.agg (cW t p0), .nil, .int .i64 lot] (.tup [.sl 1 (rI m), .bool true]) := by
  rw [cW_eq] at *
  refine Ret_defer (F := F) (fn := Try.f84) (l1 := [0]) (i := 1) (gd := 99) (first := []) (caps := [.ptr 1 0]) (sA := ⟨[.agg (cW t p0), .nil, .int .i64 lot, .ptr 0 0, .undef, .undef, .nil, .ptr 1 0, .undef, .undef, .undef, .undef, .undef], [.box 69 (cW t p0), .box 4 [.bool false]]⟩) (sR := ⟨[.agg (cW t p0), .nil, .int .i64 lot, .ptr 0 0, .undef, .undef, .nil, .ptr 1 0, .fn 99 [] [.ptr 1 0], .undef, .undef, .undef, .undef], [.box 69 (cW t p0), .box 4 [.bool false]]⟩) Try.func84 rfl ?_ ?_ rfl rfl rfl rfl rfl ⟨_, Try.func99, rfl, rfl⟩ ?_
  · apply T_r F
    · (simp only [go_sem, Try.ntmps84, cW_eq]) <;> exact rfl
    exact ⟨rfl, rfl⟩
  · apply RunR.of_W
    apply W_run
    · (simp only [go_sem, Try.ntmps84, cW_eq]) <;> exact rfl
    apply W_nil
    exact rfl
  · apply T_seq
    apply T_wL F [0, 1, 2, 3, 4, 5] rfl
    apply W_pre [0, 1, 2] [3, 4, 5]
    · (simp only [go_sem, Try.ntmps84, cW_eq]) <;> exact rfl
    apply W_call
    · (simp only [go_sem, Try.ntmps84, cW_eq]) <;> exact rfl
    · (simp only [go_sem, Try.ntmps84, cW_eq]) <;> exact rfl
    · exact rfl
    · (simp only [go_sem, Try.ntmps84, cW_eq]) <;> exact rfl
    · (simp only [go_sem, Try.ntmps84, cW_eq]) <;> exact rfl
    · exact ⟨_, Try.func100, rfl, rfl⟩
    · (simp only [go_sem, Try.ntmps84, cW_eq]) <;> exact rfl
    · (simp only [go_sem, Try.ntmps84, cW_eq]) <;> exact rfl
    · exact hg
    apply W_run
    · (simp only [go_sem, Try.ntmps84, cW_eq]) <;> exact rfl
    apply W_nil
    apply K_seq
    apply T_ret
    refine ⟨_, _, .inl ⟨.inr rfl, mv_catch0 _ true (closed_B t p0 true)⟩, rfl, ?_⟩
    simp only [go_sem]
theorem mv_gone1no0 (t : Town) (p0 : List Int) (lot : Int) (n : Int) (hg : Pan Try.prog 100 [.agg (cW t p0), .nil, .int .i64 lot] (lots n)) : Ret Try.prog 84 [.agg (cW t p0), .nil, .int .i64 lot] (.tup [.nil, .bool false]) := by
  rw [cW_eq] at *
  refine Ret_defer (F := F) (fn := Try.f84) (l1 := [0]) (i := 1) (gd := 99) (first := []) (caps := [.ptr 1 0]) (sA := ⟨[.agg (cW t p0), .nil, .int .i64 lot, .ptr 0 0, .undef, .undef, .nil, .ptr 1 0, .undef, .undef, .undef, .undef, .undef], [.box 69 (cW t p0), .box 4 [.bool false]]⟩) (sR := ⟨[.agg (cW t p0), .nil, .int .i64 lot, .ptr 0 0, .undef, .undef, .nil, .ptr 1 0, .fn 99 [] [.ptr 1 0], .undef, .undef, .undef, .undef], [.box 69 (cW t p0), .box 4 [.bool false]]⟩) Try.func84 rfl ?_ ?_ rfl rfl rfl rfl rfl ⟨_, Try.func99, rfl, rfl⟩ ?_
  · apply T_r F
    · (simp only [go_sem, Try.ntmps84, cW_eq]) <;> exact rfl
    exact ⟨rfl, rfl⟩
  · apply RunR.of_W
    apply W_run
    · (simp only [go_sem, Try.ntmps84, cW_eq]) <;> exact rfl
    apply W_nil
    exact rfl
  · apply T_seq
    apply T_panCallW F (l1 := [0, 1, 2]) (i := 3) [4, 5] rfl
    apply W_run
    · (simp only [go_sem, Try.ntmps84, cW_eq]) <;> exact rfl
    apply W_nil
    refine ⟨_, _, _, _, 100, [], [], _, _, _, rfl, rfl, rfl, rfl, rfl, ⟨_, Try.func100, rfl, rfl⟩, ?_, hg, ?_⟩
    · (simp only [go_sem, Try.ntmps84, cW_eq]) <;> exact rfl
    · apply K_seqP
      exact ⟨_, _, .inr ⟨_, rfl, mv_catch1 _ false _ (closed_B t p0 false)⟩, rfl, rfl⟩
theorem mv_gone1ok1 (t : Town) (p0 : List Int) (lot : Int) (l m : List Int) (hg : Ret Try.prog 100 [.agg (cW t p0), .sl 1 (rI l), .int .i64 lot] (.sl 1 (rI m))) : Ret Try.prog 84 [.agg (cW t p0), .sl 1 (rI l), .int .i64 lot] (.tup [.sl 1 (rI m), .bool true]) := by
  rw [cW_eq] at *
  refine Ret_defer (F := F) (fn := Try.f84) (l1 := [0]) (i := 1) (gd := 99) (first := []) (caps := [.ptr 1 0]) (sA := ⟨[.agg (cW t p0), .sl 1 (rI l), .int .i64 lot, .ptr 0 0, .undef, .undef, .nil, .ptr 1 0, .undef, .undef, .undef, .undef, .undef], [.box 69 (cW t p0), .box 4 [.bool false]]⟩) (sR := ⟨[.agg (cW t p0), .sl 1 (rI l), .int .i64 lot, .ptr 0 0, .undef, .undef, .nil, .ptr 1 0, .fn 99 [] [.ptr 1 0], .undef, .undef, .undef, .undef], [.box 69 (cW t p0), .box 4 [.bool false]]⟩) Try.func84 rfl ?_ ?_ rfl rfl rfl rfl rfl ⟨_, Try.func99, rfl, rfl⟩ ?_
  · apply T_r F
    · (simp only [go_sem, Try.ntmps84, cW_eq]) <;> exact rfl
    exact ⟨rfl, rfl⟩
  · apply RunR.of_W
    apply W_run
    · (simp only [go_sem, Try.ntmps84, cW_eq]) <;> exact rfl
    apply W_nil
    exact rfl
  · apply T_seq
    apply T_wL F [0, 1, 2, 3, 4, 5] rfl
    apply W_pre [0, 1, 2] [3, 4, 5]
    · (simp only [go_sem, Try.ntmps84, cW_eq]) <;> exact rfl
    apply W_call
    · (simp only [go_sem, Try.ntmps84, cW_eq]) <;> exact rfl
    · (simp only [go_sem, Try.ntmps84, cW_eq]) <;> exact rfl
    · exact rfl
    · (simp only [go_sem, Try.ntmps84, cW_eq]) <;> exact rfl
    · (simp only [go_sem, Try.ntmps84, cW_eq]) <;> exact rfl
    · exact ⟨_, Try.func100, rfl, rfl⟩
    · (simp only [go_sem, Try.ntmps84, cW_eq]) <;> exact rfl
    · (simp only [go_sem, Try.ntmps84, cW_eq]) <;> exact rfl
    · exact hg
    apply W_run
    · (simp only [go_sem, Try.ntmps84, cW_eq]) <;> exact rfl
    apply W_nil
    apply K_seq
    apply T_ret
    refine ⟨_, _, .inl ⟨.inr rfl, mv_catch0 _ true (closed_B t p0 true)⟩, rfl, ?_⟩
    simp only [go_sem]
theorem mv_gone1no1 (t : Town) (p0 : List Int) (lot : Int) (l : List Int) (n : Int) (hg : Pan Try.prog 100 [.agg (cW t p0), .sl 1 (rI l), .int .i64 lot] (lots n)) : Ret Try.prog 84 [.agg (cW t p0), .sl 1 (rI l), .int .i64 lot] (.tup [.nil, .bool false]) := by
  rw [cW_eq] at *
  refine Ret_defer (F := F) (fn := Try.f84) (l1 := [0]) (i := 1) (gd := 99) (first := []) (caps := [.ptr 1 0]) (sA := ⟨[.agg (cW t p0), .sl 1 (rI l), .int .i64 lot, .ptr 0 0, .undef, .undef, .nil, .ptr 1 0, .undef, .undef, .undef, .undef, .undef], [.box 69 (cW t p0), .box 4 [.bool false]]⟩) (sR := ⟨[.agg (cW t p0), .sl 1 (rI l), .int .i64 lot, .ptr 0 0, .undef, .undef, .nil, .ptr 1 0, .fn 99 [] [.ptr 1 0], .undef, .undef, .undef, .undef], [.box 69 (cW t p0), .box 4 [.bool false]]⟩) Try.func84 rfl ?_ ?_ rfl rfl rfl rfl rfl ⟨_, Try.func99, rfl, rfl⟩ ?_
  · apply T_r F
    · (simp only [go_sem, Try.ntmps84, cW_eq]) <;> exact rfl
    exact ⟨rfl, rfl⟩
  · apply RunR.of_W
    apply W_run
    · (simp only [go_sem, Try.ntmps84, cW_eq]) <;> exact rfl
    apply W_nil
    exact rfl
  · apply T_seq
    apply T_panCallW F (l1 := [0, 1, 2]) (i := 3) [4, 5] rfl
    apply W_run
    · (simp only [go_sem, Try.ntmps84, cW_eq]) <;> exact rfl
    apply W_nil
    refine ⟨_, _, _, _, 100, [], [], _, _, _, rfl, rfl, rfl, rfl, rfl, ⟨_, Try.func100, rfl, rfl⟩, ?_, hg, ?_⟩
    · (simp only [go_sem, Try.ntmps84, cW_eq]) <;> exact rfl
    · apply K_seqP
      exact ⟨_, _, .inr ⟨_, rfl, mv_catch1 _ false _ (closed_B t p0 false)⟩, rfl, rfl⟩
end Go.Ab
namespace Go.Ab
open Go Go.RowKit Go.Proofs Fac
set_option linter.unusedVariables false
set_option linter.unusedSimpArgs false
set_option maxRecDepth 4000
set_option maxHeartbeats 1000000
/-! ### towns, read back from what is handed in -/
def decM {α : Type} (f : List V → Option α) : List (List V) → Option (List α)
  | [] => some []
  | r :: rs => match f r with
    | some x => match decM f rs with
      | some xs => some (x :: xs)
      | none => none
    | none => none
theorem decM_eq {α : Type} {f : List V → Option α} {e : α → List V} (hf : ∀ r x, f r = some x → r = e x) : ∀ {rows : List (List V)} {l : List α}, decM f rows = some l → rows = l.map e
  | [], l, h => by simp only [decM, Option.some.injEq] at h; subst h; rfl
  | r :: rs, l, h => by
    simp only [decM] at h
    split at h
    · rename_i x hx
      split at h
      · rename_i xs hxs
        simp only [Option.some.injEq] at h; subst h
        rw [List.map_cons, ← decM_eq hf hxs, ← hf _ _ hx]
      · cases h
    · cases h
def fI : List V → Option Int
  | [.int .i64 n] => some n
  | _ => none
theorem fI_eq (r : List V) (x : Int) (h : fI r = some x) : r = [.int .i64 x] := by
  unfold fI at h
  split at h <;> simp_all
def fB : List V → Option Bool
  | [.bool b] => some b
  | _ => none
theorem fB_eq (r : List V) (x : Bool) (h : fB r = some x) : r = [.bool x] := by
  unfold fB at h
  split at h <;> simp_all
def fL : List V → Option (List Int)
  | [.sl 1 rows] => decM fI rows
  | _ => none
theorem fL_eq (r : List V) (x : List Int) (h : fL r = some x) : r = [.sl 1 (rI x)] := by
  unfold fL at h
  split at h
  · rw [decM_eq fI_eq h]; rfl
  · cases h
def gH : List V → Option House
  | [.int .i64 n, .sl 1 rows, .bool b] => match decM fI rows with
    | some l => some ⟨n, l, b⟩
    | none => none
  | _ => none
theorem gH_eq (r : List V) (x : House) (h : gH r = some x) : r = [.int .i64 x.lot, .sl 1 (rI x.wishes), .bool x.school] := by
  unfold gH at h
  split at h
  · split at h
    · rename_i hl
      simp only [Option.some.injEq] at h; subst h
      rw [decM_eq fI_eq hl]; rfl
    · cases h
  · cases h
def fP : List V → Option (Int × Int)
  | [.int .i64 a, .int .i64 b] => some (a, b)
  | _ => none
theorem fP_eq (r : List V) (x : Int × Int) (h : fP r = some x) : r = [.int .i64 x.1, .int .i64 x.2] := by
  unfold fP at h
  split at h
  · simp only [Option.some.injEq] at h; subst h; rfl
  · cases h
def fI0 : V → Option (List Int)
  | .nil => some []
  | .sl 1 rows => decM fI rows
  | _ => none
theorem fI0_rel {x : V} {l : List Int} (h : fI0 x = some l) {E : Env} {v : Value} (hr : Rel E x v) : Rel E (.sl 1 (rI l)) v := by
  unfold fI0 at h
  split at h
  · simp only [Option.some.injEq] at h; subst h
    simp only [Rel] at hr ⊢
    exact ⟨none, 0, hr, by simp [rI], .inl rfl⟩
  · rw [decM_eq fI_eq h] at hr
    exact hr
  · cases h
def decW : List V → Option (Town × List Int)
  | [.sl 1 w, .int .i64 r, .sl 1 s, .sl 1 g, .sl 3 h, .sl 2 k, p] => match decM fL w, decM fI s, decM fB g, decM gH h, decM fP k, fI0 p with
    | some w, some s, some g, some h, some k, some p => some (⟨w, r, s, g, h, k⟩, p)
    | _, _, _, _, _, _ => none
  | _ => none
theorem decW_rel {cs : List V} {t : Town} {p : List Int} (h : decW cs = some (t, p)) {E : Env} {v : Value} (hr : Rel E (.agg cs) v) : Rel E (.agg (cW t p)) v := by
  unfold decW at h
  split at h
  · split at h
    · rename_i h1 h2 h3 h4 h5 h6
      simp only [Option.some.injEq, Prod.mk.injEq] at h
      obtain ⟨rfl, rfl⟩ := h
      rw [decM_eq fL_eq h1, decM_eq fI_eq h2, decM_eq fB_eq h3, decM_eq gH_eq h4, decM_eq fP_eq h5] at hr
      unfold Rel at hr ⊢
      obtain ⟨vs, rfl, hL⟩ := hr
      refine ⟨vs, rfl, ?_⟩
      simp only [cW, RelL] at hL ⊢
      obtain ⟨u1, l1, e1, r1, u2, l2, e2, r2, u3, l3, e3, r3, u4, l4, e4, r4, u5, l5, e5, r5, u6, l6, e6, r6, u7, l7, e7, r7, e8⟩ := hL
      exact ⟨u1, l1, e1, r1, u2, l2, e2, r2, u3, l3, e3, r3, u4, l4, e4, r4, u5, l5, e5, r5, u6, l6, e6, r6, u7, l7, e7, fI0_rel h6 r7, e8⟩
    · cases h
  · cases h
theorem Ret.town {P : Program} {f : FuncId} {cs xs : List V} {r : V} {t : Town} {p : List Int} (hd : decW cs = some (t, p)) (h : Ret P f (.agg (cW t p) :: xs) r) : Ret P f (.agg cs :: xs) r := by
  intro bad w cargs hb hR
  refine h bad w cargs hb ?_
  unfold RelL at hR ⊢
  obtain ⟨u, us, e, hu, hus⟩ := hR
  exact ⟨u, us, e, decW_rel hd hu, hus⟩
/-! ### gone1, as the interpreter answers it -/
def gone1A (t : Town) (rows : List (List V)) (l : List Int) (lot : Int) : Option V :=
  if 0 ≤ lot ∧ lot.toNat < t.gone.length ∧ t.houses.length ≤ 1000 ∧ l.length < t.houses.length then
    if l.contains lot = false ∧ M.gone t lot = false ∧ ¬ M.rank t l.length lot < 0 then some (.tup [.sl 1 (rows ++ [[.int .i64 lot]]), .bool true]) else some (.tup [.nil, .bool false])
  else none
def gone1X (args : List V) : Option V :=
  match args with
  | [.agg cs, .nil, .int .i64 lot] => match decW cs with
    | some (t, _) => gone1A t [] [] lot
    | none => none
  | [.agg cs, .sl 1 rows, .int .i64 lot] => match decW cs with
    | some (t, _) => match decM fI rows with
      | some (x :: l) => gone1A t rows (x :: l) lot
      | _ => none
    | none => none
  | _ => none
theorem rI_snoc (l : List Int) (n : Int) : rI l ++ [[.int .i64 n]] = rI (l ++ [n]) := by simp [rI]
theorem gone1X_ret {args : List V} {r : V} (h : gone1X args = some r) : Ret Try.prog 84 args r := by
  unfold gone1X at h
  split at h
  · rename_i cs lot
    split at h
    · rename_i t p hd
      refine Ret.town hd ?_
      unfold gone1A at h
      split at h
      · rename_i hc
        obtain ⟨h1, h2, h3, h4⟩ := hc
        simp only [List.length_nil] at h4 h
        split at h
        · rename_i hok
          simp only [Option.some.injEq] at h; subst h
          have := mv_goes0 t p lot h1 h2 h3 h4 ⟨hok.2.1, hok.2.2⟩
          exact mv_gone1ok0 t p lot [lot] this
        · rename_i hok
          simp only [Option.some.injEq] at h; subst h
          refine mv_gone1no0 t p lot ((0 : Nat) : Int) (mv_goes0p t p lot h1 h2 h3 h4 ?_)
          cases hg : M.gone t lot
          · right
            simp only [List.contains_nil, hg, true_and, Decidable.not_not] at hok
            exact hok
          · exact .inl rfl
      · cases h
    · cases h
  · rename_i cs rows lot
    split at h
    · rename_i t p hd
      split at h
      · rename_i x l hl
        refine Ret.town hd ?_
        have hrows : rows = rI (x :: l) := decM_eq fI_eq hl
        subst hrows
        unfold gone1A at h
        split at h
        · rename_i hc
          obtain ⟨h1, h2, h3, h4⟩ := hc
          split at h
          · rename_i hok
            simp only [Option.some.injEq] at h; subst h
            have := mv_goes1 t p lot h1 h2 h3 x l h4 hok
            rw [rI_snoc] at this ⊢
            exact mv_gone1ok1 t p lot (x :: l) _ this
          · rename_i hok
            simp only [Option.some.injEq] at h; subst h
            refine mv_gone1no1 t p lot (x :: l) (((x :: l).length : Nat) : Int) (mv_goes1p t p lot h1 h2 h3 x l h4 ?_)
            cases hg : M.gone t lot
            · cases hc : (x :: l).contains lot
              · right; right
                simp only [hg, hc, true_and, Decidable.not_not] at hok
                exact hok
              · exact .inl rfl
            · exact .inr (.inl rfl)
        · cases h
      · cases h
    · cases h
  · cases h
def X0 (g : FuncId) (args : List V) : Option V := if g = 84 then gone1X args else none
theorem X0_ok : ∀ g args r, X0 g args = some r → Ret Try.prog g args r ∧ Callee Try.prog g := by
  intro g args r h
  unfold X0 at h
  split at h
  · rename_i e; subst e
    exact ⟨gone1X_ret h, _, Try.func84, rfl, rfl⟩
  · cases h
end Go.Ab
namespace Go.Ab
open Go Go.RowKit Go.Proofs
/-! ### the examples that each statement checks -/
theorem noNum : ∀ (g : Nat) fn, Try.prog.funcs[g]? = some fn → (fn.name == "runtime.NumGoroutine") = false := by
  have h : (Try.prog.funcs.all fun fn => (fn.name == "runtime.NumGoroutine") == false) = true := by kernel_rfl
  intro g fn hg
  rw [Array.all_eq_true_iff_forall_mem] at h
  have := h fn (Array.mem_of_getElem? hg)
  simpa using this
def keep24 (n : Nat) : Bool := n == 24
def queue66 (g : FuncId) : Bool := g == 66
def isB (o : Option V) (b : Bool) : Bool := match o with
  | some (.bool c) => b == c
  | _ => false
theorem isB_eq {o : Option V} {b : Bool} (h : isB o b = true) : o = some (.bool b) := by
  unfold isB at h
  split at h
  · rw [beq_iff_eq] at h; rw [h]
  · cases h
theorem known_run : isB ((Interp.run F keep24 X0 queue66 200).data 16 []) true = true := by kernel_rfl
theorem known_ok : Ret Try.prog 16 [] (.bool true) := Ret.of_run F keep24 queue66 200 X0_ok noNum (isB_eq known_run)
end Go.Ab
namespace Go.Ab
open Go Go.RowKit Go.Proofs Fac
set_option linter.unusedVariables false
set_option linter.unusedSimpArgs false
set_option maxRecDepth 4000
set_option maxHeartbeats 1000000




theorem mv_Fault (t : Town) (p : List Int) (hh : t.houses.length ≤ 1000) : Ret Try.prog 17 [.agg (cT t), .sl 1 (rI p)] (if M.Ok t ∧ M.plan t p = true then .tup [.agg [.int .i64 (M.fault t p).1, .int .i64 (M.fault t p).2], .int .i64 0] else .tup [.agg [.int .i64 0, .int .i64 0], .int .i64 2]) := by
  refine Ret.of_fits fun hfits => ?_
  simp only [V.fits, V.fitsL, V.fitsR, cT_fits] at hfits
  have hl := hfits.1.schools
  have hlk := hfits.1.kin
  apply Ret_fin (fn := Try.f17) Try.func17 rfl
  apply T_seq
  apply T_r F
  · (simp only [go_sem, Try.ntmps17]) <;> exact rfl
  apply K_seq
  apply T_seq
  apply T_r F
  · (simp only [go_sem, Try.ntmps17]) <;> exact rfl
  apply K_seq
  apply T_seq
  apply T_seq
  apply T_wL F [0, 1, 2, 3, 4, 5, 6, 7] rfl
  apply W_pre [0] [1, 2, 3, 4, 5, 6, 7]
  · (simp only [go_sem, Try.ntmps17]) <;> exact rfl
  apply W_call -- call 0 of function 46
  · (simp only [go_sem, Try.ntmps17]) <;> exact rfl
  · (simp only [go_sem, Try.ntmps17]) <;> exact rfl
  · exact rfl
  · (simp only [go_sem, Try.ntmps17]) <;> exact rfl
  · (simp only [go_sem, Try.ntmps17]) <;> exact rfl
  · exact ⟨_, Try.func46, rfl, rfl⟩
  · (simp only [go_sem, Try.ntmps17]) <;> exact rfl
  · (simp only [go_sem, Try.ntmps17]) <;> exact rfl
  · exact mv_valid _ (by omega)
  apply W_pre [2, 3] [4, 5, 6, 7]
  · (simp only [go_sem, Try.ntmps17]) <;> exact rfl
  apply W_guard
  · (simp only [go_sem, Try.ntmps17]) <;> exact rfl
  · (simp only [go_sem, Try.ntmps17]) <;> exact rfl
  · intro bg0t
    have g0t := bg0t
    try simp only [CS] at g0t
    try simp only [BS] at bg0t
    try exact absurd bg0t (by decide)
    all_goals (
  apply W_pre [4] [5, 6, 7]
  · (simp only [go_sem, Try.ntmps17, bg0t]) <;> exact rfl
  apply W_call -- call 1 of function 47
  · (simp only [go_sem, Try.ntmps17, bg0t]) <;> exact rfl
  · (simp only [go_sem, Try.ntmps17, bg0t]) <;> exact rfl
  · exact rfl
  · (simp only [go_sem, Try.ntmps17, bg0t]) <;> exact rfl
  · (simp only [go_sem, Try.ntmps17, bg0t]) <;> exact rfl
  · exact ⟨_, Try.func47, rfl, rfl⟩
  · (simp only [go_sem, Try.ntmps17, bg0t]) <;> exact rfl
  · (simp only [go_sem, Try.ntmps17, bg0t]) <;> exact rfl
  · exact mv_planned _ _
  apply W_run
  · (simp only [go_sem, Try.ntmps17, bg0t]) <;> exact rfl
  apply W_nil
  apply K_seq
  apply T_if
  · (simp only [go_sem, Try.ntmps17, bg0t]) <;> exact rfl
  · intro bh0t
    have h0t := bh0t
    try simp only [CS] at h0t
    try simp only [BS] at bh0t
    try exact absurd bh0t (by decide)
    all_goals (
  apply T_seq
  apply T_r F
  · (simp only [go_sem, Try.ntmps17, bg0t, bh0t]) <;> exact rfl
  apply K_seq
  apply T_ret
  apply K_seqR
  apply fin_ret
  · (simp only [go_sem, Try.ntmps17, bg0t, bh0t, Try.f17]) <;> exact rfl
  -- leaf 0 (ret)
  simp only [go_sem, Try.ntmps17, bg0t, bh0t, V.bool.injEq, V.int.injEq, true_and]
  simp_all)
  · intro bh0f
    have h0f := bh0f
    try simp only [CS] at h0f
    try simp only [BS] at bh0f
    try exact absurd bh0f (by decide)
    all_goals (
  apply T_skip
  apply K_seq
  apply T_seq
  apply T_wL F [0, 1, 2, 3] rfl
  apply W_pre [0] [1, 2, 3]
  · (simp only [go_sem, Try.ntmps17, bg0t, bh0f]) <;> exact rfl
  apply W_call -- call 2 of function 48
  · (simp only [go_sem, Try.ntmps17, bg0t, bh0f]) <;> exact rfl
  · (simp only [go_sem, Try.ntmps17, bg0t, bh0f]) <;> exact rfl
  · exact rfl
  · (simp only [go_sem, Try.ntmps17, bg0t, bh0f]) <;> exact rfl
  · (simp only [go_sem, Try.ntmps17, bg0t, bh0f]) <;> exact rfl
  · exact ⟨_, Try.func48, rfl, rfl⟩
  · (simp only [go_sem, Try.ntmps17, bg0t, bh0f]) <;> exact rfl
  · (simp only [go_sem, Try.ntmps17, bg0t, bh0f]) <;> exact rfl
  · exact mv_fault _ _ (by assumption) (by assumption) (by omega) (by omega)
  apply W_run
  · (simp only [go_sem, Try.ntmps17, bg0t, bh0f]) <;> exact rfl
  apply W_nil
  apply K_seq
  apply T_ret
  apply fin_ret
  · (simp only [go_sem, Try.ntmps17, bg0t, bh0f, Try.f17]) <;> exact rfl
  -- leaf 1 (ret)
  simp only [go_sem, Try.ntmps17, bg0t, bh0f, V.bool.injEq, V.int.injEq, true_and]
  simp_all))
  · intro bg0f
    have g0f := bg0f
    try simp only [CS] at g0f
    try simp only [BS] at bg0f
    try exact absurd bg0f (by decide)
    all_goals (
  apply W_run
  · (simp only [go_sem, Try.ntmps17, bg0f]) <;> exact rfl
  apply W_nil
  apply K_seq
  apply T_if
  · (simp only [go_sem, Try.ntmps17, bg0f]) <;> exact rfl
  · intro bh1t
    have h1t := bh1t
    try simp only [CS] at h1t
    try simp only [BS] at bh1t
    try exact absurd bh1t (by decide)
    all_goals (
  apply T_seq
  apply T_r F
  · (simp only [go_sem, Try.ntmps17, bg0f, bh1t]) <;> exact rfl
  apply K_seq
  apply T_ret
  apply K_seqR
  apply fin_ret
  · (simp only [go_sem, Try.ntmps17, bg0f, bh1t, Try.f17]) <;> exact rfl
  -- leaf 2 (ret)
  simp only [go_sem, Try.ntmps17, bg0f, bh1t, V.bool.injEq, V.int.injEq, true_and]
  simp_all)
  · intro bh1f
    exact absurd bh1f (by simp))

end Go.Ab
namespace Go.Ab
open Go Go.RowKit Go.Proofs Fac
set_option linter.unusedVariables false
set_option linter.unusedSimpArgs false
set_option maxRecDepth 4000
set_option maxHeartbeats 1000000




def M.chk (t : Town) : Int := if M.Ok t then 0 else 2
def M.ans (t : Town) (p : List Int) : Int × Int := if M.Ok t ∧ M.plan t p = true then M.fault t p else (0, 0)
def M.bad (t : Town) (p : List Int) : Int := if M.Ok t ∧ M.plan t p = true then 0 else 2
def M.err (t : Town) (p : List Int) : Int := if M.Ok t ∧ M.plan t p = true then (if M.allowed t p = true then 0 else 7) else 2
def M.rk (t : Town) (p : List Int) : List Int := if M.err t p = 0 then M.ranks t p else []
theorem mv_FaultAll {t : Town} {p : List Int} (hh : t.houses.length ≤ 1000) : Ret Try.prog 17 [.agg (cT t), .sl 1 (rI p)] (.tup [.agg [.int .i64 (M.ans t p).1, .int .i64 (M.ans t p).2], .int .i64 (M.bad t p)]) := by
  have := mv_Fault t p hh
  unfold M.ans M.bad
  by_cases h : M.Ok t ∧ M.plan t p = true
  · rw [if_pos h, if_pos h]; rw [if_pos h] at this; exact this
  · rw [if_neg h, if_neg h]; rw [if_neg h] at this; exact this

theorem mv_Check (t : Town) (hh : t.houses.length ≤ 1000) : Ret Try.prog 39 [.agg (cT t)] (.int .i64 (M.chk t)) := by
  apply Ret_fin (fn := Try.f39) Try.func39 rfl
  apply T_seq
  apply T_r F
  · (simp only [go_sem, Try.ntmps39]) <;> exact rfl
  apply K_seq
  apply T_seq
  apply T_seq
  apply T_wL F [0, 1, 2] rfl
  apply W_pre [0] [1, 2]
  · (simp only [go_sem, Try.ntmps39]) <;> exact rfl
  apply W_call -- call 0 of function 46
  · (simp only [go_sem, Try.ntmps39]) <;> exact rfl
  · (simp only [go_sem, Try.ntmps39]) <;> exact rfl
  · exact rfl
  · (simp only [go_sem, Try.ntmps39]) <;> exact rfl
  · (simp only [go_sem, Try.ntmps39]) <;> exact rfl
  · exact ⟨_, Try.func46, rfl, rfl⟩
  · (simp only [go_sem, Try.ntmps39]) <;> exact rfl
  · (simp only [go_sem, Try.ntmps39]) <;> exact rfl
  · exact mv_valid _ (by omega)
  apply W_run
  · (simp only [go_sem, Try.ntmps39]) <;> exact rfl
  apply W_nil
  apply K_seq
  apply T_if
  · (simp only [go_sem, Try.ntmps39]) <;> exact rfl
  · intro bh0t
    have h0t := bh0t
    try simp only [CS] at h0t
    try simp only [BS] at bh0t
    try exact absurd bh0t (by decide)
    all_goals (
  apply T_seq
  apply T_r F
  · (simp only [go_sem, Try.ntmps39, bh0t]) <;> exact rfl
  apply K_seq
  apply T_ret
  apply K_seqR
  apply fin_ret
  · (simp only [go_sem, Try.ntmps39, bh0t, Try.f39]) <;> exact rfl
  -- leaf 0 (ret)
  simp only [go_sem, Try.ntmps39, bh0t, V.bool.injEq, V.int.injEq, true_and]
  simp_all [M.chk])
  · intro bh0f
    have h0f := bh0f
    try simp only [CS] at h0f
    try simp only [BS] at bh0f
    try exact absurd bh0f (by decide)
    all_goals (
  apply T_skip
  apply K_seq
  apply T_seq
  apply T_r F
  · (simp only [go_sem, Try.ntmps39, bh0f]) <;> exact rfl
  apply K_seq
  apply T_ret
  apply fin_ret
  · (simp only [go_sem, Try.ntmps39, bh0f, Try.f39]) <;> exact rfl
  -- leaf 1 (ret)
  simp only [go_sem, Try.ntmps39, bh0f, V.bool.injEq, V.int.injEq, true_and]
  simp_all [M.chk])

theorem mv_allowed (t : Town) (p : List Int) (hh : t.houses.length ≤ 1000) : Ret Try.prog 49 [.agg (cW t p)] (.int .i64 (M.err t p)) := by
  refine Ret.of_fits fun hfits => ?_
  simp only [V.fits, V.fitsL, V.fitsR, cW_fits] at hfits
  have hl := hfits.1.1.schools
  have hlk := hfits.1.1.kin
  apply Ret_fin (fn := Try.f49) Try.func49 rfl
  apply T_seq
  apply T_r F
  · (simp only [go_sem, Try.ntmps49, cW_eq]) <;> exact rfl
  apply K_seq
  apply T_seq
  apply T_seq
  apply T_wL F [0, 1, 2, 3, 4, 5, 6, 7, 8] rfl
  apply W_pre [0, 1] [2, 3, 4, 5, 6, 7, 8]
  · (simp only [go_sem, Try.ntmps49, cW_eq]) <;> exact rfl
  apply W_call -- call 0 of function 46
  · (simp only [go_sem, Try.ntmps49, cW_eq]) <;> exact rfl
  · (simp only [go_sem, Try.ntmps49, cW_eq]) <;> exact rfl
  · exact rfl
  · (simp only [go_sem, Try.ntmps49, cW_eq]) <;> exact rfl
  · (simp only [go_sem, Try.ntmps49, cW_eq]) <;> exact rfl
  · exact ⟨_, Try.func46, rfl, rfl⟩
  · (simp only [go_sem, Try.ntmps49, cW_eq]) <;> exact rfl
  · (simp only [go_sem, Try.ntmps49, cW_eq]) <;> exact rfl
  · exact mv_valid _ (by omega)
  apply W_pre [3, 4] [5, 6, 7, 8]
  · (simp only [go_sem, Try.ntmps49, cW_eq]) <;> exact rfl
  apply W_guard
  · (simp only [go_sem, Try.ntmps49, cW_eq]) <;> exact rfl
  · (simp only [go_sem, Try.ntmps49, cW_eq]) <;> exact rfl
  · intro bg0t
    have g0t := bg0t
    try simp only [CS] at g0t
    try simp only [BS] at bg0t
    try exact absurd bg0t (by decide)
    all_goals (
  apply W_pre [5] [6, 7, 8]
  · (simp only [go_sem, Try.ntmps49, cW_eq, bg0t]) <;> exact rfl
  apply W_call -- call 1 of function 47
  · (simp only [go_sem, Try.ntmps49, cW_eq, bg0t]) <;> exact rfl
  · (simp only [go_sem, Try.ntmps49, cW_eq, bg0t]) <;> exact rfl
  · exact rfl
  · (simp only [go_sem, Try.ntmps49, cW_eq, bg0t]) <;> exact rfl
  · (simp only [go_sem, Try.ntmps49, cW_eq, bg0t]) <;> exact rfl
  · exact ⟨_, Try.func47, rfl, rfl⟩
  · (simp only [go_sem, Try.ntmps49, cW_eq, bg0t]) <;> exact rfl
  · (simp only [go_sem, Try.ntmps49, cW_eq, bg0t]) <;> exact rfl
  · exact mv_planned _ _
  apply W_run
  · (simp only [go_sem, Try.ntmps49, cW_eq, bg0t]) <;> exact rfl
  apply W_nil
  apply K_seq
  apply T_if
  · (simp only [go_sem, Try.ntmps49, cW_eq, bg0t]) <;> exact rfl
  · intro bh0t
    have h0t := bh0t
    try simp only [CS] at h0t
    try simp only [BS] at bh0t
    try exact absurd bh0t (by decide)
    all_goals (
  apply T_seq
  apply T_r F
  · (simp only [go_sem, Try.ntmps49, cW_eq, bg0t, bh0t]) <;> exact rfl
  apply K_seq
  apply T_ret
  apply K_seqR
  apply fin_ret
  · (simp only [go_sem, Try.ntmps49, cW_eq, bg0t, bh0t, Try.f49]) <;> exact rfl
  -- leaf 0 (ret)
  simp only [go_sem, Try.ntmps49, cW_eq, bg0t, bh0t, V.bool.injEq, V.int.injEq, true_and]
  simp_all [M.err, M.allowed])
  · intro bh0f
    have h0f := bh0f
    try simp only [CS] at h0f
    try simp only [BS] at bh0f
    try exact absurd bh0f (by decide)
    all_goals (
  apply T_skip
  apply K_seq
  apply T_seq
  apply T_seq
  apply T_wL F [0, 1, 2, 3] rfl
  apply W_pre [0] [1, 2, 3]
  · (simp only [go_sem, Try.ntmps49, cW_eq, bg0t, bh0f]) <;> exact rfl
  apply W_call -- call 2 of function 48
  · (simp only [go_sem, Try.ntmps49, cW_eq, bg0t, bh0f]) <;> exact rfl
  · (simp only [go_sem, Try.ntmps49, cW_eq, bg0t, bh0f]) <;> exact rfl
  · exact rfl
  · (simp only [go_sem, Try.ntmps49, cW_eq, bg0t, bh0f]) <;> exact rfl
  · (simp only [go_sem, Try.ntmps49, cW_eq, bg0t, bh0f]) <;> exact rfl
  · exact ⟨_, Try.func48, rfl, rfl⟩
  · (simp only [go_sem, Try.ntmps49, cW_eq, bg0t, bh0f]) <;> exact rfl
  · (simp only [go_sem, Try.ntmps49, cW_eq, bg0t, bh0f]) <;> exact rfl
  · exact mv_fault _ _ g0t (by first | assumption | simp_all) (by omega) (by omega)
  apply W_run
  · (simp only [go_sem, Try.ntmps49, cW_eq, bg0t, bh0f]) <;> exact rfl
  apply W_nil
  apply K_seq
  apply T_if
  · (simp only [go_sem, Try.ntmps49, cW_eq, bg0t, bh0f]) <;> exact rfl
  · intro bh1t
    have h1t := bh1t
    try simp only [CS] at h1t
    try simp only [BS] at bh1t
    try exact absurd bh1t (by decide)
    all_goals (
  apply T_seq
  apply T_r F
  · (simp only [go_sem, Try.ntmps49, cW_eq, bg0t, bh0f, bh1t]) <;> exact rfl
  apply K_seq
  apply T_ret
  apply K_seqR
  apply fin_ret
  · (simp only [go_sem, Try.ntmps49, cW_eq, bg0t, bh0f, bh1t, Try.f49]) <;> exact rfl
  -- leaf 1 (ret)
  simp only [go_sem, Try.ntmps49, cW_eq, bg0t, bh0f, bh1t, V.bool.injEq, V.int.injEq, true_and]
  simp_all [M.err, M.allowed])
  · intro bh1f
    have h1f := bh1f
    try simp only [CS] at h1f
    try simp only [BS] at bh1f
    try exact absurd bh1f (by decide)
    all_goals (
  apply T_skip
  apply K_seq
  apply T_seq
  apply T_r F
  · (simp only [go_sem, Try.ntmps49, cW_eq, bg0t, bh0f, bh1f]) <;> exact rfl
  apply K_seq
  apply T_ret
  apply fin_ret
  · (simp only [go_sem, Try.ntmps49, cW_eq, bg0t, bh0f, bh1f, Try.f49]) <;> exact rfl
  -- leaf 2 (ret)
  simp only [go_sem, Try.ntmps49, cW_eq, bg0t, bh0f, bh1f, V.bool.injEq, V.int.injEq, true_and]
  simp_all [M.err, M.allowed])))
  · intro bg0f
    have g0f := bg0f
    try simp only [CS] at g0f
    try simp only [BS] at bg0f
    try exact absurd bg0f (by decide)
    all_goals (
  apply W_run
  · (simp only [go_sem, Try.ntmps49, cW_eq, bg0f]) <;> exact rfl
  apply W_nil
  apply K_seq
  apply T_if
  · (simp only [go_sem, Try.ntmps49, cW_eq, bg0f]) <;> exact rfl
  · intro bh2t
    have h2t := bh2t
    try simp only [CS] at h2t
    try simp only [BS] at bh2t
    try exact absurd bh2t (by decide)
    all_goals (
  apply T_seq
  apply T_r F
  · (simp only [go_sem, Try.ntmps49, cW_eq, bg0f, bh2t]) <;> exact rfl
  apply K_seq
  apply T_ret
  apply K_seqR
  apply fin_ret
  · (simp only [go_sem, Try.ntmps49, cW_eq, bg0f, bh2t, Try.f49]) <;> exact rfl
  -- leaf 3 (ret)
  simp only [go_sem, Try.ntmps49, cW_eq, bg0f, bh2t, V.bool.injEq, V.int.injEq, true_and]
  simp_all [M.err, M.allowed])
  · intro bh2f
    exact absurd bh2f (by simp))

theorem mv_Ranks0 (t : Town) (p : List Int) (hh : t.houses.length ≤ 1000) : Ret Try.prog 34 [.agg (cT t), .sl 1 (rI p)] (if M.err t p = 0 then .tup [.sl 1 (rI (M.ranks t p)), .int .i64 0] else .tup [.nil, .int .i64 (M.err t p)]) := by
  apply Ret_fin (fn := Try.f34) Try.func34 rfl
  apply T_seq
  apply T_r F
  · (simp only [go_sem, Try.ntmps34, cW_eq]) <;> exact rfl
  apply K_seq
  apply T_seq
  apply T_r F
  · (simp only [go_sem, Try.ntmps34, cW_eq]) <;> exact rfl
  apply K_seq
  apply T_seq
  apply T_seq
  apply T_wL F [0, 1, 2] rfl
  apply W_pre [0] [1, 2]
  · (simp only [go_sem, Try.ntmps34, cW_eq]) <;> exact rfl
  apply W_call -- call 0 of function 49
  · (simp only [go_sem, Try.ntmps34, cW_eq]) <;> exact rfl
  · (simp only [go_sem, Try.ntmps34, cW_eq]) <;> exact rfl
  · exact rfl
  · (simp only [go_sem, Try.ntmps34, cW_eq]) <;> exact rfl
  · (simp only [go_sem, Try.ntmps34, cW_eq]) <;> exact rfl
  · exact ⟨_, Try.func49, rfl, rfl⟩
  · (simp only [go_sem, Try.ntmps34, cW_eq]) <;> exact rfl
  · (simp only [go_sem, Try.ntmps34, cW_eq]) <;> exact rfl
  · exact mv_allowed _ _ (by omega)
  apply W_run
  · (simp only [go_sem, Try.ntmps34, cW_eq]) <;> exact rfl
  apply W_nil
  apply K_seq
  apply T_seq
  apply T_r F
  · (simp only [go_sem, Try.ntmps34, cW_eq]) <;> exact rfl
  apply K_seq
  apply T_if
  · (simp only [go_sem, Try.ntmps34, cW_eq]) <;> exact rfl
  · intro bh0t
    have h0t := bh0t
    try simp only [CS] at h0t
    try simp only [BS] at bh0t
    try exact absurd bh0t (by decide)
    all_goals (
  apply T_seq
  apply T_r F
  · (simp only [go_sem, Try.ntmps34, cW_eq, bh0t]) <;> exact rfl
  apply K_seq
  apply T_ret
  apply K_seqR
  apply fin_ret
  · (simp only [go_sem, Try.ntmps34, cW_eq, bh0t, Try.f34]) <;> exact rfl
  -- leaf 0 (ret)
  simp only [go_sem, Try.ntmps34, cW_eq, bh0t, V.bool.injEq, V.int.injEq, true_and]
  simp_all)
  · intro bh0f
    have h0f := bh0f
    try simp only [CS] at h0f
    try simp only [BS] at bh0f
    try exact absurd bh0f (by decide)
    all_goals (
  have hpl : p.length = t.houses.length := by
    have h1 := h0f
    unfold M.err at h1
    split at h1
    · rename_i hc; exact (M.plan_iff.1 hc.2).1
    · omega
  apply T_skip
  apply K_seq
  apply T_seq
  apply T_wL F [0, 1, 2, 3] rfl
  apply W_pre [0] [1, 2, 3]
  · (simp only [go_sem, Try.ntmps34, cW_eq, bh0f]) <;> exact rfl
  apply W_call -- call 1 of function 50
  · (simp only [go_sem, Try.ntmps34, cW_eq, bh0f]) <;> exact rfl
  · (simp only [go_sem, Try.ntmps34, cW_eq, bh0f]) <;> exact rfl
  · exact rfl
  · (simp only [go_sem, Try.ntmps34, cW_eq, bh0f]) <;> exact rfl
  · (simp only [go_sem, Try.ntmps34, cW_eq, bh0f]) <;> exact rfl
  · exact ⟨_, Try.func50, rfl, rfl⟩
  · (simp only [go_sem, Try.ntmps34, cW_eq, bh0f]) <;> exact rfl
  · (simp only [go_sem, Try.ntmps34, cW_eq, bh0f]) <;> exact rfl
  · exact mv_ranks _ _ (by omega) (by omega)
  apply W_run
  · (simp only [go_sem, Try.ntmps34, cW_eq, bh0f]) <;> exact rfl
  apply W_nil
  apply K_seq
  apply T_ret
  apply fin_ret
  · (simp only [go_sem, Try.ntmps34, cW_eq, bh0f, Try.f34]) <;> exact rfl
  -- leaf 1 (ret)
  simp only [go_sem, Try.ntmps34, cW_eq, bh0f, V.bool.injEq, V.int.injEq, true_and]
  simp_all)


theorem nil_tup {E : Env} {x : V} {v : Value} (h : Rel E (.tup [.nil, x]) v) : Rel E (.tup [.sl 1 (rI []), x]) v := by
  simp only [Rel, RelL] at h ⊢
  obtain ⟨vs, rfl, u, us, e, rfl, hr⟩ := h
  exact ⟨vs, rfl, _, us, e, ⟨none, 0, rfl, by simp [rI], .inl rfl⟩, hr⟩
theorem mv_RanksAll {t : Town} {p : List Int} (hh : t.houses.length ≤ 1000) : Ret Try.prog 34 [.agg (cT t), .sl 1 (rI p)] (.tup [.sl 1 (rI (M.rk t p)), .int .i64 (M.err t p)]) := by
  have := mv_Ranks0 t p hh
  unfold M.rk
  by_cases h : M.err t p = 0
  · rw [if_pos h] at this
    rw [if_pos h, h]
    exact this
  · rw [if_neg h] at this
    rw [if_neg h]
    exact fun bad w cargs hb hR => (this bad w cargs hb hR).mono fun e w' ⟨v, he, hr, bel⟩ => ⟨v, he, nil_tup hr, bel⟩
end Go.Ab
namespace Go.Ab
open Go Go.RowKit Go.Proofs Fac
set_option linter.unusedVariables false
set_option linter.unusedSimpArgs false
set_option maxRecDepth 4000
set_option maxHeartbeats 1000000





theorem law_faultsA (t : Town) (p : List Int) (hs : ¬ M.Short t) : Ret Try.prog 11 [.agg (cT t), .sl 1 (rI p)] (.bool true) := by
  refine Ret.of_fits fun hfits => ?_
  simp only [V.fits, V.fitsL, V.fitsR, cT_fits] at hfits
  simp only [rI_length] at hfits
  have hl := hfits.2.1.1
  apply Ret_fin (fn := Try.f11) Try.func11 rfl
  apply T_seq
  apply T_r F
  · (simp only [go_sem, Try.ntmps11, hs]) <;> exact rfl
  apply K_seq
  apply T_seq
  apply T_seq
  apply T_wL F [0, 1, 2, 3, 4, 5, 6, 7] rfl
  apply W_pre [0] [1, 2, 3, 4, 5, 6, 7]
  · (simp only [go_sem, Try.ntmps11, hs]) <;> exact rfl
  apply W_call -- call 0 of function 12
  · (simp only [go_sem, Try.ntmps11, hs]) <;> exact rfl
  · (simp only [go_sem, Try.ntmps11, hs]) <;> exact rfl
  · exact rfl
  · (simp only [go_sem, Try.ntmps11, hs]) <;> exact rfl
  · (simp only [go_sem, Try.ntmps11, hs]) <;> exact rfl
  · exact ⟨_, Try.func12, rfl, rfl⟩
  · (simp only [go_sem, Try.ntmps11, hs]) <;> exact rfl
  · (simp only [go_sem, Try.ntmps11, hs]) <;> exact rfl
  · exact law_short _
  apply W_run
  · (simp only [go_sem, Try.ntmps11, hs]) <;> exact rfl
  apply W_nil
  apply K_seq
  apply T_ifT -- h0
  · (simp only [go_sem, Try.ntmps11, hs]) <;> exact rfl
  apply T_seq
  apply T_wL F [0, 1] rfl
  apply W_call -- call 1 of function 16
  · (simp only [go_sem, Try.ntmps11, hs]) <;> exact rfl
  · (simp only [go_sem, Try.ntmps11, hs]) <;> exact rfl
  · exact rfl
  · (simp only [go_sem, Try.ntmps11, hs]) <;> exact rfl
  · (simp only [go_sem, Try.ntmps11, hs]) <;> exact rfl
  · exact ⟨_, Try.func16, rfl, rfl⟩
  · (simp only [go_sem, Try.ntmps11, hs]) <;> exact rfl
  · (simp only [go_sem, Try.ntmps11, hs]) <;> exact rfl
  · exact known_ok
  apply W_run
  · (simp only [go_sem, Try.ntmps11, hs]) <;> exact rfl
  apply W_nil
  apply K_seq
  apply T_ret
  apply K_seqR
  apply fin_ret
  · (simp only [go_sem, Try.ntmps11, hs, Try.f11]) <;> exact rfl
  -- leaf 0 (ret)
  simp only [go_sem, Try.ntmps11, hs, V.bool.injEq, V.int.injEq, true_and]
  all_goals rfl

theorem law_faultsB (t : Town) (p : List Int) (hs : M.Short t) (hp : (12 : Int) < (p.length : Int)) : Ret Try.prog 11 [.agg (cT t), .sl 1 (rI p)] (.bool true) := by
  refine Ret.of_fits fun hfits => ?_
  simp only [V.fits, V.fitsL, V.fitsR, cT_fits] at hfits
  simp only [rI_length] at hfits
  have hl := hfits.2.1.1
  apply Ret_fin (fn := Try.f11) Try.func11 rfl
  apply T_seq
  apply T_r F
  · (simp only [go_sem, Try.ntmps11, hs, hp]) <;> exact rfl
  apply K_seq
  apply T_seq
  apply T_seq
  apply T_wL F [0, 1, 2, 3, 4, 5, 6, 7] rfl
  apply W_pre [0] [1, 2, 3, 4, 5, 6, 7]
  · (simp only [go_sem, Try.ntmps11, hs, hp]) <;> exact rfl
  apply W_call -- call 0 of function 12
  · (simp only [go_sem, Try.ntmps11, hs, hp]) <;> exact rfl
  · (simp only [go_sem, Try.ntmps11, hs, hp]) <;> exact rfl
  · exact rfl
  · (simp only [go_sem, Try.ntmps11, hs, hp]) <;> exact rfl
  · (simp only [go_sem, Try.ntmps11, hs, hp]) <;> exact rfl
  · exact ⟨_, Try.func12, rfl, rfl⟩
  · (simp only [go_sem, Try.ntmps11, hs, hp]) <;> exact rfl
  · (simp only [go_sem, Try.ntmps11, hs, hp]) <;> exact rfl
  · exact law_short _
  apply W_run
  · (simp only [go_sem, Try.ntmps11, hs, hp]) <;> exact rfl
  apply W_nil
  apply K_seq
  apply T_ifT -- h0
  · (simp only [go_sem, Try.ntmps11, hs, hp]) <;> exact rfl
  apply T_seq
  apply T_wL F [0, 1] rfl
  apply W_call -- call 1 of function 16
  · (simp only [go_sem, Try.ntmps11, hs, hp]) <;> exact rfl
  · (simp only [go_sem, Try.ntmps11, hs, hp]) <;> exact rfl
  · exact rfl
  · (simp only [go_sem, Try.ntmps11, hs, hp]) <;> exact rfl
  · (simp only [go_sem, Try.ntmps11, hs, hp]) <;> exact rfl
  · exact ⟨_, Try.func16, rfl, rfl⟩
  · (simp only [go_sem, Try.ntmps11, hs, hp]) <;> exact rfl
  · (simp only [go_sem, Try.ntmps11, hs, hp]) <;> exact rfl
  · exact known_ok
  apply W_run
  · (simp only [go_sem, Try.ntmps11, hs, hp]) <;> exact rfl
  apply W_nil
  apply K_seq
  apply T_ret
  apply K_seqR
  apply fin_ret
  · (simp only [go_sem, Try.ntmps11, hs, hp, Try.f11]) <;> exact rfl
  -- leaf 0 (ret)
  simp only [go_sem, Try.ntmps11, hs, hp, V.bool.injEq, V.int.injEq, true_and]
  all_goals rfl

theorem law_faultsC (t : Town) (p : List Int) (hs : M.Short t) (hp : ¬ (12 : Int) < (p.length : Int)) (ok : ¬ M.Ok t) : Ret Try.prog 11 [.agg (cT t), .sl 1 (rI p)] (.bool true) := by
  refine Ret.of_fits fun hfits => ?_
  simp only [V.fits, V.fitsL, V.fitsR, cT_fits] at hfits
  simp only [rI_length] at hfits
  have hl := hfits.2.1.1
  have hh : t.houses.length ≤ 1000 := by have := hs.2.2.2.2.2.1; omega
  have h1 : M.chk t = 2 := by simp [M.chk, ok]
  have h2 : M.ans t p = (0, 0) := by simp [M.ans, ok]
  have h3 : M.bad t p = 2 := by simp [M.bad, ok]
  have h4 : M.err t p = 2 := by simp [M.err, ok]
  have h5 : M.rk t p = [] := by simp [M.rk, h4]
  apply Ret_fin (fn := Try.f11) Try.func11 rfl
  apply T_seq
  apply T_r F
  · (simp only [go_sem, Try.ntmps11, hs, hp, ok, h1, h2, h3, h4, h5]) <;> exact rfl
  apply K_seq
  apply T_seq
  apply T_seq
  apply T_wL F [0, 1, 2, 3, 4, 5, 6, 7] rfl
  apply W_pre [0] [1, 2, 3, 4, 5, 6, 7]
  · (simp only [go_sem, Try.ntmps11, hs, hp, ok, h1, h2, h3, h4, h5]) <;> exact rfl
  apply W_call -- call 0 of function 12
  · (simp only [go_sem, Try.ntmps11, hs, hp, ok, h1, h2, h3, h4, h5]) <;> exact rfl
  · (simp only [go_sem, Try.ntmps11, hs, hp, ok, h1, h2, h3, h4, h5]) <;> exact rfl
  · exact rfl
  · (simp only [go_sem, Try.ntmps11, hs, hp, ok, h1, h2, h3, h4, h5]) <;> exact rfl
  · (simp only [go_sem, Try.ntmps11, hs, hp, ok, h1, h2, h3, h4, h5]) <;> exact rfl
  · exact ⟨_, Try.func12, rfl, rfl⟩
  · (simp only [go_sem, Try.ntmps11, hs, hp, ok, h1, h2, h3, h4, h5]) <;> exact rfl
  · (simp only [go_sem, Try.ntmps11, hs, hp, ok, h1, h2, h3, h4, h5]) <;> exact rfl
  · exact law_short _
  apply W_run
  · (simp only [go_sem, Try.ntmps11, hs, hp, ok, h1, h2, h3, h4, h5]) <;> exact rfl
  apply W_nil
  apply K_seq
  apply T_ifF -- h0
  · (simp only [go_sem, Try.ntmps11, hs, hp, ok, h1, h2, h3, h4, h5]) <;> exact rfl
  apply T_skip
  apply K_seq
  apply T_seq
  apply T_wL F [0, 1, 2] rfl
  apply W_pre [0] [1, 2]
  · (simp only [go_sem, Try.ntmps11, hs, hp, ok, h1, h2, h3, h4, h5]) <;> exact rfl
  apply W_call -- call 1 of function 39
  · (simp only [go_sem, Try.ntmps11, hs, hp, ok, h1, h2, h3, h4, h5]) <;> exact rfl
  · (simp only [go_sem, Try.ntmps11, hs, hp, ok, h1, h2, h3, h4, h5]) <;> exact rfl
  · exact rfl
  · (simp only [go_sem, Try.ntmps11, hs, hp, ok, h1, h2, h3, h4, h5]) <;> exact rfl
  · (simp only [go_sem, Try.ntmps11, hs, hp, ok, h1, h2, h3, h4, h5]) <;> exact rfl
  · exact ⟨_, Try.func39, rfl, rfl⟩
  · (simp only [go_sem, Try.ntmps11, hs, hp, ok, h1, h2, h3, h4, h5]) <;> exact rfl
  · (simp only [go_sem, Try.ntmps11, hs, hp, ok, h1, h2, h3, h4, h5]) <;> exact rfl
  · exact mv_Check _ (by omega)
  apply W_run
  · (simp only [go_sem, Try.ntmps11, hs, hp, ok, h1, h2, h3, h4, h5]) <;> exact rfl
  apply W_nil
  apply K_seq
  apply T_seq
  apply T_wL F [0, 1, 2, 3, 4, 5, 6, 7, 8] rfl
  apply W_pre [0, 1] [2, 3, 4, 5, 6, 7, 8]
  · (simp only [go_sem, Try.ntmps11, hs, hp, ok, h1, h2, h3, h4, h5]) <;> exact rfl
  apply W_call -- call 2 of function 17
  · (simp only [go_sem, Try.ntmps11, hs, hp, ok, h1, h2, h3, h4, h5]) <;> exact rfl
  · (simp only [go_sem, Try.ntmps11, hs, hp, ok, h1, h2, h3, h4, h5]) <;> exact rfl
  · exact rfl
  · (simp only [go_sem, Try.ntmps11, hs, hp, ok, h1, h2, h3, h4, h5]) <;> exact rfl
  · (simp only [go_sem, Try.ntmps11, hs, hp, ok, h1, h2, h3, h4, h5]) <;> exact rfl
  · exact ⟨_, Try.func17, rfl, rfl⟩
  · (simp only [go_sem, Try.ntmps11, hs, hp, ok, h1, h2, h3, h4, h5]) <;> exact rfl
  · (simp only [go_sem, Try.ntmps11, hs, hp, ok, h1, h2, h3, h4, h5]) <;> exact rfl
  · exact mv_FaultAll (by omega)
  apply W_run
  · (simp only [go_sem, Try.ntmps11, hs, hp, ok, h1, h2, h3, h4, h5]) <;> exact rfl
  apply W_nil
  apply K_seq
  apply T_seq
  apply T_wL F [0, 1, 2, 3, 4, 5, 6, 7] rfl
  apply W_pre [0, 1] [2, 3, 4, 5, 6, 7]
  · (simp only [go_sem, Try.ntmps11, hs, hp, ok, h1, h2, h3, h4, h5]) <;> exact rfl
  apply W_call -- call 3 of function 34
  · (simp only [go_sem, Try.ntmps11, hs, hp, ok, h1, h2, h3, h4, h5]) <;> exact rfl
  · (simp only [go_sem, Try.ntmps11, hs, hp, ok, h1, h2, h3, h4, h5]) <;> exact rfl
  · exact rfl
  · (simp only [go_sem, Try.ntmps11, hs, hp, ok, h1, h2, h3, h4, h5]) <;> exact rfl
  · (simp only [go_sem, Try.ntmps11, hs, hp, ok, h1, h2, h3, h4, h5]) <;> exact rfl
  · exact ⟨_, Try.func34, rfl, rfl⟩
  · (simp only [go_sem, Try.ntmps11, hs, hp, ok, h1, h2, h3, h4, h5]) <;> exact rfl
  · (simp only [go_sem, Try.ntmps11, hs, hp, ok, h1, h2, h3, h4, h5]) <;> exact rfl
  · exact mv_RanksAll (by omega)
  apply W_run
  · (simp only [go_sem, Try.ntmps11, hs, hp, ok, h1, h2, h3, h4, h5]) <;> exact rfl
  apply W_nil
  apply K_seq
  apply T_seq
  apply T_seq
  apply T_wL F [0, 1, 2] rfl
  apply W_pre [0] [1, 2]
  · (simp only [go_sem, Try.ntmps11, hs, hp, ok, h1, h2, h3, h4, h5]) <;> exact rfl
  apply W_call -- call 4 of function 13
  · (simp only [go_sem, Try.ntmps11, hs, hp, ok, h1, h2, h3, h4, h5]) <;> exact rfl
  · (simp only [go_sem, Try.ntmps11, hs, hp, ok, h1, h2, h3, h4, h5]) <;> exact rfl
  · exact rfl
  · (simp only [go_sem, Try.ntmps11, hs, hp, ok, h1, h2, h3, h4, h5]) <;> exact rfl
  · (simp only [go_sem, Try.ntmps11, hs, hp, ok, h1, h2, h3, h4, h5]) <;> exact rfl
  · exact ⟨_, Try.func13, rfl, rfl⟩
  · (simp only [go_sem, Try.ntmps11, hs, hp, ok, h1, h2, h3, h4, h5]) <;> exact rfl
  · (simp only [go_sem, Try.ntmps11, hs, hp, ok, h1, h2, h3, h4, h5]) <;> exact rfl
  · exact ref_town _
  apply W_run
  · (simp only [go_sem, Try.ntmps11, hs, hp, ok, h1, h2, h3, h4, h5]) <;> exact rfl
  apply W_nil
  apply K_seq
  apply T_seq
  apply T_wL F [0, 1, 2, 3, 4, 5, 6, 7, 8, 9, 10, 11, 12] rfl
  apply W_pre [0, 1, 2, 3] [4, 5, 6, 7, 8, 9, 10, 11, 12]
  · (simp only [go_sem, Try.ntmps11, hs, hp, ok, h1, h2, h3, h4, h5]) <;> exact rfl
  apply W_pre [4, 5, 6, 7] [8, 9, 10, 11, 12]
  · (simp only [go_sem, Try.ntmps11, hs, hp, ok, h1, h2, h3, h4, h5]) <;> exact rfl
  apply W_run
  · (simp only [go_sem, Try.ntmps11, hs, hp, ok, h1, h2, h3, h4, h5]) <;> exact rfl
  apply W_nil
  apply K_seq
  apply T_ifF -- h1
  · (simp only [go_sem, Try.ntmps11, hs, hp, ok, h1, h2, h3, h4, h5]) <;> exact rfl
  apply T_skip
  apply K_seq
  apply T_seq
  apply T_seq
  apply T_wL F [0, 1, 2, 3, 4, 5, 6, 7, 8] rfl
  apply W_pre [0] [1, 2, 3, 4, 5, 6, 7, 8]
  · (simp only [go_sem, Try.ntmps11, hs, hp, ok, h1, h2, h3, h4, h5]) <;> exact rfl
  apply W_call -- call 5 of function 13
  · (simp only [go_sem, Try.ntmps11, hs, hp, ok, h1, h2, h3, h4, h5]) <;> exact rfl
  · (simp only [go_sem, Try.ntmps11, hs, hp, ok, h1, h2, h3, h4, h5]) <;> exact rfl
  · exact rfl
  · (simp only [go_sem, Try.ntmps11, hs, hp, ok, h1, h2, h3, h4, h5]) <;> exact rfl
  · (simp only [go_sem, Try.ntmps11, hs, hp, ok, h1, h2, h3, h4, h5]) <;> exact rfl
  · exact ⟨_, Try.func13, rfl, rfl⟩
  · (simp only [go_sem, Try.ntmps11, hs, hp, ok, h1, h2, h3, h4, h5]) <;> exact rfl
  · (simp only [go_sem, Try.ntmps11, hs, hp, ok, h1, h2, h3, h4, h5]) <;> exact rfl
  · exact ref_town _
  apply W_pre [2, 3, 4, 5] [6, 7, 8]
  · (simp only [go_sem, Try.ntmps11, hs, hp, ok, h1, h2, h3, h4, h5]) <;> exact rfl
  apply W_run
  · (simp only [go_sem, Try.ntmps11, hs, hp, ok, h1, h2, h3, h4, h5]) <;> exact rfl
  apply W_nil
  apply K_seq
  apply T_ifT -- h2
  · (simp only [go_sem, Try.ntmps11, hs, hp, ok, h1, h2, h3, h4, h5]) <;> exact rfl
  apply T_seq
  apply T_wL F [0, 1, 2, 3, 4, 5, 6, 7, 8, 9, 10, 11, 12, 13, 14, 15, 16, 17, 18, 19] rfl
  apply W_pre [0, 1, 2, 3] [4, 5, 6, 7, 8, 9, 10, 11, 12, 13, 14, 15, 16, 17, 18, 19]
  · (simp only [go_sem, Try.ntmps11, hs, hp, ok, h1, h2, h3, h4, h5]) <;> exact rfl
  apply W_pre [4, 5, 6, 7] [8, 9, 10, 11, 12, 13, 14, 15, 16, 17, 18, 19]
  · (simp only [go_sem, Try.ntmps11, hs, hp, ok, h1, h2, h3, h4, h5]) <;> exact rfl
  apply W_pre [8, 9, 10, 11] [12, 13, 14, 15, 16, 17, 18, 19]
  · (simp only [go_sem, Try.ntmps11, hs, hp, ok, h1, h2, h3, h4, h5]) <;> exact rfl
  apply W_pre [12, 13, 14, 15, 16] [17, 18, 19]
  · (simp only [go_sem, Try.ntmps11, hs, hp, ok, h1, h2, h3, h4, h5]) <;> exact rfl
  apply W_call -- call 6 of function 16
  · (simp only [go_sem, Try.ntmps11, hs, hp, ok, h1, h2, h3, h4, h5]) <;> exact rfl
  · (simp only [go_sem, Try.ntmps11, hs, hp, ok, h1, h2, h3, h4, h5]) <;> exact rfl
  · exact rfl
  · (simp only [go_sem, Try.ntmps11, hs, hp, ok, h1, h2, h3, h4, h5]) <;> exact rfl
  · (simp only [go_sem, Try.ntmps11, hs, hp, ok, h1, h2, h3, h4, h5]) <;> exact rfl
  · exact ⟨_, Try.func16, rfl, rfl⟩
  · (simp only [go_sem, Try.ntmps11, hs, hp, ok, h1, h2, h3, h4, h5]) <;> exact rfl
  · (simp only [go_sem, Try.ntmps11, hs, hp, ok, h1, h2, h3, h4, h5]) <;> exact rfl
  · exact known_ok
  apply W_run
  · (simp only [go_sem, Try.ntmps11, hs, hp, ok, h1, h2, h3, h4, h5]) <;> exact rfl
  apply W_nil
  apply K_seq
  apply T_ret
  apply K_seqR
  apply fin_ret
  · (simp only [go_sem, Try.ntmps11, hs, hp, ok, h1, h2, h3, h4, h5, Try.f11]) <;> exact rfl
  -- leaf 0 (ret)
  simp only [go_sem, Try.ntmps11, hs, hp, ok, h1, h2, h3, h4, h5, V.bool.injEq, V.int.injEq, true_and]
  all_goals rfl

theorem law_faultsD (t : Town) (p : List Int) (hs : M.Short t) (hp : ¬ (12 : Int) < (p.length : Int)) (ok : M.Ok t) (hpl : M.plan t p = false) : Ret Try.prog 11 [.agg (cT t), .sl 1 (rI p)] (.bool true) := by
  refine Ret.of_fits fun hfits => ?_
  simp only [V.fits, V.fitsL, V.fitsR, cT_fits] at hfits
  simp only [rI_length] at hfits
  have hl := hfits.2.1.1
  have hh : t.houses.length ≤ 1000 := by have := hs.2.2.2.2.2.1; omega
  have h1 : M.chk t = 0 := by simp [M.chk, ok, hpl]
  have h2 : M.ans t p = (0, 0) := by simp [M.ans, ok, hpl]
  have h3 : M.bad t p = 2 := by simp [M.bad, ok, hpl]
  have h4 : M.err t p = 2 := by simp [M.err, ok, hpl]
  have h5 : M.rk t p = [] := by simp [M.rk, h4]
  apply Ret_fin (fn := Try.f11) Try.func11 rfl
  apply T_seq
  apply T_r F
  · (simp only [go_sem, Try.ntmps11, hs, hp, ok, h1, h2, h3, h4, h5, hpl]) <;> exact rfl
  apply K_seq
  apply T_seq
  apply T_seq
  apply T_wL F [0, 1, 2, 3, 4, 5, 6, 7] rfl
  apply W_pre [0] [1, 2, 3, 4, 5, 6, 7]
  · (simp only [go_sem, Try.ntmps11, hs, hp, ok, h1, h2, h3, h4, h5, hpl]) <;> exact rfl
  apply W_call -- call 0 of function 12
  · (simp only [go_sem, Try.ntmps11, hs, hp, ok, h1, h2, h3, h4, h5, hpl]) <;> exact rfl
  · (simp only [go_sem, Try.ntmps11, hs, hp, ok, h1, h2, h3, h4, h5, hpl]) <;> exact rfl
  · exact rfl
  · (simp only [go_sem, Try.ntmps11, hs, hp, ok, h1, h2, h3, h4, h5, hpl]) <;> exact rfl
  · (simp only [go_sem, Try.ntmps11, hs, hp, ok, h1, h2, h3, h4, h5, hpl]) <;> exact rfl
  · exact ⟨_, Try.func12, rfl, rfl⟩
  · (simp only [go_sem, Try.ntmps11, hs, hp, ok, h1, h2, h3, h4, h5, hpl]) <;> exact rfl
  · (simp only [go_sem, Try.ntmps11, hs, hp, ok, h1, h2, h3, h4, h5, hpl]) <;> exact rfl
  · exact law_short _
  apply W_run
  · (simp only [go_sem, Try.ntmps11, hs, hp, ok, h1, h2, h3, h4, h5, hpl]) <;> exact rfl
  apply W_nil
  apply K_seq
  apply T_ifF -- h0
  · (simp only [go_sem, Try.ntmps11, hs, hp, ok, h1, h2, h3, h4, h5, hpl]) <;> exact rfl
  apply T_skip
  apply K_seq
  apply T_seq
  apply T_wL F [0, 1, 2] rfl
  apply W_pre [0] [1, 2]
  · (simp only [go_sem, Try.ntmps11, hs, hp, ok, h1, h2, h3, h4, h5, hpl]) <;> exact rfl
  apply W_call -- call 1 of function 39
  · (simp only [go_sem, Try.ntmps11, hs, hp, ok, h1, h2, h3, h4, h5, hpl]) <;> exact rfl
  · (simp only [go_sem, Try.ntmps11, hs, hp, ok, h1, h2, h3, h4, h5, hpl]) <;> exact rfl
  · exact rfl
  · (simp only [go_sem, Try.ntmps11, hs, hp, ok, h1, h2, h3, h4, h5, hpl]) <;> exact rfl
  · (simp only [go_sem, Try.ntmps11, hs, hp, ok, h1, h2, h3, h4, h5, hpl]) <;> exact rfl
  · exact ⟨_, Try.func39, rfl, rfl⟩
  · (simp only [go_sem, Try.ntmps11, hs, hp, ok, h1, h2, h3, h4, h5, hpl]) <;> exact rfl
  · (simp only [go_sem, Try.ntmps11, hs, hp, ok, h1, h2, h3, h4, h5, hpl]) <;> exact rfl
  · exact mv_Check _ (by omega)
  apply W_run
  · (simp only [go_sem, Try.ntmps11, hs, hp, ok, h1, h2, h3, h4, h5, hpl]) <;> exact rfl
  apply W_nil
  apply K_seq
  apply T_seq
  apply T_wL F [0, 1, 2, 3, 4, 5, 6, 7, 8] rfl
  apply W_pre [0, 1] [2, 3, 4, 5, 6, 7, 8]
  · (simp only [go_sem, Try.ntmps11, hs, hp, ok, h1, h2, h3, h4, h5, hpl]) <;> exact rfl
  apply W_call -- call 2 of function 17
  · (simp only [go_sem, Try.ntmps11, hs, hp, ok, h1, h2, h3, h4, h5, hpl]) <;> exact rfl
  · (simp only [go_sem, Try.ntmps11, hs, hp, ok, h1, h2, h3, h4, h5, hpl]) <;> exact rfl
  · exact rfl
  · (simp only [go_sem, Try.ntmps11, hs, hp, ok, h1, h2, h3, h4, h5, hpl]) <;> exact rfl
  · (simp only [go_sem, Try.ntmps11, hs, hp, ok, h1, h2, h3, h4, h5, hpl]) <;> exact rfl
  · exact ⟨_, Try.func17, rfl, rfl⟩
  · (simp only [go_sem, Try.ntmps11, hs, hp, ok, h1, h2, h3, h4, h5, hpl]) <;> exact rfl
  · (simp only [go_sem, Try.ntmps11, hs, hp, ok, h1, h2, h3, h4, h5, hpl]) <;> exact rfl
  · exact mv_FaultAll (by omega)
  apply W_run
  · (simp only [go_sem, Try.ntmps11, hs, hp, ok, h1, h2, h3, h4, h5, hpl]) <;> exact rfl
  apply W_nil
  apply K_seq
  apply T_seq
  apply T_wL F [0, 1, 2, 3, 4, 5, 6, 7] rfl
  apply W_pre [0, 1] [2, 3, 4, 5, 6, 7]
  · (simp only [go_sem, Try.ntmps11, hs, hp, ok, h1, h2, h3, h4, h5, hpl]) <;> exact rfl
  apply W_call -- call 3 of function 34
  · (simp only [go_sem, Try.ntmps11, hs, hp, ok, h1, h2, h3, h4, h5, hpl]) <;> exact rfl
  · (simp only [go_sem, Try.ntmps11, hs, hp, ok, h1, h2, h3, h4, h5, hpl]) <;> exact rfl
  · exact rfl
  · (simp only [go_sem, Try.ntmps11, hs, hp, ok, h1, h2, h3, h4, h5, hpl]) <;> exact rfl
  · (simp only [go_sem, Try.ntmps11, hs, hp, ok, h1, h2, h3, h4, h5, hpl]) <;> exact rfl
  · exact ⟨_, Try.func34, rfl, rfl⟩
  · (simp only [go_sem, Try.ntmps11, hs, hp, ok, h1, h2, h3, h4, h5, hpl]) <;> exact rfl
  · (simp only [go_sem, Try.ntmps11, hs, hp, ok, h1, h2, h3, h4, h5, hpl]) <;> exact rfl
  · exact mv_RanksAll (by omega)
  apply W_run
  · (simp only [go_sem, Try.ntmps11, hs, hp, ok, h1, h2, h3, h4, h5, hpl]) <;> exact rfl
  apply W_nil
  apply K_seq
  apply T_seq
  apply T_seq
  apply T_wL F [0, 1, 2] rfl
  apply W_pre [0] [1, 2]
  · (simp only [go_sem, Try.ntmps11, hs, hp, ok, h1, h2, h3, h4, h5, hpl]) <;> exact rfl
  apply W_call -- call 4 of function 13
  · (simp only [go_sem, Try.ntmps11, hs, hp, ok, h1, h2, h3, h4, h5, hpl]) <;> exact rfl
  · (simp only [go_sem, Try.ntmps11, hs, hp, ok, h1, h2, h3, h4, h5, hpl]) <;> exact rfl
  · exact rfl
  · (simp only [go_sem, Try.ntmps11, hs, hp, ok, h1, h2, h3, h4, h5, hpl]) <;> exact rfl
  · (simp only [go_sem, Try.ntmps11, hs, hp, ok, h1, h2, h3, h4, h5, hpl]) <;> exact rfl
  · exact ⟨_, Try.func13, rfl, rfl⟩
  · (simp only [go_sem, Try.ntmps11, hs, hp, ok, h1, h2, h3, h4, h5, hpl]) <;> exact rfl
  · (simp only [go_sem, Try.ntmps11, hs, hp, ok, h1, h2, h3, h4, h5, hpl]) <;> exact rfl
  · exact ref_town _
  apply W_run
  · (simp only [go_sem, Try.ntmps11, hs, hp, ok, h1, h2, h3, h4, h5, hpl]) <;> exact rfl
  apply W_nil
  apply K_seq
  apply T_seq
  apply T_wL F [0, 1, 2, 3, 4, 5, 6, 7, 8, 9, 10, 11, 12] rfl
  apply W_pre [0, 1, 2, 3] [4, 5, 6, 7, 8, 9, 10, 11, 12]
  · (simp only [go_sem, Try.ntmps11, hs, hp, ok, h1, h2, h3, h4, h5, hpl]) <;> exact rfl
  apply W_pre [4, 5, 6, 7] [8, 9, 10, 11, 12]
  · (simp only [go_sem, Try.ntmps11, hs, hp, ok, h1, h2, h3, h4, h5, hpl]) <;> exact rfl
  apply W_run
  · (simp only [go_sem, Try.ntmps11, hs, hp, ok, h1, h2, h3, h4, h5, hpl]) <;> exact rfl
  apply W_nil
  apply K_seq
  apply T_ifF -- h1
  · (simp only [go_sem, Try.ntmps11, hs, hp, ok, h1, h2, h3, h4, h5, hpl]) <;> exact rfl
  apply T_skip
  apply K_seq
  apply T_seq
  apply T_seq
  apply T_wL F [0, 1, 2, 3, 4, 5, 6, 7, 8] rfl
  apply W_pre [0] [1, 2, 3, 4, 5, 6, 7, 8]
  · (simp only [go_sem, Try.ntmps11, hs, hp, ok, h1, h2, h3, h4, h5, hpl]) <;> exact rfl
  apply W_call -- call 5 of function 13
  · (simp only [go_sem, Try.ntmps11, hs, hp, ok, h1, h2, h3, h4, h5, hpl]) <;> exact rfl
  · (simp only [go_sem, Try.ntmps11, hs, hp, ok, h1, h2, h3, h4, h5, hpl]) <;> exact rfl
  · exact rfl
  · (simp only [go_sem, Try.ntmps11, hs, hp, ok, h1, h2, h3, h4, h5, hpl]) <;> exact rfl
  · (simp only [go_sem, Try.ntmps11, hs, hp, ok, h1, h2, h3, h4, h5, hpl]) <;> exact rfl
  · exact ⟨_, Try.func13, rfl, rfl⟩
  · (simp only [go_sem, Try.ntmps11, hs, hp, ok, h1, h2, h3, h4, h5, hpl]) <;> exact rfl
  · (simp only [go_sem, Try.ntmps11, hs, hp, ok, h1, h2, h3, h4, h5, hpl]) <;> exact rfl
  · exact ref_town _
  apply W_pre [2, 3, 4, 5] [6, 7, 8]
  · (simp only [go_sem, Try.ntmps11, hs, hp, ok, h1, h2, h3, h4, h5, hpl]) <;> exact rfl
  apply W_call -- call 6 of function 14
  · (simp only [go_sem, Try.ntmps11, hs, hp, ok, h1, h2, h3, h4, h5, hpl]) <;> exact rfl
  · (simp only [go_sem, Try.ntmps11, hs, hp, ok, h1, h2, h3, h4, h5, hpl]) <;> exact rfl
  · exact rfl
  · (simp only [go_sem, Try.ntmps11, hs, hp, ok, h1, h2, h3, h4, h5, hpl]) <;> exact rfl
  · (simp only [go_sem, Try.ntmps11, hs, hp, ok, h1, h2, h3, h4, h5, hpl]) <;> exact rfl
  · exact ⟨_, Try.func14, rfl, rfl⟩
  · (simp only [go_sem, Try.ntmps11, hs, hp, ok, h1, h2, h3, h4, h5, hpl]) <;> exact rfl
  · (simp only [go_sem, Try.ntmps11, hs, hp, ok, h1, h2, h3, h4, h5, hpl]) <;> exact rfl
  · exact ref_plan _ _
  apply W_run
  · (simp only [go_sem, Try.ntmps11, hs, hp, ok, h1, h2, h3, h4, h5, hpl]) <;> exact rfl
  apply W_nil
  apply K_seq
  apply T_ifT -- h2
  · (simp only [go_sem, Try.ntmps11, hs, hp, ok, h1, h2, h3, h4, h5, hpl]) <;> exact rfl
  apply T_seq
  apply T_wL F [0, 1, 2, 3, 4, 5, 6, 7, 8, 9, 10, 11, 12, 13, 14, 15, 16, 17, 18, 19] rfl
  apply W_pre [0, 1, 2, 3] [4, 5, 6, 7, 8, 9, 10, 11, 12, 13, 14, 15, 16, 17, 18, 19]
  · (simp only [go_sem, Try.ntmps11, hs, hp, ok, h1, h2, h3, h4, h5, hpl]) <;> exact rfl
  apply W_pre [4, 5, 6, 7] [8, 9, 10, 11, 12, 13, 14, 15, 16, 17, 18, 19]
  · (simp only [go_sem, Try.ntmps11, hs, hp, ok, h1, h2, h3, h4, h5, hpl]) <;> exact rfl
  apply W_pre [8, 9, 10, 11] [12, 13, 14, 15, 16, 17, 18, 19]
  · (simp only [go_sem, Try.ntmps11, hs, hp, ok, h1, h2, h3, h4, h5, hpl]) <;> exact rfl
  apply W_pre [12, 13, 14, 15, 16] [17, 18, 19]
  · (simp only [go_sem, Try.ntmps11, hs, hp, ok, h1, h2, h3, h4, h5, hpl]) <;> exact rfl
  apply W_call -- call 7 of function 16
  · (simp only [go_sem, Try.ntmps11, hs, hp, ok, h1, h2, h3, h4, h5, hpl]) <;> exact rfl
  · (simp only [go_sem, Try.ntmps11, hs, hp, ok, h1, h2, h3, h4, h5, hpl]) <;> exact rfl
  · exact rfl
  · (simp only [go_sem, Try.ntmps11, hs, hp, ok, h1, h2, h3, h4, h5, hpl]) <;> exact rfl
  · (simp only [go_sem, Try.ntmps11, hs, hp, ok, h1, h2, h3, h4, h5, hpl]) <;> exact rfl
  · exact ⟨_, Try.func16, rfl, rfl⟩
  · (simp only [go_sem, Try.ntmps11, hs, hp, ok, h1, h2, h3, h4, h5, hpl]) <;> exact rfl
  · (simp only [go_sem, Try.ntmps11, hs, hp, ok, h1, h2, h3, h4, h5, hpl]) <;> exact rfl
  · exact known_ok
  apply W_run
  · (simp only [go_sem, Try.ntmps11, hs, hp, ok, h1, h2, h3, h4, h5, hpl]) <;> exact rfl
  apply W_nil
  apply K_seq
  apply T_ret
  apply K_seqR
  apply fin_ret
  · (simp only [go_sem, Try.ntmps11, hs, hp, ok, h1, h2, h3, h4, h5, hpl, Try.f11]) <;> exact rfl
  -- leaf 0 (ret)
  simp only [go_sem, Try.ntmps11, hs, hp, ok, h1, h2, h3, h4, h5, hpl, V.bool.injEq, V.int.injEq, true_and]
  all_goals rfl

theorem law_faultsE (t : Town) (p : List Int) (hs : M.Short t) (hp : ¬ (12 : Int) < (p.length : Int)) (ok : M.Ok t) (hpl : M.plan t p = true) (al : M.allowed t p = false) : Ret Try.prog 11 [.agg (cT t), .sl 1 (rI p)] (.bool true) := by
  refine Ret.of_fits fun hfits => ?_
  simp only [V.fits, V.fitsL, V.fitsR, cT_fits] at hfits
  simp only [rI_length] at hfits
  have hl := hfits.2.1.1
  have hh : t.houses.length ≤ 1000 := by have := hs.2.2.2.2.2.1; omega
  have h1 : M.chk t = 0 := by simp [M.chk, ok, hpl, al]
  have h2 : M.ans t p = M.fault t p := by simp [M.ans, ok, hpl, al]
  have h3 : M.bad t p = 0 := by simp [M.bad, ok, hpl, al]
  have h4 : M.err t p = 7 := by simp [M.err, ok, hpl, al]
  have h5 : M.rk t p = [] := by simp [M.rk, h4]
  apply Ret_fin (fn := Try.f11) Try.func11 rfl
  apply T_seq
  apply T_r F
  · (simp only [go_sem, Try.ntmps11, hs, hp, ok, h1, h2, h3, h4, h5, hpl, al]) <;> exact rfl
  apply K_seq
  apply T_seq
  apply T_seq
  apply T_wL F [0, 1, 2, 3, 4, 5, 6, 7] rfl
  apply W_pre [0] [1, 2, 3, 4, 5, 6, 7]
  · (simp only [go_sem, Try.ntmps11, hs, hp, ok, h1, h2, h3, h4, h5, hpl, al]) <;> exact rfl
  apply W_call -- call 0 of function 12
  · (simp only [go_sem, Try.ntmps11, hs, hp, ok, h1, h2, h3, h4, h5, hpl, al]) <;> exact rfl
  · (simp only [go_sem, Try.ntmps11, hs, hp, ok, h1, h2, h3, h4, h5, hpl, al]) <;> exact rfl
  · exact rfl
  · (simp only [go_sem, Try.ntmps11, hs, hp, ok, h1, h2, h3, h4, h5, hpl, al]) <;> exact rfl
  · (simp only [go_sem, Try.ntmps11, hs, hp, ok, h1, h2, h3, h4, h5, hpl, al]) <;> exact rfl
  · exact ⟨_, Try.func12, rfl, rfl⟩
  · (simp only [go_sem, Try.ntmps11, hs, hp, ok, h1, h2, h3, h4, h5, hpl, al]) <;> exact rfl
  · (simp only [go_sem, Try.ntmps11, hs, hp, ok, h1, h2, h3, h4, h5, hpl, al]) <;> exact rfl
  · exact law_short _
  apply W_run
  · (simp only [go_sem, Try.ntmps11, hs, hp, ok, h1, h2, h3, h4, h5, hpl, al]) <;> exact rfl
  apply W_nil
  apply K_seq
  apply T_ifF -- h0
  · (simp only [go_sem, Try.ntmps11, hs, hp, ok, h1, h2, h3, h4, h5, hpl, al]) <;> exact rfl
  apply T_skip
  apply K_seq
  apply T_seq
  apply T_wL F [0, 1, 2] rfl
  apply W_pre [0] [1, 2]
  · (simp only [go_sem, Try.ntmps11, hs, hp, ok, h1, h2, h3, h4, h5, hpl, al]) <;> exact rfl
  apply W_call -- call 1 of function 39
  · (simp only [go_sem, Try.ntmps11, hs, hp, ok, h1, h2, h3, h4, h5, hpl, al]) <;> exact rfl
  · (simp only [go_sem, Try.ntmps11, hs, hp, ok, h1, h2, h3, h4, h5, hpl, al]) <;> exact rfl
  · exact rfl
  · (simp only [go_sem, Try.ntmps11, hs, hp, ok, h1, h2, h3, h4, h5, hpl, al]) <;> exact rfl
  · (simp only [go_sem, Try.ntmps11, hs, hp, ok, h1, h2, h3, h4, h5, hpl, al]) <;> exact rfl
  · exact ⟨_, Try.func39, rfl, rfl⟩
  · (simp only [go_sem, Try.ntmps11, hs, hp, ok, h1, h2, h3, h4, h5, hpl, al]) <;> exact rfl
  · (simp only [go_sem, Try.ntmps11, hs, hp, ok, h1, h2, h3, h4, h5, hpl, al]) <;> exact rfl
  · exact mv_Check _ (by omega)
  apply W_run
  · (simp only [go_sem, Try.ntmps11, hs, hp, ok, h1, h2, h3, h4, h5, hpl, al]) <;> exact rfl
  apply W_nil
  apply K_seq
  apply T_seq
  apply T_wL F [0, 1, 2, 3, 4, 5, 6, 7, 8] rfl
  apply W_pre [0, 1] [2, 3, 4, 5, 6, 7, 8]
  · (simp only [go_sem, Try.ntmps11, hs, hp, ok, h1, h2, h3, h4, h5, hpl, al]) <;> exact rfl
  apply W_call -- call 2 of function 17
  · (simp only [go_sem, Try.ntmps11, hs, hp, ok, h1, h2, h3, h4, h5, hpl, al]) <;> exact rfl
  · (simp only [go_sem, Try.ntmps11, hs, hp, ok, h1, h2, h3, h4, h5, hpl, al]) <;> exact rfl
  · exact rfl
  · (simp only [go_sem, Try.ntmps11, hs, hp, ok, h1, h2, h3, h4, h5, hpl, al]) <;> exact rfl
  · (simp only [go_sem, Try.ntmps11, hs, hp, ok, h1, h2, h3, h4, h5, hpl, al]) <;> exact rfl
  · exact ⟨_, Try.func17, rfl, rfl⟩
  · (simp only [go_sem, Try.ntmps11, hs, hp, ok, h1, h2, h3, h4, h5, hpl, al]) <;> exact rfl
  · (simp only [go_sem, Try.ntmps11, hs, hp, ok, h1, h2, h3, h4, h5, hpl, al]) <;> exact rfl
  · exact mv_FaultAll (by omega)
  apply W_run
  · (simp only [go_sem, Try.ntmps11, hs, hp, ok, h1, h2, h3, h4, h5, hpl, al]) <;> exact rfl
  apply W_nil
  apply K_seq
  apply T_seq
  apply T_wL F [0, 1, 2, 3, 4, 5, 6, 7] rfl
  apply W_pre [0, 1] [2, 3, 4, 5, 6, 7]
  · (simp only [go_sem, Try.ntmps11, hs, hp, ok, h1, h2, h3, h4, h5, hpl, al]) <;> exact rfl
  apply W_call -- call 3 of function 34
  · (simp only [go_sem, Try.ntmps11, hs, hp, ok, h1, h2, h3, h4, h5, hpl, al]) <;> exact rfl
  · (simp only [go_sem, Try.ntmps11, hs, hp, ok, h1, h2, h3, h4, h5, hpl, al]) <;> exact rfl
  · exact rfl
  · (simp only [go_sem, Try.ntmps11, hs, hp, ok, h1, h2, h3, h4, h5, hpl, al]) <;> exact rfl
  · (simp only [go_sem, Try.ntmps11, hs, hp, ok, h1, h2, h3, h4, h5, hpl, al]) <;> exact rfl
  · exact ⟨_, Try.func34, rfl, rfl⟩
  · (simp only [go_sem, Try.ntmps11, hs, hp, ok, h1, h2, h3, h4, h5, hpl, al]) <;> exact rfl
  · (simp only [go_sem, Try.ntmps11, hs, hp, ok, h1, h2, h3, h4, h5, hpl, al]) <;> exact rfl
  · exact mv_RanksAll (by omega)
  apply W_run
  · (simp only [go_sem, Try.ntmps11, hs, hp, ok, h1, h2, h3, h4, h5, hpl, al]) <;> exact rfl
  apply W_nil
  apply K_seq
  apply T_seq
  apply T_seq
  apply T_wL F [0, 1, 2] rfl
  apply W_pre [0] [1, 2]
  · (simp only [go_sem, Try.ntmps11, hs, hp, ok, h1, h2, h3, h4, h5, hpl, al]) <;> exact rfl
  apply W_call -- call 4 of function 13
  · (simp only [go_sem, Try.ntmps11, hs, hp, ok, h1, h2, h3, h4, h5, hpl, al]) <;> exact rfl
  · (simp only [go_sem, Try.ntmps11, hs, hp, ok, h1, h2, h3, h4, h5, hpl, al]) <;> exact rfl
  · exact rfl
  · (simp only [go_sem, Try.ntmps11, hs, hp, ok, h1, h2, h3, h4, h5, hpl, al]) <;> exact rfl
  · (simp only [go_sem, Try.ntmps11, hs, hp, ok, h1, h2, h3, h4, h5, hpl, al]) <;> exact rfl
  · exact ⟨_, Try.func13, rfl, rfl⟩
  · (simp only [go_sem, Try.ntmps11, hs, hp, ok, h1, h2, h3, h4, h5, hpl, al]) <;> exact rfl
  · (simp only [go_sem, Try.ntmps11, hs, hp, ok, h1, h2, h3, h4, h5, hpl, al]) <;> exact rfl
  · exact ref_town _
  apply W_run
  · (simp only [go_sem, Try.ntmps11, hs, hp, ok, h1, h2, h3, h4, h5, hpl, al]) <;> exact rfl
  apply W_nil
  apply K_seq
  apply T_seq
  apply T_wL F [0, 1, 2, 3, 4, 5, 6, 7, 8, 9, 10, 11, 12] rfl
  apply W_pre [0, 1, 2, 3] [4, 5, 6, 7, 8, 9, 10, 11, 12]
  · (simp only [go_sem, Try.ntmps11, hs, hp, ok, h1, h2, h3, h4, h5, hpl, al]) <;> exact rfl
  apply W_pre [4, 5, 6, 7] [8, 9, 10, 11, 12]
  · (simp only [go_sem, Try.ntmps11, hs, hp, ok, h1, h2, h3, h4, h5, hpl, al]) <;> exact rfl
  apply W_run
  · (simp only [go_sem, Try.ntmps11, hs, hp, ok, h1, h2, h3, h4, h5, hpl, al]) <;> exact rfl
  apply W_nil
  apply K_seq
  apply T_ifF -- h1
  · (simp only [go_sem, Try.ntmps11, hs, hp, ok, h1, h2, h3, h4, h5, hpl, al]) <;> exact rfl
  apply T_skip
  apply K_seq
  apply T_seq
  apply T_seq
  apply T_wL F [0, 1, 2, 3, 4, 5, 6, 7, 8] rfl
  apply W_pre [0] [1, 2, 3, 4, 5, 6, 7, 8]
  · (simp only [go_sem, Try.ntmps11, hs, hp, ok, h1, h2, h3, h4, h5, hpl, al]) <;> exact rfl
  apply W_call -- call 5 of function 13
  · (simp only [go_sem, Try.ntmps11, hs, hp, ok, h1, h2, h3, h4, h5, hpl, al]) <;> exact rfl
  · (simp only [go_sem, Try.ntmps11, hs, hp, ok, h1, h2, h3, h4, h5, hpl, al]) <;> exact rfl
  · exact rfl
  · (simp only [go_sem, Try.ntmps11, hs, hp, ok, h1, h2, h3, h4, h5, hpl, al]) <;> exact rfl
  · (simp only [go_sem, Try.ntmps11, hs, hp, ok, h1, h2, h3, h4, h5, hpl, al]) <;> exact rfl
  · exact ⟨_, Try.func13, rfl, rfl⟩
  · (simp only [go_sem, Try.ntmps11, hs, hp, ok, h1, h2, h3, h4, h5, hpl, al]) <;> exact rfl
  · (simp only [go_sem, Try.ntmps11, hs, hp, ok, h1, h2, h3, h4, h5, hpl, al]) <;> exact rfl
  · exact ref_town _
  apply W_pre [2, 3, 4, 5] [6, 7, 8]
  · (simp only [go_sem, Try.ntmps11, hs, hp, ok, h1, h2, h3, h4, h5, hpl, al]) <;> exact rfl
  apply W_call -- call 6 of function 14
  · (simp only [go_sem, Try.ntmps11, hs, hp, ok, h1, h2, h3, h4, h5, hpl, al]) <;> exact rfl
  · (simp only [go_sem, Try.ntmps11, hs, hp, ok, h1, h2, h3, h4, h5, hpl, al]) <;> exact rfl
  · exact rfl
  · (simp only [go_sem, Try.ntmps11, hs, hp, ok, h1, h2, h3, h4, h5, hpl, al]) <;> exact rfl
  · (simp only [go_sem, Try.ntmps11, hs, hp, ok, h1, h2, h3, h4, h5, hpl, al]) <;> exact rfl
  · exact ⟨_, Try.func14, rfl, rfl⟩
  · (simp only [go_sem, Try.ntmps11, hs, hp, ok, h1, h2, h3, h4, h5, hpl, al]) <;> exact rfl
  · (simp only [go_sem, Try.ntmps11, hs, hp, ok, h1, h2, h3, h4, h5, hpl, al]) <;> exact rfl
  · exact ref_plan _ _
  apply W_run
  · (simp only [go_sem, Try.ntmps11, hs, hp, ok, h1, h2, h3, h4, h5, hpl, al]) <;> exact rfl
  apply W_nil
  apply K_seq
  apply T_ifF -- h2
  · (simp only [go_sem, Try.ntmps11, hs, hp, ok, h1, h2, h3, h4, h5, hpl, al]) <;> exact rfl
  apply T_skip
  apply K_seq
  apply T_seq
  apply T_seq
  apply T_qL F [0, 1, 2, 3, 4, 5, 6, 7, 8] rfl (by kernel_rfl)
  apply Q_pre [0, 1, 2, 3, 4, 5] [6, 7, 8]
  · (simp only [go_sem, Try.ntmps11, hs, hp, ok, h1, h2, h3, h4, h5, hpl, al]) <;> exact rfl
  apply Q_call -- call 7 of function 40
  · (simp only [go_sem, Try.ntmps11, hs, hp, ok, h1, h2, h3, h4, h5, hpl, al]) <;> exact rfl
  · (simp only [go_sem, Try.ntmps11, hs, hp, ok, h1, h2, h3, h4, h5, hpl, al]) <;> exact rfl
  · exact rfl
  · (simp only [go_sem, Try.ntmps11, hs, hp, ok, h1, h2, h3, h4, h5, hpl, al]) <;> exact rfl
  · (simp only [go_sem, Try.ntmps11, hs, hp, ok, h1, h2, h3, h4, h5, hpl, al]) <;> exact rfl
  · exact ⟨_, Try.func40, rfl, rfl⟩
  · (simp only [go_sem, Try.ntmps11, hs, hp, ok, h1, h2, h3, h4, h5, hpl, al]) <;> exact rfl
  · exact ref_fault _ _ (by assumption) (by assumption)
  apply Q_run
  · (simp only [go_sem, Try.ntmps11, hs, hp, ok, h1, h2, h3, h4, h5, hpl, al]) <;> exact rfl
  apply Q_nil
  apply K_seq
  apply T_ifF -- h3
  · (simp only [go_sem, Try.ntmps11, hs, hp, ok, h1, h2, h3, h4, h5, hpl, al]) <;> exact rfl
  apply T_skip
  apply K_seq
  apply T_seq
  apply T_seq
  apply T_wL F [0, 1, 2, 3] rfl
  apply W_pre [0, 1] [2, 3]
  · (simp only [go_sem, Try.ntmps11, hs, hp, ok, h1, h2, h3, h4, h5, hpl, al]) <;> exact rfl
  apply W_call -- call 8 of function 21
  · (simp only [go_sem, Try.ntmps11, hs, hp, ok, h1, h2, h3, h4, h5, hpl, al]) <;> exact rfl
  · (simp only [go_sem, Try.ntmps11, hs, hp, ok, h1, h2, h3, h4, h5, hpl, al]) <;> exact rfl
  · exact rfl
  · (simp only [go_sem, Try.ntmps11, hs, hp, ok, h1, h2, h3, h4, h5, hpl, al]) <;> exact rfl
  · (simp only [go_sem, Try.ntmps11, hs, hp, ok, h1, h2, h3, h4, h5, hpl, al]) <;> exact rfl
  · exact ⟨_, Try.func21, rfl, rfl⟩
  · (simp only [go_sem, Try.ntmps11, hs, hp, ok, h1, h2, h3, h4, h5, hpl, al]) <;> exact rfl
  · (simp only [go_sem, Try.ntmps11, hs, hp, ok, h1, h2, h3, h4, h5, hpl, al]) <;> exact rfl
  · exact ref_allowed _ _ (by assumption) (by assumption)
  apply W_run
  · (simp only [go_sem, Try.ntmps11, hs, hp, ok, h1, h2, h3, h4, h5, hpl, al]) <;> exact rfl
  apply W_nil
  apply K_seq
  apply T_ifT -- h4
  · (simp only [go_sem, Try.ntmps11, hs, hp, ok, h1, h2, h3, h4, h5, hpl, al]) <;> exact rfl
  apply T_seq
  apply T_wL F [0, 1, 2, 3, 4, 5, 6, 7, 8, 9, 10] rfl
  apply W_pre [0, 1, 2, 3] [4, 5, 6, 7, 8, 9, 10]
  · (simp only [go_sem, Try.ntmps11, hs, hp, ok, h1, h2, h3, h4, h5, hpl, al]) <;> exact rfl
  apply W_pre [4, 5, 6, 7] [8, 9, 10]
  · (simp only [go_sem, Try.ntmps11, hs, hp, ok, h1, h2, h3, h4, h5, hpl, al]) <;> exact rfl
  apply W_call -- call 9 of function 16
  · (simp only [go_sem, Try.ntmps11, hs, hp, ok, h1, h2, h3, h4, h5, hpl, al]) <;> exact rfl
  · (simp only [go_sem, Try.ntmps11, hs, hp, ok, h1, h2, h3, h4, h5, hpl, al]) <;> exact rfl
  · exact rfl
  · (simp only [go_sem, Try.ntmps11, hs, hp, ok, h1, h2, h3, h4, h5, hpl, al]) <;> exact rfl
  · (simp only [go_sem, Try.ntmps11, hs, hp, ok, h1, h2, h3, h4, h5, hpl, al]) <;> exact rfl
  · exact ⟨_, Try.func16, rfl, rfl⟩
  · (simp only [go_sem, Try.ntmps11, hs, hp, ok, h1, h2, h3, h4, h5, hpl, al]) <;> exact rfl
  · (simp only [go_sem, Try.ntmps11, hs, hp, ok, h1, h2, h3, h4, h5, hpl, al]) <;> exact rfl
  · exact known_ok
  apply W_run
  · (simp only [go_sem, Try.ntmps11, hs, hp, ok, h1, h2, h3, h4, h5, hpl, al]) <;> exact rfl
  apply W_nil
  apply K_seq
  apply T_ret
  apply K_seqR
  apply fin_ret
  · (simp only [go_sem, Try.ntmps11, hs, hp, ok, h1, h2, h3, h4, h5, hpl, al, Try.f11]) <;> exact rfl
  -- leaf 0 (ret)
  simp only [go_sem, Try.ntmps11, hs, hp, ok, h1, h2, h3, h4, h5, hpl, al, V.bool.injEq, V.int.injEq, true_and]
  all_goals rfl

theorem law_faultsF (t : Town) (p : List Int) (hs : M.Short t) (hp : ¬ (12 : Int) < (p.length : Int)) (ok : M.Ok t) (hpl : M.plan t p = true) (al : M.allowed t p = true) : Ret Try.prog 11 [.agg (cT t), .sl 1 (rI p)] (.bool true) := by
  refine Ret.of_fits fun hfits => ?_
  simp only [V.fits, V.fitsL, V.fitsR, cT_fits] at hfits
  simp only [rI_length] at hfits
  have hl := hfits.2.1.1
  have hlen := (M.plan_iff.1 hpl).1
  have hh : t.houses.length ≤ 1000 := by have := hs.2.2.2.2.2.1; omega
  have h1 : M.chk t = 0 := by simp [M.chk, ok, hpl, al]
  have h2 : M.ans t p = M.fault t p := by simp [M.ans, ok, hpl, al]
  have h3 : M.bad t p = 0 := by simp [M.bad, ok, hpl, al]
  have h4 : M.err t p = 0 := by simp [M.err, ok, hpl, al]
  have h5 : M.rk t p = M.ranks t p := by simp [M.rk, h4]
  apply Ret_fin (fn := Try.f11) Try.func11 rfl
  apply T_seq
  apply T_r F
  · (simp only [go_sem, Try.ntmps11, hs, hp, ok, h1, h2, h3, h4, h5, hpl, al]) <;> exact rfl
  apply K_seq
  apply T_seq
  apply T_seq
  apply T_wL F [0, 1, 2, 3, 4, 5, 6, 7] rfl
  apply W_pre [0] [1, 2, 3, 4, 5, 6, 7]
  · (simp only [go_sem, Try.ntmps11, hs, hp, ok, h1, h2, h3, h4, h5, hpl, al]) <;> exact rfl
  apply W_call -- call 0 of function 12
  · (simp only [go_sem, Try.ntmps11, hs, hp, ok, h1, h2, h3, h4, h5, hpl, al]) <;> exact rfl
  · (simp only [go_sem, Try.ntmps11, hs, hp, ok, h1, h2, h3, h4, h5, hpl, al]) <;> exact rfl
  · exact rfl
  · (simp only [go_sem, Try.ntmps11, hs, hp, ok, h1, h2, h3, h4, h5, hpl, al]) <;> exact rfl
  · (simp only [go_sem, Try.ntmps11, hs, hp, ok, h1, h2, h3, h4, h5, hpl, al]) <;> exact rfl
  · exact ⟨_, Try.func12, rfl, rfl⟩
  · (simp only [go_sem, Try.ntmps11, hs, hp, ok, h1, h2, h3, h4, h5, hpl, al]) <;> exact rfl
  · (simp only [go_sem, Try.ntmps11, hs, hp, ok, h1, h2, h3, h4, h5, hpl, al]) <;> exact rfl
  · exact law_short _
  apply W_run
  · (simp only [go_sem, Try.ntmps11, hs, hp, ok, h1, h2, h3, h4, h5, hpl, al]) <;> exact rfl
  apply W_nil
  apply K_seq
  apply T_ifF -- h0
  · (simp only [go_sem, Try.ntmps11, hs, hp, ok, h1, h2, h3, h4, h5, hpl, al]) <;> exact rfl
  apply T_skip
  apply K_seq
  apply T_seq
  apply T_wL F [0, 1, 2] rfl
  apply W_pre [0] [1, 2]
  · (simp only [go_sem, Try.ntmps11, hs, hp, ok, h1, h2, h3, h4, h5, hpl, al]) <;> exact rfl
  apply W_call -- call 1 of function 39
  · (simp only [go_sem, Try.ntmps11, hs, hp, ok, h1, h2, h3, h4, h5, hpl, al]) <;> exact rfl
  · (simp only [go_sem, Try.ntmps11, hs, hp, ok, h1, h2, h3, h4, h5, hpl, al]) <;> exact rfl
  · exact rfl
  · (simp only [go_sem, Try.ntmps11, hs, hp, ok, h1, h2, h3, h4, h5, hpl, al]) <;> exact rfl
  · (simp only [go_sem, Try.ntmps11, hs, hp, ok, h1, h2, h3, h4, h5, hpl, al]) <;> exact rfl
  · exact ⟨_, Try.func39, rfl, rfl⟩
  · (simp only [go_sem, Try.ntmps11, hs, hp, ok, h1, h2, h3, h4, h5, hpl, al]) <;> exact rfl
  · (simp only [go_sem, Try.ntmps11, hs, hp, ok, h1, h2, h3, h4, h5, hpl, al]) <;> exact rfl
  · exact mv_Check _ (by omega)
  apply W_run
  · (simp only [go_sem, Try.ntmps11, hs, hp, ok, h1, h2, h3, h4, h5, hpl, al]) <;> exact rfl
  apply W_nil
  apply K_seq
  apply T_seq
  apply T_wL F [0, 1, 2, 3, 4, 5, 6, 7, 8] rfl
  apply W_pre [0, 1] [2, 3, 4, 5, 6, 7, 8]
  · (simp only [go_sem, Try.ntmps11, hs, hp, ok, h1, h2, h3, h4, h5, hpl, al]) <;> exact rfl
  apply W_call -- call 2 of function 17
  · (simp only [go_sem, Try.ntmps11, hs, hp, ok, h1, h2, h3, h4, h5, hpl, al]) <;> exact rfl
  · (simp only [go_sem, Try.ntmps11, hs, hp, ok, h1, h2, h3, h4, h5, hpl, al]) <;> exact rfl
  · exact rfl
  · (simp only [go_sem, Try.ntmps11, hs, hp, ok, h1, h2, h3, h4, h5, hpl, al]) <;> exact rfl
  · (simp only [go_sem, Try.ntmps11, hs, hp, ok, h1, h2, h3, h4, h5, hpl, al]) <;> exact rfl
  · exact ⟨_, Try.func17, rfl, rfl⟩
  · (simp only [go_sem, Try.ntmps11, hs, hp, ok, h1, h2, h3, h4, h5, hpl, al]) <;> exact rfl
  · (simp only [go_sem, Try.ntmps11, hs, hp, ok, h1, h2, h3, h4, h5, hpl, al]) <;> exact rfl
  · exact mv_FaultAll (by omega)
  apply W_run
  · (simp only [go_sem, Try.ntmps11, hs, hp, ok, h1, h2, h3, h4, h5, hpl, al]) <;> exact rfl
  apply W_nil
  apply K_seq
  apply T_seq
  apply T_wL F [0, 1, 2, 3, 4, 5, 6, 7] rfl
  apply W_pre [0, 1] [2, 3, 4, 5, 6, 7]
  · (simp only [go_sem, Try.ntmps11, hs, hp, ok, h1, h2, h3, h4, h5, hpl, al]) <;> exact rfl
  apply W_call -- call 3 of function 34
  · (simp only [go_sem, Try.ntmps11, hs, hp, ok, h1, h2, h3, h4, h5, hpl, al]) <;> exact rfl
  · (simp only [go_sem, Try.ntmps11, hs, hp, ok, h1, h2, h3, h4, h5, hpl, al]) <;> exact rfl
  · exact rfl
  · (simp only [go_sem, Try.ntmps11, hs, hp, ok, h1, h2, h3, h4, h5, hpl, al]) <;> exact rfl
  · (simp only [go_sem, Try.ntmps11, hs, hp, ok, h1, h2, h3, h4, h5, hpl, al]) <;> exact rfl
  · exact ⟨_, Try.func34, rfl, rfl⟩
  · (simp only [go_sem, Try.ntmps11, hs, hp, ok, h1, h2, h3, h4, h5, hpl, al]) <;> exact rfl
  · (simp only [go_sem, Try.ntmps11, hs, hp, ok, h1, h2, h3, h4, h5, hpl, al]) <;> exact rfl
  · exact mv_RanksAll (by omega)
  apply W_run
  · (simp only [go_sem, Try.ntmps11, hs, hp, ok, h1, h2, h3, h4, h5, hpl, al]) <;> exact rfl
  apply W_nil
  apply K_seq
  apply T_seq
  apply T_seq
  apply T_wL F [0, 1, 2] rfl
  apply W_pre [0] [1, 2]
  · (simp only [go_sem, Try.ntmps11, hs, hp, ok, h1, h2, h3, h4, h5, hpl, al]) <;> exact rfl
  apply W_call -- call 4 of function 13
  · (simp only [go_sem, Try.ntmps11, hs, hp, ok, h1, h2, h3, h4, h5, hpl, al]) <;> exact rfl
  · (simp only [go_sem, Try.ntmps11, hs, hp, ok, h1, h2, h3, h4, h5, hpl, al]) <;> exact rfl
  · exact rfl
  · (simp only [go_sem, Try.ntmps11, hs, hp, ok, h1, h2, h3, h4, h5, hpl, al]) <;> exact rfl
  · (simp only [go_sem, Try.ntmps11, hs, hp, ok, h1, h2, h3, h4, h5, hpl, al]) <;> exact rfl
  · exact ⟨_, Try.func13, rfl, rfl⟩
  · (simp only [go_sem, Try.ntmps11, hs, hp, ok, h1, h2, h3, h4, h5, hpl, al]) <;> exact rfl
  · (simp only [go_sem, Try.ntmps11, hs, hp, ok, h1, h2, h3, h4, h5, hpl, al]) <;> exact rfl
  · exact ref_town _
  apply W_run
  · (simp only [go_sem, Try.ntmps11, hs, hp, ok, h1, h2, h3, h4, h5, hpl, al]) <;> exact rfl
  apply W_nil
  apply K_seq
  apply T_seq
  apply T_wL F [0, 1, 2, 3, 4, 5, 6, 7, 8, 9, 10, 11, 12] rfl
  apply W_pre [0, 1, 2, 3] [4, 5, 6, 7, 8, 9, 10, 11, 12]
  · (simp only [go_sem, Try.ntmps11, hs, hp, ok, h1, h2, h3, h4, h5, hpl, al]) <;> exact rfl
  apply W_pre [4, 5, 6, 7] [8, 9, 10, 11, 12]
  · (simp only [go_sem, Try.ntmps11, hs, hp, ok, h1, h2, h3, h4, h5, hpl, al]) <;> exact rfl
  apply W_run
  · (simp only [go_sem, Try.ntmps11, hs, hp, ok, h1, h2, h3, h4, h5, hpl, al]) <;> exact rfl
  apply W_nil
  apply K_seq
  apply T_ifF -- h1
  · (simp only [go_sem, Try.ntmps11, hs, hp, ok, h1, h2, h3, h4, h5, hpl, al]) <;> exact rfl
  apply T_skip
  apply K_seq
  apply T_seq
  apply T_seq
  apply T_wL F [0, 1, 2, 3, 4, 5, 6, 7, 8] rfl
  apply W_pre [0] [1, 2, 3, 4, 5, 6, 7, 8]
  · (simp only [go_sem, Try.ntmps11, hs, hp, ok, h1, h2, h3, h4, h5, hpl, al]) <;> exact rfl
  apply W_call -- call 5 of function 13
  · (simp only [go_sem, Try.ntmps11, hs, hp, ok, h1, h2, h3, h4, h5, hpl, al]) <;> exact rfl
  · (simp only [go_sem, Try.ntmps11, hs, hp, ok, h1, h2, h3, h4, h5, hpl, al]) <;> exact rfl
  · exact rfl
  · (simp only [go_sem, Try.ntmps11, hs, hp, ok, h1, h2, h3, h4, h5, hpl, al]) <;> exact rfl
  · (simp only [go_sem, Try.ntmps11, hs, hp, ok, h1, h2, h3, h4, h5, hpl, al]) <;> exact rfl
  · exact ⟨_, Try.func13, rfl, rfl⟩
  · (simp only [go_sem, Try.ntmps11, hs, hp, ok, h1, h2, h3, h4, h5, hpl, al]) <;> exact rfl
  · (simp only [go_sem, Try.ntmps11, hs, hp, ok, h1, h2, h3, h4, h5, hpl, al]) <;> exact rfl
  · exact ref_town _
  apply W_pre [2, 3, 4, 5] [6, 7, 8]
  · (simp only [go_sem, Try.ntmps11, hs, hp, ok, h1, h2, h3, h4, h5, hpl, al]) <;> exact rfl
  apply W_call -- call 6 of function 14
  · (simp only [go_sem, Try.ntmps11, hs, hp, ok, h1, h2, h3, h4, h5, hpl, al]) <;> exact rfl
  · (simp only [go_sem, Try.ntmps11, hs, hp, ok, h1, h2, h3, h4, h5, hpl, al]) <;> exact rfl
  · exact rfl
  · (simp only [go_sem, Try.ntmps11, hs, hp, ok, h1, h2, h3, h4, h5, hpl, al]) <;> exact rfl
  · (simp only [go_sem, Try.ntmps11, hs, hp, ok, h1, h2, h3, h4, h5, hpl, al]) <;> exact rfl
  · exact ⟨_, Try.func14, rfl, rfl⟩
  · (simp only [go_sem, Try.ntmps11, hs, hp, ok, h1, h2, h3, h4, h5, hpl, al]) <;> exact rfl
  · (simp only [go_sem, Try.ntmps11, hs, hp, ok, h1, h2, h3, h4, h5, hpl, al]) <;> exact rfl
  · exact ref_plan _ _
  apply W_run
  · (simp only [go_sem, Try.ntmps11, hs, hp, ok, h1, h2, h3, h4, h5, hpl, al]) <;> exact rfl
  apply W_nil
  apply K_seq
  apply T_ifF -- h2
  · (simp only [go_sem, Try.ntmps11, hs, hp, ok, h1, h2, h3, h4, h5, hpl, al]) <;> exact rfl
  apply T_skip
  apply K_seq
  apply T_seq
  apply T_seq
  apply T_qL F [0, 1, 2, 3, 4, 5, 6, 7, 8] rfl (by kernel_rfl)
  apply Q_pre [0, 1, 2, 3, 4, 5] [6, 7, 8]
  · (simp only [go_sem, Try.ntmps11, hs, hp, ok, h1, h2, h3, h4, h5, hpl, al]) <;> exact rfl
  apply Q_call -- call 7 of function 40
  · (simp only [go_sem, Try.ntmps11, hs, hp, ok, h1, h2, h3, h4, h5, hpl, al]) <;> exact rfl
  · (simp only [go_sem, Try.ntmps11, hs, hp, ok, h1, h2, h3, h4, h5, hpl, al]) <;> exact rfl
  · exact rfl
  · (simp only [go_sem, Try.ntmps11, hs, hp, ok, h1, h2, h3, h4, h5, hpl, al]) <;> exact rfl
  · (simp only [go_sem, Try.ntmps11, hs, hp, ok, h1, h2, h3, h4, h5, hpl, al]) <;> exact rfl
  · exact ⟨_, Try.func40, rfl, rfl⟩
  · (simp only [go_sem, Try.ntmps11, hs, hp, ok, h1, h2, h3, h4, h5, hpl, al]) <;> exact rfl
  · exact ref_fault _ _ (by assumption) (by assumption)
  apply Q_run
  · (simp only [go_sem, Try.ntmps11, hs, hp, ok, h1, h2, h3, h4, h5, hpl, al]) <;> exact rfl
  apply Q_nil
  apply K_seq
  apply T_ifF -- h3
  · (simp only [go_sem, Try.ntmps11, hs, hp, ok, h1, h2, h3, h4, h5, hpl, al]) <;> exact rfl
  apply T_skip
  apply K_seq
  apply T_seq
  apply T_seq
  apply T_wL F [0, 1, 2, 3] rfl
  apply W_pre [0, 1] [2, 3]
  · (simp only [go_sem, Try.ntmps11, hs, hp, ok, h1, h2, h3, h4, h5, hpl, al]) <;> exact rfl
  apply W_call -- call 8 of function 21
  · (simp only [go_sem, Try.ntmps11, hs, hp, ok, h1, h2, h3, h4, h5, hpl, al]) <;> exact rfl
  · (simp only [go_sem, Try.ntmps11, hs, hp, ok, h1, h2, h3, h4, h5, hpl, al]) <;> exact rfl
  · exact rfl
  · (simp only [go_sem, Try.ntmps11, hs, hp, ok, h1, h2, h3, h4, h5, hpl, al]) <;> exact rfl
  · (simp only [go_sem, Try.ntmps11, hs, hp, ok, h1, h2, h3, h4, h5, hpl, al]) <;> exact rfl
  · exact ⟨_, Try.func21, rfl, rfl⟩
  · (simp only [go_sem, Try.ntmps11, hs, hp, ok, h1, h2, h3, h4, h5, hpl, al]) <;> exact rfl
  · (simp only [go_sem, Try.ntmps11, hs, hp, ok, h1, h2, h3, h4, h5, hpl, al]) <;> exact rfl
  · exact ref_allowed _ _ (by assumption) (by assumption)
  apply W_run
  · (simp only [go_sem, Try.ntmps11, hs, hp, ok, h1, h2, h3, h4, h5, hpl, al]) <;> exact rfl
  apply W_nil
  apply K_seq
  apply T_ifF -- h4
  · (simp only [go_sem, Try.ntmps11, hs, hp, ok, h1, h2, h3, h4, h5, hpl, al]) <;> exact rfl
  apply T_skip
  apply K_seq
  apply T_seq
  apply T_wL F [0, 1, 2, 3, 4, 5, 6, 7, 8, 9, 10, 11, 12] rfl
  apply W_pre [0, 1, 2, 3, 4, 5] [6, 7, 8, 9, 10, 11, 12]
  · (simp only [go_sem, Try.ntmps11, hs, hp, ok, h1, h2, h3, h4, h5, hpl, al]) <;> exact rfl
  apply W_call -- call 9 of function 31
  · (simp only [go_sem, Try.ntmps11, hs, hp, ok, h1, h2, h3, h4, h5, hpl, al]) <;> exact rfl
  · (simp only [go_sem, Try.ntmps11, hs, hp, ok, h1, h2, h3, h4, h5, hpl, al]) <;> exact rfl
  · exact rfl
  · (simp only [go_sem, Try.ntmps11, hs, hp, ok, h1, h2, h3, h4, h5, hpl, al]) <;> exact rfl
  · (simp only [go_sem, Try.ntmps11, hs, hp, ok, h1, h2, h3, h4, h5, hpl, al]) <;> exact rfl
  · exact ⟨_, Try.func31, rfl, rfl⟩
  · (simp only [go_sem, Try.ntmps11, hs, hp, ok, h1, h2, h3, h4, h5, hpl, al]) <;> exact rfl
  · (simp only [go_sem, Try.ntmps11, hs, hp, ok, h1, h2, h3, h4, h5, hpl, al]) <;> exact rfl
  · exact ref_ranks _ _ (by omega) (by omega)
  apply W_call -- call 10 of function 23
  · (simp only [go_sem, Try.ntmps11, hs, hp, ok, h1, h2, h3, h4, h5, hpl, al]) <;> exact rfl
  · (simp only [go_sem, Try.ntmps11, hs, hp, ok, h1, h2, h3, h4, h5, hpl, al]) <;> exact rfl
  · exact rfl
  · (simp only [go_sem, Try.ntmps11, hs, hp, ok, h1, h2, h3, h4, h5, hpl, al]) <;> exact rfl
  · (simp only [go_sem, Try.ntmps11, hs, hp, ok, h1, h2, h3, h4, h5, hpl, al]) <;> exact rfl
  · exact ⟨_, Try.func23, rfl, rfl⟩
  · (simp only [go_sem, Try.ntmps11, hs, hp, ok, h1, h2, h3, h4, h5, hpl, al]) <;> exact rfl
  · (simp only [go_sem, Try.ntmps11, hs, hp, ok, h1, h2, h3, h4, h5, hpl, al]) <;> exact rfl
  · exact ref_same _ _
  apply W_pre [8, 9] [10, 11, 12]
  · (simp only [go_sem, Try.ntmps11, hs, hp, ok, h1, h2, h3, h4, h5, hpl, al]) <;> exact rfl
  apply W_call -- call 11 of function 16
  · (simp only [go_sem, Try.ntmps11, hs, hp, ok, h1, h2, h3, h4, h5, hpl, al]) <;> exact rfl
  · (simp only [go_sem, Try.ntmps11, hs, hp, ok, h1, h2, h3, h4, h5, hpl, al]) <;> exact rfl
  · exact rfl
  · (simp only [go_sem, Try.ntmps11, hs, hp, ok, h1, h2, h3, h4, h5, hpl, al]) <;> exact rfl
  · (simp only [go_sem, Try.ntmps11, hs, hp, ok, h1, h2, h3, h4, h5, hpl, al]) <;> exact rfl
  · exact ⟨_, Try.func16, rfl, rfl⟩
  · (simp only [go_sem, Try.ntmps11, hs, hp, ok, h1, h2, h3, h4, h5, hpl, al]) <;> exact rfl
  · (simp only [go_sem, Try.ntmps11, hs, hp, ok, h1, h2, h3, h4, h5, hpl, al]) <;> exact rfl
  · exact known_ok
  apply W_run
  · (simp only [go_sem, Try.ntmps11, hs, hp, ok, h1, h2, h3, h4, h5, hpl, al]) <;> exact rfl
  apply W_nil
  apply K_seq
  apply T_ret
  apply fin_ret
  · (simp only [go_sem, Try.ntmps11, hs, hp, ok, h1, h2, h3, h4, h5, hpl, al, Try.f11]) <;> exact rfl
  -- leaf 0 (ret)
  simp only [go_sem, Try.ntmps11, hs, hp, ok, h1, h2, h3, h4, h5, hpl, al, V.bool.injEq, V.int.injEq, true_and]
  all_goals rfl


theorem law_faults (t : Town) (p : List Int) : Ret Try.prog 11 [.agg (cT t), .sl 1 (rI p)] (.bool true) := by
  by_cases hs : M.Short t
  · by_cases hp : (12 : Int) < (p.length : Int)
    · exact law_faultsB t p hs hp
    · by_cases ok : M.Ok t
      · cases hpl : M.plan t p
        · exact law_faultsD t p hs hp ok hpl
        · cases al : M.allowed t p
          · exact law_faultsE t p hs hp ok hpl al
          · exact law_faultsF t p hs hp ok hpl al
      · exact law_faultsC t p hs hp ok
  · exact law_faultsA t p hs
end Go.Ab
namespace Go.Proofs.Ytahflobpopclpaa.moveFaults
open Go.ChangeShapes Go.WideShapes Go.ChangeAt Go.RowKit Go.Ab
set_option linter.unusedVariables false
theorem own : ownKnob Try.prog.godebug = none := by kernel_rfl
theorem laidOut : laidOutB Try.prog = true := by kernel_rfl
set_option maxRecDepth 100000 in
theorem lifted (os : Os) (started : os.Started) (H : Type) (enc : TypeId × Value → H) :
    ReturnsInHanded {} Try.checked os 11 .any (Rows.moveFaultsSpec.pre6 enc Try.prog Try.f11 Rows.moveFaultsRow.domain false) (Rows.moveFaultsSpec.post enc Try.prog Try.f11 false true false false) := by
  refine returnsInHanded_of_change_sized (C := Try.checked) own started (by kernel_rfl) Try.func11
    (ChangeSpec.witness6 (enc := enc) (C := Try.checked) false ⟨#[], #[.agg #[.slice none 0 0, .int .i64 0, .slice none 0 0, .slice none 0 0, .slice none 0 0, .slice none 0 0], .slice none 0 0], []⟩ 8 (by kernel_rfl) (by kernel_rfl) (by kernel_rfl) (by kernel_rfl)) ?_
  intro W base args ds gs before hval0 hW hcnd hsz0 _
  have hval : ∀ (j : Nat) t v, Try.f11.params[j]? = some t → args[j]? = some v → Value.okWide Try.prog W .any base t v := hval0
  have hW' := hW
  obtain ⟨p, q, hA0, hV, rfl, hfz, hnd⟩ := hW
  have hA : DataW.TrodAll enc Try.prog W 0 (fun _ => true) true Try.f11.params.toList args.toList ds p := hA0
  rw [Try.params11] at hA hval
  obtain ⟨v0, vs0, d0, ds0, p0, q0, hargs, rfl, rfl, h0, r0⟩ := trodAll_cons hA
  obtain ⟨v1, vs1, d1, ds1, p1, q1, rfl, rfl, rfl, h1, r1⟩ := trodAll_cons r0
  obtain ⟨rfl, rfl, rfl⟩ := trodAll_nil r1
  obtain rfl : args = #[v0, v1] := by cases args; simp_all
  obtain ⟨rfl, rfl⟩ := trodVars_none hV
  have lt0 : ∀ x ∈ p0, x.block < W.heap.size := by obtain ⟨m, hm⟩ := h0; exact DataW.trod_lt m _ _ _ hm
  have lt1 : ∀ x ∈ p1, x.block < W.heap.size := by obtain ⟨m, hm⟩ := h1; exact DataW.trod_lt m _ _ _ hm
  obtain ⟨t0, ht0⟩ := town_in h0
  obtain ⟨l1, hl1⟩ := ints_in h1 (let ⟨a, n, c, e⟩ := okWide_slice Try.underlying23 (hval 1 23 v1 rfl rfl); ⟨a, n, c, e⟩)
  clear hA0 hval0 hsz0
  have hargsR : RelL ⟨fun _ => False, [], [], W⟩ [.agg (cT t0), .sl 1 (rI l1)] (#[v0, v1] : Array Value).toList := by
    simp only [RelL]
    exact ⟨_, _, rfl, ht0, _, _, rfl, hl1, rfl⟩
  refine (law_faults t0 l1 (fun _ => False) W _ (fun _ h => h.elim) hargsR).mono fun e W' ⟨v, he, hr, bel⟩ => ?_
  simp only [Rel] at hr
  subst hr
  subst he
  exact ⟨_, rfl, _, _, _, [], _, [], hW', trodAll_mk1 (shut_bool Try.underlying4 _), (trodAll_cons_mk (Below.trod laidOut (by kernel_rfl) (of_decide_eq_true (by kernel_rfl)) h0 bel lt0) (trodAll_cons_mk (Below.trod laidOut (by kernel_rfl) (of_decide_eq_true (by kernel_rfl)) h1 bel lt1) trodAll_mk0)), rfl, bel.frame _, fun h => by cases h⟩
theorem over : Rows.moveFaultsRow.holds Try.pinned (OpenSpec.ofChange Rows.moveFaultsSpec) :=
  OpenClaim.holds_of_wide 11 Try.f11 rfl rfl rfl rfl rfl rfl rfl ⟨rfl, rfl, rfl, rfl, rfl⟩ rfl rfl rfl rfl rfl (by kernel_rfl) Try.func11 (by kernel_rfl)
    (of_decide_eq_true (by kernel_rfl)) (by unfold Func.isWrapper; first | (rw [if_pos (by decide +kernel)]; kernel_rfl) | (rw [if_neg (by decide +kernel)]; exact ⟨rfl, rfl⟩))
    (fun os started H enc _ => lifted os started H enc)
end Go.Proofs.Ytahflobpopclpaa.moveFaults
namespace Go.Proofs.Ytahflobpopclpaa
theorem moveFaults_holds : Rows.MoveFaultsSaid := moveFaults.over
end Go.Proofs.Ytahflobpopclpaa
