import Derived.Test.YtahflobpopclpaaSp1
import Derived.Test.YtahflobpopclpaaR5
import Derived.Test.YtahflobpopclpaaP2
import Derived.Test.YtahflobpopclpaaAb26
import Derived.Test.YtahflobpopclpaaAb25
import Derived.Test.YtahflobpopclpaaP8
namespace Go.Ab
open Go Go.RowKit Go.Proofs Fac
set_option linter.unusedVariables false
set_option linter.unusedSimpArgs false
set_option maxRecDepth 4000
set_option maxHeartbeats 1000000

theorem M.near_comm {t : Town} (ok : M.Ok t) {a b : Int} (ha : M.lot t a = true) (hb : M.lot t b = true) : M.near t a b = M.near t b a := by
  have h1 := M.lot_iff.1 ha
  have h2 := M.lot_iff.1 hb
  have h3 := (ok.walks.2.1 a.toNat (by omega) b.toNat (by omega)).2.2
  have e1 : ((a.toNat : Nat) : Int) = a := by omega
  have e2 : ((b.toNat : Nat) : Int) = b := by omega
  rw [e1, e2] at h3
  simp only [M.near, h3]
theorem M.taught_first {t : Town} (ok : M.Ok t) {n : Int} (hn : M.lot t n = true) : (M.first t.schools.length (fun k => M.near t n (M.at' t.schools k))).isSome = M.taught t n := by
  unfold M.taught
  rw [Bool.eq_iff_iff]
  simp only [M.first, List.find?_isSome, List.mem_range, List.any_eq_true]
  constructor
  · rintro ⟨k, hk, h⟩
    refine ⟨t.schools[k], List.getElem_mem hk, ?_⟩
    rw [M.at_get hk] at h
    rw [← M.near_comm ok hn (ok.school (List.getElem_mem hk))]; exact h
  · rintro ⟨s, hs, h⟩
    obtain ⟨k, hk, rfl⟩ := List.mem_iff_getElem.1 hs
    refine ⟨k, hk, ?_⟩
    rw [M.at_get hk, M.near_comm ok hn (ok.school hs)]; exact h

theorem Closed.add {h : List AObj} (hc : Closed h) {o : AObj} (ho : o.all (fun _ => false) = true) : Closed (h ++ [o]) := by
  intro x hx
  rcases List.mem_append.1 hx with hx | hx
  · exact AObj.all_imp (fun i hi => by simp at *; omega) x (hc x hx)
  · simp only [List.mem_singleton] at hx; subst hx
    exact AObj.all_imp (fun i hi => by simp at hi) x ho

theorem mv_school11 (t : Town) (p : List Int) (h : List AObj) (i j : Nat) (hc : Closed h) (hi : h[i]? = some (.box 69 (cW t p))) (n s : Int) (hj : h[j]? = some (.box 3 [.int .i64 n])) (h1 : 0 ≤ n) (h2 : n.toNat < t.walk.length) (h3 : 0 ≤ s) (h4 : s.toNat < (t.walk[n.toNat]).length) : RetS Try.prog 95 [.int .i64 s, .ptr i 0, .ptr j 0] h (.bool (M.near t n s)) h := by
  apply RetS_fin (fn := Try.f95) Try.func95 rfl (by simp [V.all]) hc
  apply T_seq
  apply T_r F
  · (simp only [go_sem, Nat.reducePow, Nat.reduceLT, Nat.reduceAdd, Nat.reduceSub, Nat.reduceMul, Nat.reduceLeDiff, reduceIte, Nat.reduceEqDiff, Nat.reduceBEq, Try.ntmps95, cW_eq, hi, hj]) <;> exact rfl
  apply K_seq
  apply T_seq
  apply T_wL F [0, 1, 2, 3, 4] rfl
  apply W_pre [0, 1, 2] [3, 4]
  · (simp only [go_sem, Nat.reducePow, Nat.reduceLT, Nat.reduceAdd, Nat.reduceSub, Nat.reduceMul, Nat.reduceLeDiff, reduceIte, Nat.reduceEqDiff, Nat.reduceBEq, Try.ntmps95, cW_eq, hi, hj]) <;> exact rfl
  apply W_call -- call 0 of function 96
  · (simp only [go_sem, Nat.reducePow, Nat.reduceLT, Nat.reduceAdd, Nat.reduceSub, Nat.reduceMul, Nat.reduceLeDiff, reduceIte, Nat.reduceEqDiff, Nat.reduceBEq, Try.ntmps95, cW_eq, hi, hj]) <;> exact rfl
  · (simp only [go_sem, Nat.reducePow, Nat.reduceLT, Nat.reduceAdd, Nat.reduceSub, Nat.reduceMul, Nat.reduceLeDiff, reduceIte, Nat.reduceEqDiff, Nat.reduceBEq, Try.ntmps95, cW_eq, hi, hj]) <;> exact rfl
  · exact rfl
  · (simp only [go_sem, Nat.reducePow, Nat.reduceLT, Nat.reduceAdd, Nat.reduceSub, Nat.reduceMul, Nat.reduceLeDiff, reduceIte, Nat.reduceEqDiff, Nat.reduceBEq, Try.ntmps95, cW_eq, hi, hj]) <;> exact rfl
  · (simp only [go_sem, Nat.reducePow, Nat.reduceLT, Nat.reduceAdd, Nat.reduceSub, Nat.reduceMul, Nat.reduceLeDiff, reduceIte, Nat.reduceEqDiff, Nat.reduceBEq, Try.ntmps95, cW_eq, hi, hj]) <;> exact rfl
  · exact ⟨_, Try.func96, rfl, rfl⟩
  · (simp only [go_sem, Nat.reducePow, Nat.reduceLT, Nat.reduceAdd, Nat.reduceSub, Nat.reduceMul, Nat.reduceLeDiff, reduceIte, Nat.reduceEqDiff, Nat.reduceBEq, Try.ntmps95, cW_eq, hi, hj]) <;> exact rfl
  · (simp only [go_sem, Nat.reducePow, Nat.reduceLT, Nat.reduceAdd, Nat.reduceSub, Nat.reduceMul, Nat.reduceLeDiff, reduceIte, Nat.reduceEqDiff, Nat.reduceBEq, Try.ntmps95, cW_eq, hi, hj]) <;> exact rfl
  · exact mv_near _ _ _ _ (by assumption) (by assumption) (by assumption) (by assumption)
  apply W_run
  · (simp only [go_sem, Nat.reducePow, Nat.reduceLT, Nat.reduceAdd, Nat.reduceSub, Nat.reduceMul, Nat.reduceLeDiff, reduceIte, Nat.reduceEqDiff, Nat.reduceBEq, Try.ntmps95, cW_eq, hi, hj]) <;> exact rfl
  apply W_nil
  apply K_seq
  apply T_ret
  apply finS_ret
  · (simp only [go_sem, Nat.reducePow, Nat.reduceLT, Nat.reduceAdd, Nat.reduceSub, Nat.reduceMul, Nat.reduceLeDiff, reduceIte, Nat.reduceEqDiff, Nat.reduceBEq, Try.ntmps95, cW_eq, hi, hj, Try.f95]) <;> exact rfl
  · simp
  · simp
  -- leaf 0 (ret)
  simp only [go_sem, Nat.reducePow, Nat.reduceLT, Nat.reduceAdd, Nat.reduceSub, Nat.reduceMul, Nat.reduceLeDiff, reduceIte, Nat.reduceEqDiff, Nat.reduceBEq, Try.ntmps95, cW_eq, hi, hj, V.bool.injEq, V.int.injEq, true_and]
  all_goals rfl

theorem mv_school1 (t : Town) (p : List Int) (h : List AObj) (i : Nat) (hc : Closed h) (hi : h[i]? = some (.box 69 (cW t p))) (ok : M.Ok t) (hl : t.schools.length ≤ 9223372036854775807) (k : Nat) (hk : k < t.houses.length) (n : Int) (hn : M.lot t n = true) : RetS Try.prog 94 [.int .i64 (k : Int), .int .i64 n, .ptr i 0] h (.bool ((t.houses[k]).school && !M.taught t n)) h := by
  have hi1 : (h ++ [.box 3 [.int .i64 n]])[i]? = some (.box 69 (cW t p)) := by rw [List.getElem?_append_left (List.getElem?_eq_some_iff.1 hi).1]; exact hi
  have hnl := M.lot_iff.1 hn
  apply RetS_fin (fn := Try.f94) Try.func94 rfl (by simp [V.all]) hc
  apply T_seq
  apply T_r F
  · (simp only [go_sem, Nat.reducePow, Nat.reduceLT, Nat.reduceAdd, Nat.reduceSub, Nat.reduceMul, Nat.reduceLeDiff, reduceIte, Nat.reduceEqDiff, Nat.reduceBEq, Try.ntmps94, cW_eq, hi, hi1, rH_get hk, hk]) <;> exact rfl
  apply K_seq
  apply T_seq
  apply T_wL F [0, 1, 2, 3, 4, 5, 6, 7, 8, 9, 10, 11, 12, 13, 14, 15] rfl
  apply W_pre [0, 1, 2, 3] [4, 5, 6, 7, 8, 9, 10, 11, 12, 13, 14, 15]
  · (simp only [go_sem, Nat.reducePow, Nat.reduceLT, Nat.reduceAdd, Nat.reduceSub, Nat.reduceMul, Nat.reduceLeDiff, reduceIte, Nat.reduceEqDiff, Nat.reduceBEq, Try.ntmps94, cW_eq, hi, hi1, rH_get hk, hk]) <;> exact rfl
  apply W_pre [4, 5, 6, 7] [8, 9, 10, 11, 12, 13, 14, 15]
  · (simp only [go_sem, Nat.reducePow, Nat.reduceLT, Nat.reduceAdd, Nat.reduceSub, Nat.reduceMul, Nat.reduceLeDiff, reduceIte, Nat.reduceEqDiff, Nat.reduceBEq, Try.ntmps94, cW_eq, hi, hi1, rH_get hk, hk]) <;> exact rfl
  apply W_guard
  · (simp only [go_sem, Nat.reducePow, Nat.reduceLT, Nat.reduceAdd, Nat.reduceSub, Nat.reduceMul, Nat.reduceLeDiff, reduceIte, Nat.reduceEqDiff, Nat.reduceBEq, Try.ntmps94, cW_eq, hi, hi1, rH_get hk, hk]) <;> exact rfl
  · (simp only [go_sem, Nat.reducePow, Nat.reduceLT, Nat.reduceAdd, Nat.reduceSub, Nat.reduceMul, Nat.reduceLeDiff, reduceIte, Nat.reduceEqDiff, Nat.reduceBEq, Try.ntmps94, cW_eq, hi, hi1, rH_get hk, hk]) <;> exact rfl
  · intro bg0t
    have g0t := bg0t
    try simp only [beq_true, beq_false, decide_eq_true_eq, decide_eq_false_iff_not, Bool.not_eq_true', Bool.not_eq_false', Bool.not_eq_true, Bool.not_eq_false, ne_eq, Int.ofNat_lt, Int.ofNat_le, beq_iff_eq, bne_iff_ne, beq_eq_false_iff_ne, bne_eq_false_iff_eq, ge_iff_le, gt_iff_lt, Bool.not_true, Bool.not_false, Decidable.not_not, Int.natCast_inj, Int.natCast_nonneg] at g0t
    try simp only [beq_true, beq_false, Bool.not_eq_true', Bool.not_eq_false', Bool.not_not, Bool.not_true, Bool.not_false] at bg0t
    try exact absurd bg0t (by decide)
    all_goals (
  apply W_pre [8, 9, 10, 11] [12, 13, 14, 15]
  · (simp only [go_sem, Nat.reducePow, Nat.reduceLT, Nat.reduceAdd, Nat.reduceSub, Nat.reduceMul, Nat.reduceLeDiff, reduceIte, Nat.reduceEqDiff, Nat.reduceBEq, Try.ntmps94, cW_eq, hi, hi1, rH_get hk, hk, bg0t]) <;> exact rfl
  apply W_callS -- call 0
  · (simp only [go_sem, Nat.reducePow, Nat.reduceLT, Nat.reduceAdd, Nat.reduceSub, Nat.reduceMul, Nat.reduceLeDiff, reduceIte, Nat.reduceEqDiff, Nat.reduceBEq, Try.ntmps94, cW_eq, hi, hi1, rH_get hk, hk, bg0t]) <;> exact rfl
  · (simp only [go_sem, Nat.reducePow, Nat.reduceLT, Nat.reduceAdd, Nat.reduceSub, Nat.reduceMul, Nat.reduceLeDiff, reduceIte, Nat.reduceEqDiff, Nat.reduceBEq, Try.ntmps94, cW_eq, hi, hi1, rH_get hk, hk, bg0t]) <;> exact rfl
  · exact rfl
  · (simp only [go_sem, Nat.reducePow, Nat.reduceLT, Nat.reduceAdd, Nat.reduceSub, Nat.reduceMul, Nat.reduceLeDiff, reduceIte, Nat.reduceEqDiff, Nat.reduceBEq, Try.ntmps94, cW_eq, hi, hi1, rH_get hk, hk, bg0t]) <;> exact rfl
  · (simp only [go_sem, Nat.reducePow, Nat.reduceLT, Nat.reduceAdd, Nat.reduceSub, Nat.reduceMul, Nat.reduceLeDiff, reduceIte, Nat.reduceEqDiff, Nat.reduceBEq, Try.ntmps94, cW_eq, hi, hi1, rH_get hk, hk, bg0t]) <;> exact rfl
  · exact ⟨_, Try.func75, rfl, rfl⟩
  · exact sl_containsFunc t.schools (h ++ [.box 3 [.int .i64 n]]) 95 [] [.ptr i 0, .ptr h.length 0] (fun k => M.near t n (M.at' t.schools k)) (hc.add rfl) ⟨_, Try.func95, rfl, rfl⟩ hl (fun k hk => by
    have hs := M.lot_iff.1 (ok.school (List.getElem_mem hk))
    have := mv_school11 t p (h ++ [.box 3 [.int .i64 n]]) i h.length (hc.add rfl) hi1 n t.schools[k] (by simp) hnl.1 (by omega) hs.1 (by rw [ok.square]; omega)
    rw [M.at_get hk]
    exact this)
  apply W_run
  · (simp only [go_sem, Nat.reducePow, Nat.reduceLT, Nat.reduceAdd, Nat.reduceSub, Nat.reduceMul, Nat.reduceLeDiff, reduceIte, Nat.reduceEqDiff, Nat.reduceBEq, Try.ntmps94, cW_eq, hi, hi1, rH_get hk, hk, bg0t]) <;> exact rfl
  apply W_nil
  apply K_seq
  apply T_ret
  apply finS_ret
  · (simp only [go_sem, Nat.reducePow, Nat.reduceLT, Nat.reduceAdd, Nat.reduceSub, Nat.reduceMul, Nat.reduceLeDiff, reduceIte, Nat.reduceEqDiff, Nat.reduceBEq, Try.ntmps94, cW_eq, hi, hi1, rH_get hk, hk, bg0t, Try.f94]) <;> exact rfl
  · simp
  · simp
  -- leaf 0 (ret)
  simp only [go_sem, Nat.reducePow, Nat.reduceLT, Nat.reduceAdd, Nat.reduceSub, Nat.reduceMul, Nat.reduceLeDiff, reduceIte, Nat.reduceEqDiff, Nat.reduceBEq, Try.ntmps94, cW_eq, hi, hi1, rH_get hk, hk, bg0t, V.bool.injEq, V.int.injEq, true_and]
  grind [M.taught_first ok hn])
  · intro bg0f
    have g0f := bg0f
    try simp only [beq_true, beq_false, decide_eq_true_eq, decide_eq_false_iff_not, Bool.not_eq_true', Bool.not_eq_false', Bool.not_eq_true, Bool.not_eq_false, ne_eq, Int.ofNat_lt, Int.ofNat_le, beq_iff_eq, bne_iff_ne, beq_eq_false_iff_ne, bne_eq_false_iff_eq, ge_iff_le, gt_iff_lt, Bool.not_true, Bool.not_false, Decidable.not_not, Int.natCast_inj, Int.natCast_nonneg] at g0f
    try simp only [beq_true, beq_false, Bool.not_eq_true', Bool.not_eq_false', Bool.not_not, Bool.not_true, Bool.not_false] at bg0f
    try exact absurd bg0f (by decide)
    all_goals (
  apply W_pre [8, 9, 10, 11] [12, 13, 14, 15]
  · (simp only [go_sem, Nat.reducePow, Nat.reduceLT, Nat.reduceAdd, Nat.reduceSub, Nat.reduceMul, Nat.reduceLeDiff, reduceIte, Nat.reduceEqDiff, Nat.reduceBEq, Try.ntmps94, cW_eq, hi, hi1, rH_get hk, hk, bg0f]) <;> exact rfl
  apply W_run
  · (simp only [go_sem, Nat.reducePow, Nat.reduceLT, Nat.reduceAdd, Nat.reduceSub, Nat.reduceMul, Nat.reduceLeDiff, reduceIte, Nat.reduceEqDiff, Nat.reduceBEq, Try.ntmps94, cW_eq, hi, hi1, rH_get hk, hk, bg0f]) <;> exact rfl
  apply W_nil
  apply K_seq
  apply T_ret
  apply finS_ret
  · (simp only [go_sem, Nat.reducePow, Nat.reduceLT, Nat.reduceAdd, Nat.reduceSub, Nat.reduceMul, Nat.reduceLeDiff, reduceIte, Nat.reduceEqDiff, Nat.reduceBEq, Try.ntmps94, cW_eq, hi, hi1, rH_get hk, hk, bg0f, Try.f94]) <;> exact rfl
  · simp
  · simp
  -- leaf 1 (ret)
  simp only [go_sem, Nat.reducePow, Nat.reduceLT, Nat.reduceAdd, Nat.reduceSub, Nat.reduceMul, Nat.reduceLeDiff, reduceIte, Nat.reduceEqDiff, Nat.reduceBEq, Try.ntmps94, cW_eq, hi, hi1, rH_get hk, hk, bg0f, V.bool.injEq, V.int.injEq, true_and]
  grind [M.taught_first ok hn])

theorem mv_school (t : Town) (p : List Int) (ok : M.Ok t) (hp : M.plan t p = true) (hsl : t.schools.length ≤ 9223372036854775807) : Ret Try.prog 80 [.agg (cW t p)] (.int .i64 (match M.first p.length (M.untaught t p) with | some i => (i : Int) | none => -1)) := by
  refine Ret.of_fits fun hfits => ?_
  simp only [V.fits, V.fitsL, V.fitsR, cW_fits] at hfits
  apply Ret_fin (fn := Try.f80) Try.func80 rfl
  apply T_seq
  apply T_r F
  · (simp only [go_sem, Nat.reducePow, Nat.reduceLT, Nat.reduceAdd, Nat.reduceSub, Nat.reduceMul, Nat.reduceLeDiff, reduceIte, Nat.reduceEqDiff, Nat.reduceBEq, Try.ntmps80, cW_eq]) <;> exact rfl
  apply K_seq
  apply T_seq
  apply T_wL F [0, 1, 2, 3] rfl
  apply W_pre [0, 1] [2, 3]
  · (simp only [go_sem, Nat.reducePow, Nat.reduceLT, Nat.reduceAdd, Nat.reduceSub, Nat.reduceMul, Nat.reduceLeDiff, reduceIte, Nat.reduceEqDiff, Nat.reduceBEq, Try.ntmps80, cW_eq]) <;> exact rfl
  apply W_callS -- call 0
  · (simp only [go_sem, Nat.reducePow, Nat.reduceLT, Nat.reduceAdd, Nat.reduceSub, Nat.reduceMul, Nat.reduceLeDiff, reduceIte, Nat.reduceEqDiff, Nat.reduceBEq, Try.ntmps80, cW_eq]) <;> exact rfl
  · (simp only [go_sem, Nat.reducePow, Nat.reduceLT, Nat.reduceAdd, Nat.reduceSub, Nat.reduceMul, Nat.reduceLeDiff, reduceIte, Nat.reduceEqDiff, Nat.reduceBEq, Try.ntmps80, cW_eq]) <;> exact rfl
  · exact rfl
  · (simp only [go_sem, Nat.reducePow, Nat.reduceLT, Nat.reduceAdd, Nat.reduceSub, Nat.reduceMul, Nat.reduceLeDiff, reduceIte, Nat.reduceEqDiff, Nat.reduceBEq, Try.ntmps80, cW_eq]) <;> exact rfl
  · (simp only [go_sem, Nat.reducePow, Nat.reduceLT, Nat.reduceAdd, Nat.reduceSub, Nat.reduceMul, Nat.reduceLeDiff, reduceIte, Nat.reduceEqDiff, Nat.reduceBEq, Try.ntmps80, cW_eq]) <;> exact rfl
  · exact ⟨_, Try.func90, rfl, rfl⟩
  · exact mv_houses t p [.box 69 (cW t p)] 94 [] [.ptr 0 0] (M.untaught t p) (closed_W t p) hfits.1.2 ⟨_, Try.func94, rfl, rfl⟩ (fun k hk => by
    have hpl := (M.plan_iff.1 hp).1
    have := mv_school1 t p [.box 69 (cW t p), .box 69 (cW t p)] 0 (closed_WW t p) rfl ok hsl k (by omega) (M.at' p k) ((M.plan_iff.1 hp).2 k hk)
    rw [M.at_get hk] at this
    rw [M.untaught, M.hs_get (by omega), M.at_get hk]
    exact this)
  apply W_run
  · (simp only [go_sem, Nat.reducePow, Nat.reduceLT, Nat.reduceAdd, Nat.reduceSub, Nat.reduceMul, Nat.reduceLeDiff, reduceIte, Nat.reduceEqDiff, Nat.reduceBEq, Try.ntmps80, cW_eq]) <;> exact rfl
  apply W_nil
  apply K_seq
  apply T_ret
  apply fin_ret
  · (simp only [go_sem, Nat.reducePow, Nat.reduceLT, Nat.reduceAdd, Nat.reduceSub, Nat.reduceMul, Nat.reduceLeDiff, reduceIte, Nat.reduceEqDiff, Nat.reduceBEq, Try.ntmps80, cW_eq, Try.f80]) <;> exact rfl
  -- leaf 0 (ret)
  simp only [go_sem, Nat.reducePow, Nat.reduceLT, Nat.reduceAdd, Nat.reduceSub, Nat.reduceMul, Nat.reduceLeDiff, reduceIte, Nat.reduceEqDiff, Nat.reduceBEq, Try.ntmps80, cW_eq, V.bool.injEq, V.int.injEq, true_and]
  rfl

theorem sl_indexFuncP (l : List (Int × Int)) (h : List AObj) (g : FuncId) (ca cb : List V) (bb : Nat → Bool) (hc : Closed h) (hg : ∃ fn, Try.prog.funcs[g]? = some fn ∧ fn.body.isSome = true ∧ (fn.name == "runtime.NumGoroutine") = false) (hl : l.length ≤ 9223372036854775807)
  (hcall : ∀ (k : Nat) (hk : k < l.length), RetS Try.prog g (ca ++ [.agg [.int .i64 l[k].1, .int .i64 l[k].2]] ++ cb) h (.bool (bb k)) h) : RetS Try.prog 88 [.sl 2 (rP l), .fn g ca cb] h (.int .i64 (match M.first l.length bb with | some i => (i : Int) | none => -1)) h := by
  apply RetS_fin (fn := Try.f88) Try.func88 rfl (by cases M.first l.length bb <;> simp [V.all]) hc
  apply T_seq
  apply T_r F
  · (simp only [go_sem, Nat.reducePow, Nat.reduceLT, Nat.reduceAdd, Nat.reduceSub, Nat.reduceMul, Nat.reduceLeDiff, reduceIte, Nat.reduceEqDiff, Nat.reduceBEq, Try.ntmps88]) <;> exact rfl
  apply K_seq
  apply T_seq
  apply T_seq
  apply T_r F
  · (simp only [go_sem, Nat.reducePow, Nat.reduceLT, Nat.reduceAdd, Nat.reduceSub, Nat.reduceMul, Nat.reduceLeDiff, reduceIte, Nat.reduceEqDiff, Nat.reduceBEq, Try.ntmps88]) <;> exact rfl
  apply K_seq
  apply T_block
  apply T_lp (α := Nat) [true, true, false, false, false, false, false, true, true, false, false, false, false, false, false, false, false, false, false] (fun k => (⟨[.sl 2 (rP l), .fn g ca cb, .undef, .undef, .undef, .undef, .undef, .int .i64 (l.length : Int), .int .i64 (k : Int), .undef, .undef, .undef, .undef, .undef, .undef, .undef, .undef, .undef, .undef], h⟩ : St)) (fun k => k ≤ l.length ∧ ∀ j, j < k → bb j = false) (fun k => l.length - k) (0)
  · (simp only [go_sem, Nat.reducePow, Nat.reduceLT, Nat.reduceAdd, Nat.reduceSub, Nat.reduceMul, Nat.reduceLeDiff, reduceIte, Nat.reduceEqDiff, Nat.reduceBEq, Try.ntmps88]) <;> exact rfl
  · simp
  · rintro k ⟨hk, hj⟩
    apply T_seq
    apply T_r F
    · (simp only [go_sem, Nat.reducePow, Nat.reduceLT, Nat.reduceAdd, Nat.reduceSub, Nat.reduceMul, Nat.reduceLeDiff, reduceIte, Nat.reduceEqDiff, Nat.reduceBEq, Try.ntmps88]) <;> exact rfl
    apply K_seq
    apply T_seq
    apply T_if
    · (simp only [go_sem, Nat.reducePow, Nat.reduceLT, Nat.reduceAdd, Nat.reduceSub, Nat.reduceMul, Nat.reduceLeDiff, reduceIte, Nat.reduceEqDiff, Nat.reduceBEq, Try.ntmps88]) <;> exact rfl
    · intro bh0t
      have h0t := bh0t
      try simp only [beq_true, beq_false, decide_eq_true_eq, decide_eq_false_iff_not, Bool.not_eq_true', Bool.not_eq_false', Bool.not_eq_true, Bool.not_eq_false, ne_eq, Int.ofNat_lt, Int.ofNat_le, beq_iff_eq, bne_iff_ne, beq_eq_false_iff_ne, bne_eq_false_iff_eq, ge_iff_le, gt_iff_lt, Bool.not_true, Bool.not_false, Decidable.not_not, Int.natCast_inj, Int.natCast_nonneg] at h0t
      try simp only [beq_true, beq_false, Bool.not_eq_true', Bool.not_eq_false', Bool.not_not, Bool.not_true, Bool.not_false] at bh0t
      try exact absurd bh0t (by decide)
      all_goals (
  have hb : k < 9223372036854775807 := by omega
  apply T_skip
  apply K_seq
  apply T_seq
  apply T_block
  apply T_seq
  apply T_r F
  · (simp only [go_sem, Nat.reducePow, Nat.reduceLT, Nat.reduceAdd, Nat.reduceSub, Nat.reduceMul, Nat.reduceLeDiff, reduceIte, Nat.reduceEqDiff, Nat.reduceBEq, Try.ntmps88, bh0t, h0t, rP_get h0t, hb]) <;> exact rfl
  apply K_seq
  apply T_seq
  apply T_wL F [0, 1, 2, 3, 4, 5] rfl
  apply W_pre [0, 1, 2, 3, 4] [5]
  · (simp only [go_sem, Nat.reducePow, Nat.reduceLT, Nat.reduceAdd, Nat.reduceSub, Nat.reduceMul, Nat.reduceLeDiff, reduceIte, Nat.reduceEqDiff, Nat.reduceBEq, Try.ntmps88, bh0t, h0t, rP_get h0t, hb]) <;> exact rfl
  apply W_callS -- call 0
  · (simp only [go_sem, Nat.reducePow, Nat.reduceLT, Nat.reduceAdd, Nat.reduceSub, Nat.reduceMul, Nat.reduceLeDiff, reduceIte, Nat.reduceEqDiff, Nat.reduceBEq, Try.ntmps88, bh0t, h0t, rP_get h0t, hb]) <;> exact rfl
  · (simp only [go_sem, Nat.reducePow, Nat.reduceLT, Nat.reduceAdd, Nat.reduceSub, Nat.reduceMul, Nat.reduceLeDiff, reduceIte, Nat.reduceEqDiff, Nat.reduceBEq, Try.ntmps88, bh0t, h0t, rP_get h0t, hb]) <;> exact rfl
  · exact rfl
  · (simp only [go_sem, Nat.reducePow, Nat.reduceLT, Nat.reduceAdd, Nat.reduceSub, Nat.reduceMul, Nat.reduceLeDiff, reduceIte, Nat.reduceEqDiff, Nat.reduceBEq, Try.ntmps88, bh0t, h0t, rP_get h0t, hb]) <;> exact rfl
  · (simp only [go_sem, Nat.reducePow, Nat.reduceLT, Nat.reduceAdd, Nat.reduceSub, Nat.reduceMul, Nat.reduceLeDiff, reduceIte, Nat.reduceEqDiff, Nat.reduceBEq, Try.ntmps88, bh0t, h0t, rP_get h0t, hb]) <;> exact rfl
  · exact hg
  · exact hcall k h0t
  apply W_run
  · (simp only [go_sem, Nat.reducePow, Nat.reduceLT, Nat.reduceAdd, Nat.reduceSub, Nat.reduceMul, Nat.reduceLeDiff, reduceIte, Nat.reduceEqDiff, Nat.reduceBEq, Try.ntmps88, bh0t, h0t, rP_get h0t, hb]) <;> exact rfl
  apply W_nil
  apply K_seq
  apply T_if
  · (simp only [go_sem, Nat.reducePow, Nat.reduceLT, Nat.reduceAdd, Nat.reduceSub, Nat.reduceMul, Nat.reduceLeDiff, reduceIte, Nat.reduceEqDiff, Nat.reduceBEq, Try.ntmps88, bh0t, h0t, rP_get h0t, hb]) <;> exact rfl
  · intro bh1t
    have h1t := bh1t
    try simp only [beq_true, beq_false, decide_eq_true_eq, decide_eq_false_iff_not, Bool.not_eq_true', Bool.not_eq_false', Bool.not_eq_true, Bool.not_eq_false, ne_eq, Int.ofNat_lt, Int.ofNat_le, beq_iff_eq, bne_iff_ne, beq_eq_false_iff_ne, bne_eq_false_iff_eq, ge_iff_le, gt_iff_lt, Bool.not_true, Bool.not_false, Decidable.not_not, Int.natCast_inj, Int.natCast_nonneg] at h1t
    try simp only [beq_true, beq_false, Bool.not_eq_true', Bool.not_eq_false', Bool.not_not, Bool.not_true, Bool.not_false] at bh1t
    try exact absurd bh1t (by decide)
    all_goals (
  apply T_seq
  apply T_r F
  · (simp only [go_sem, Nat.reducePow, Nat.reduceLT, Nat.reduceAdd, Nat.reduceSub, Nat.reduceMul, Nat.reduceLeDiff, reduceIte, Nat.reduceEqDiff, Nat.reduceBEq, Try.ntmps88, bh0t, h0t, rP_get h0t, hb, bh1t]) <;> exact rfl
  apply K_seq
  apply T_ret
  apply K_blkR
  apply K_seqR
  apply K_lpR
  apply K_blkR
  apply K_seqR
  apply finS_ret
  · (simp only [go_sem, Nat.reducePow, Nat.reduceLT, Nat.reduceAdd, Nat.reduceSub, Nat.reduceMul, Nat.reduceLeDiff, reduceIte, Nat.reduceEqDiff, Nat.reduceBEq, Try.ntmps88, bh0t, h0t, rP_get h0t, hb, bh1t, Try.f88]) <;> exact rfl
  · simp
  · simp
  -- leaf 0 (ret)
  simp only [go_sem, Nat.reducePow, Nat.reduceLT, Nat.reduceAdd, Nat.reduceSub, Nat.reduceMul, Nat.reduceLeDiff, reduceIte, Nat.reduceEqDiff, Nat.reduceBEq, Try.ntmps88, bh0t, h0t, rP_get h0t, hb, bh1t, V.bool.injEq, V.int.injEq, true_and]
  first | rw [M.first_some h0t bh1t hj] | rw [M.first_none (fun j hj1 => hj j (by omega))])
  · intro bh1f
    have h1f := bh1f
    try simp only [beq_true, beq_false, decide_eq_true_eq, decide_eq_false_iff_not, Bool.not_eq_true', Bool.not_eq_false', Bool.not_eq_true, Bool.not_eq_false, ne_eq, Int.ofNat_lt, Int.ofNat_le, beq_iff_eq, bne_iff_ne, beq_eq_false_iff_ne, bne_eq_false_iff_eq, ge_iff_le, gt_iff_lt, Bool.not_true, Bool.not_false, Decidable.not_not, Int.natCast_inj, Int.natCast_nonneg] at h1f
    try simp only [beq_true, beq_false, Bool.not_eq_true', Bool.not_eq_false', Bool.not_not, Bool.not_true, Bool.not_false] at bh1f
    try exact absurd bh1f (by decide)
    all_goals (
  apply T_skip
  apply K_blk
  apply K_seq
  apply T_r F
  · (simp only [go_sem, Nat.reducePow, Nat.reduceLT, Nat.reduceAdd, Nat.reduceSub, Nat.reduceMul, Nat.reduceLeDiff, reduceIte, Nat.reduceEqDiff, Nat.reduceBEq, Try.ntmps88, bh0t, h0t, rP_get h0t, hb, bh1f]) <;> exact rfl
  refine K_lp (k + 1) ?_ ?_
  · (simp only [go_sem, Nat.reducePow, Nat.reduceLT, Nat.reduceAdd, Nat.reduceSub, Nat.reduceMul, Nat.reduceLeDiff, reduceIte, Nat.reduceEqDiff, Nat.reduceBEq, Try.ntmps88, bh0t, h0t, rP_get h0t, hb, bh1f]) <;> exact rfl
  -- leaf 1 (loop0)
  grind))
    · intro bh0f
      have h0f := bh0f
      try simp only [beq_true, beq_false, decide_eq_true_eq, decide_eq_false_iff_not, Bool.not_eq_true', Bool.not_eq_false', Bool.not_eq_true, Bool.not_eq_false, ne_eq, Int.ofNat_lt, Int.ofNat_le, beq_iff_eq, bne_iff_ne, beq_eq_false_iff_ne, bne_eq_false_iff_eq, ge_iff_le, gt_iff_lt, Bool.not_true, Bool.not_false, Decidable.not_not, Int.natCast_inj, Int.natCast_nonneg] at h0f
      try simp only [beq_true, beq_false, Bool.not_eq_true', Bool.not_eq_false', Bool.not_not, Bool.not_true, Bool.not_false] at bh0f
      try exact absurd bh0f (by decide)
      all_goals (
  apply T_exit
  apply K_seqE
  apply K_lpE
  apply K_blkE
  apply K_seq
  apply T_seq
  apply T_r F
  · (simp only [go_sem, Nat.reducePow, Nat.reduceLT, Nat.reduceAdd, Nat.reduceSub, Nat.reduceMul, Nat.reduceLeDiff, reduceIte, Nat.reduceEqDiff, Nat.reduceBEq, Try.ntmps88, bh0f]) <;> exact rfl
  apply K_seq
  apply T_ret
  apply finS_ret
  · (simp only [go_sem, Nat.reducePow, Nat.reduceLT, Nat.reduceAdd, Nat.reduceSub, Nat.reduceMul, Nat.reduceLeDiff, reduceIte, Nat.reduceEqDiff, Nat.reduceBEq, Try.ntmps88, bh0f, Try.f88]) <;> exact rfl
  · simp
  · simp
  -- leaf 2 (ret)
  simp only [go_sem, Nat.reducePow, Nat.reduceLT, Nat.reduceAdd, Nat.reduceSub, Nat.reduceMul, Nat.reduceLeDiff, reduceIte, Nat.reduceEqDiff, Nat.reduceBEq, Try.ntmps88, bh0f, V.bool.injEq, V.int.injEq, true_and]
  first | rw [M.first_some h0t bh1t hj] | rw [M.first_none (fun j hj1 => hj j (by omega))])

theorem sl_containsFuncP (l : List (Int × Int)) (h : List AObj) (g : FuncId) (ca cb : List V) (bb : Nat → Bool) (hc : Closed h) (hg : ∃ fn, Try.prog.funcs[g]? = some fn ∧ fn.body.isSome = true ∧ (fn.name == "runtime.NumGoroutine") = false) (hl : l.length ≤ 9223372036854775807)
  (hcall : ∀ (k : Nat) (hk : k < l.length), RetS Try.prog g (ca ++ [.agg [.int .i64 l[k].1, .int .i64 l[k].2]] ++ cb) h (.bool (bb k)) h) : RetS Try.prog 73 [.sl 2 (rP l), .fn g ca cb] h (.bool (M.first l.length bb).isSome) h := by
  apply RetS_fin (fn := Try.f73) Try.func73 rfl (by simp [V.all]) hc
  apply T_seq
  apply T_r F
  · (simp only [go_sem, Nat.reducePow, Nat.reduceLT, Nat.reduceAdd, Nat.reduceSub, Nat.reduceMul, Nat.reduceLeDiff, reduceIte, Nat.reduceEqDiff, Nat.reduceBEq, Try.ntmps73]) <;> exact rfl
  apply K_seq
  apply T_seq
  apply T_wL F [0, 1, 2, 3, 4] rfl
  apply W_pre [0, 1] [2, 3, 4]
  · (simp only [go_sem, Nat.reducePow, Nat.reduceLT, Nat.reduceAdd, Nat.reduceSub, Nat.reduceMul, Nat.reduceLeDiff, reduceIte, Nat.reduceEqDiff, Nat.reduceBEq, Try.ntmps73]) <;> exact rfl
  apply W_callS -- call 0
  · (simp only [go_sem, Nat.reducePow, Nat.reduceLT, Nat.reduceAdd, Nat.reduceSub, Nat.reduceMul, Nat.reduceLeDiff, reduceIte, Nat.reduceEqDiff, Nat.reduceBEq, Try.ntmps73]) <;> exact rfl
  · (simp only [go_sem, Nat.reducePow, Nat.reduceLT, Nat.reduceAdd, Nat.reduceSub, Nat.reduceMul, Nat.reduceLeDiff, reduceIte, Nat.reduceEqDiff, Nat.reduceBEq, Try.ntmps73]) <;> exact rfl
  · exact rfl
  · (simp only [go_sem, Nat.reducePow, Nat.reduceLT, Nat.reduceAdd, Nat.reduceSub, Nat.reduceMul, Nat.reduceLeDiff, reduceIte, Nat.reduceEqDiff, Nat.reduceBEq, Try.ntmps73]) <;> exact rfl
  · (simp only [go_sem, Nat.reducePow, Nat.reduceLT, Nat.reduceAdd, Nat.reduceSub, Nat.reduceMul, Nat.reduceLeDiff, reduceIte, Nat.reduceEqDiff, Nat.reduceBEq, Try.ntmps73]) <;> exact rfl
  · exact ⟨_, Try.func88, rfl, rfl⟩
  · exact sl_indexFuncP l h g ca cb bb hc hg hl hcall
  apply W_run
  · (simp only [go_sem, Nat.reducePow, Nat.reduceLT, Nat.reduceAdd, Nat.reduceSub, Nat.reduceMul, Nat.reduceLeDiff, reduceIte, Nat.reduceEqDiff, Nat.reduceBEq, Try.ntmps73]) <;> exact rfl
  apply W_nil
  apply K_seq
  apply T_ret
  apply finS_ret
  · (simp only [go_sem, Nat.reducePow, Nat.reduceLT, Nat.reduceAdd, Nat.reduceSub, Nat.reduceMul, Nat.reduceLeDiff, reduceIte, Nat.reduceEqDiff, Nat.reduceBEq, Try.ntmps73, Try.f73]) <;> exact rfl
  · simp
  · simp
  -- leaf 0 (ret)
  simp only [go_sem, Nat.reducePow, Nat.reduceLT, Nat.reduceAdd, Nat.reduceSub, Nat.reduceMul, Nat.reduceLeDiff, reduceIte, Nat.reduceEqDiff, Nat.reduceBEq, Try.ntmps73, V.bool.injEq, V.int.injEq, true_and]
  cases M.first l.length bb <;> simp

theorem mv_apart1 (t : Town) (p : List Int) (h : List AObj) (i : Nat) (hc : Closed h) (hi : h[i]? = some (.box 69 (cW t p))) (a b : Int) (h1 : 0 ≤ a) (h2 : a.toNat < p.length) (h3 : 0 ≤ b) (h4 : b.toNat < p.length) (h5 : 0 ≤ p[a.toNat]) (h6 : p[a.toNat].toNat < t.walk.length) (h7 : 0 ≤ p[b.toNat]) (h8 : p[b.toNat].toNat < (t.walk[p[a.toNat].toNat]).length) : RetS Try.prog 97 [.agg [.int .i64 a, .int .i64 b], .ptr i 0] h (.bool (!M.near t p[a.toNat] p[b.toNat])) h := by
  have hi1 : (h ++ [.box 43 [.int .i64 a, .int .i64 b]])[i]? = some (.box 69 (cW t p)) := by rw [List.getElem?_append_left (List.getElem?_eq_some_iff.1 hi).1]; exact hi
  have hib := heap_new h [] (.box 43 [.int .i64 a, .int .i64 b])
  have hib2 := heap_take h [.box 43 [.int .i64 a, .int .i64 b]]
  apply RetS_fin (fn := Try.f97) Try.func97 rfl (by simp [V.all]) hc
  apply T_seq
  apply T_r F
  · (simp only [go_sem, Nat.reducePow, Nat.reduceLT, Nat.reduceAdd, Nat.reduceSub, Nat.reduceMul, Nat.reduceLeDiff, reduceIte, Nat.reduceEqDiff, Nat.reduceBEq, Try.ntmps97, cW_eq, hi, hi1, hib, hib2, h1, h2, h3, h4, rI_get h2, rI_get h4]) <;> exact rfl
  apply K_seq
  apply T_seq
  apply T_qL F [0, 1, 2, 3, 4, 5, 6, 7, 8, 9, 10, 11, 12, 13, 14, 15] rfl (by kernel_rfl)
  apply Q_pre [0, 1, 2, 3] [4, 5, 6, 7, 8, 9, 10, 11, 12, 13, 14, 15]
  · (simp only [go_sem, Nat.reducePow, Nat.reduceLT, Nat.reduceAdd, Nat.reduceSub, Nat.reduceMul, Nat.reduceLeDiff, reduceIte, Nat.reduceEqDiff, Nat.reduceBEq, Try.ntmps97, cW_eq, hi, hi1, hib, hib2, h1, h2, h3, h4, rI_get h2, rI_get h4]) <;> exact rfl
  apply Q_pre [4, 5, 6, 7] [8, 9, 10, 11, 12, 13, 14, 15]
  · (simp only [go_sem, Nat.reducePow, Nat.reduceLT, Nat.reduceAdd, Nat.reduceSub, Nat.reduceMul, Nat.reduceLeDiff, reduceIte, Nat.reduceEqDiff, Nat.reduceBEq, Try.ntmps97, cW_eq, hi, hi1, hib, hib2, h1, h2, h3, h4, rI_get h2, rI_get h4]) <;> exact rfl
  apply Q_pre [8, 9, 10, 11, 12] [13, 14, 15]
  · (simp only [go_sem, Nat.reducePow, Nat.reduceLT, Nat.reduceAdd, Nat.reduceSub, Nat.reduceMul, Nat.reduceLeDiff, reduceIte, Nat.reduceEqDiff, Nat.reduceBEq, Try.ntmps97, cW_eq, hi, hi1, hib, hib2, h1, h2, h3, h4, rI_get h2, rI_get h4]) <;> exact rfl
  apply Q_call -- call 0 of function 96
  · (simp only [go_sem, Nat.reducePow, Nat.reduceLT, Nat.reduceAdd, Nat.reduceSub, Nat.reduceMul, Nat.reduceLeDiff, reduceIte, Nat.reduceEqDiff, Nat.reduceBEq, Try.ntmps97, cW_eq, hi, hi1, hib, hib2, h1, h2, h3, h4, rI_get h2, rI_get h4]) <;> exact rfl
  · (simp only [go_sem, Nat.reducePow, Nat.reduceLT, Nat.reduceAdd, Nat.reduceSub, Nat.reduceMul, Nat.reduceLeDiff, reduceIte, Nat.reduceEqDiff, Nat.reduceBEq, Try.ntmps97, cW_eq, hi, hi1, hib, hib2, h1, h2, h3, h4, rI_get h2, rI_get h4]) <;> exact rfl
  · exact rfl
  · (simp only [go_sem, Nat.reducePow, Nat.reduceLT, Nat.reduceAdd, Nat.reduceSub, Nat.reduceMul, Nat.reduceLeDiff, reduceIte, Nat.reduceEqDiff, Nat.reduceBEq, Try.ntmps97, cW_eq, hi, hi1, hib, hib2, h1, h2, h3, h4, rI_get h2, rI_get h4]) <;> exact rfl
  · (simp only [go_sem, Nat.reducePow, Nat.reduceLT, Nat.reduceAdd, Nat.reduceSub, Nat.reduceMul, Nat.reduceLeDiff, reduceIte, Nat.reduceEqDiff, Nat.reduceBEq, Try.ntmps97, cW_eq, hi, hi1, hib, hib2, h1, h2, h3, h4, rI_get h2, rI_get h4]) <;> exact rfl
  · exact ⟨_, Try.func96, rfl, rfl⟩
  · (simp only [go_sem, Nat.reducePow, Nat.reduceLT, Nat.reduceAdd, Nat.reduceSub, Nat.reduceMul, Nat.reduceLeDiff, reduceIte, Nat.reduceEqDiff, Nat.reduceBEq, Try.ntmps97, cW_eq, hi, hi1, hib, hib2, h1, h2, h3, h4, rI_get h2, rI_get h4]) <;> exact rfl
  · exact mv_near _ _ _ _ (by assumption) (by assumption) (by assumption) (by assumption)
  apply Q_run
  · (simp only [go_sem, Nat.reducePow, Nat.reduceLT, Nat.reduceAdd, Nat.reduceSub, Nat.reduceMul, Nat.reduceLeDiff, reduceIte, Nat.reduceEqDiff, Nat.reduceBEq, Try.ntmps97, cW_eq, hi, hi1, hib, hib2, h1, h2, h3, h4, rI_get h2, rI_get h4]) <;> exact rfl
  apply Q_nil
  apply K_seq
  apply T_ret
  apply finS_ret
  · (simp only [go_sem, Nat.reducePow, Nat.reduceLT, Nat.reduceAdd, Nat.reduceSub, Nat.reduceMul, Nat.reduceLeDiff, reduceIte, Nat.reduceEqDiff, Nat.reduceBEq, Try.ntmps97, cW_eq, hi, hi1, hib, hib2, h1, h2, h3, h4, rI_get h2, rI_get h4, Try.f97]) <;> exact rfl
  · simp
  · simp
  -- leaf 0 (ret)
  simp only [go_sem, Nat.reducePow, Nat.reduceLT, Nat.reduceAdd, Nat.reduceSub, Nat.reduceMul, Nat.reduceLeDiff, reduceIte, Nat.reduceEqDiff, Nat.reduceBEq, Try.ntmps97, cW_eq, hi, hi1, hib, hib2, h1, h2, h3, h4, rI_get h2, rI_get h4, V.bool.injEq, V.int.injEq, true_and]
  all_goals rfl

theorem mv_apart (t : Town) (p : List Int) (ok : M.Ok t) (hp : M.plan t p = true) (hkl : t.kin.length ≤ 9223372036854775807) : Ret Try.prog 81 [.agg (cW t p)] (.int .i64 (match M.first t.kin.length (M.apart t p) with | some i => (i : Int) | none => -1)) := by
  apply Ret_fin (fn := Try.f81) Try.func81 rfl
  apply T_seq
  apply T_r F
  · (simp only [go_sem, Nat.reducePow, Nat.reduceLT, Nat.reduceAdd, Nat.reduceSub, Nat.reduceMul, Nat.reduceLeDiff, reduceIte, Nat.reduceEqDiff, Nat.reduceBEq, Try.ntmps81, cW_eq]) <;> exact rfl
  apply K_seq
  apply T_seq
  apply T_wL F [0, 1, 2, 3, 4, 5] rfl
  apply W_pre [0, 1, 2, 3] [4, 5]
  · (simp only [go_sem, Nat.reducePow, Nat.reduceLT, Nat.reduceAdd, Nat.reduceSub, Nat.reduceMul, Nat.reduceLeDiff, reduceIte, Nat.reduceEqDiff, Nat.reduceBEq, Try.ntmps81, cW_eq]) <;> exact rfl
  apply W_callS -- call 0
  · (simp only [go_sem, Nat.reducePow, Nat.reduceLT, Nat.reduceAdd, Nat.reduceSub, Nat.reduceMul, Nat.reduceLeDiff, reduceIte, Nat.reduceEqDiff, Nat.reduceBEq, Try.ntmps81, cW_eq]) <;> exact rfl
  · (simp only [go_sem, Nat.reducePow, Nat.reduceLT, Nat.reduceAdd, Nat.reduceSub, Nat.reduceMul, Nat.reduceLeDiff, reduceIte, Nat.reduceEqDiff, Nat.reduceBEq, Try.ntmps81, cW_eq]) <;> exact rfl
  · exact rfl
  · (simp only [go_sem, Nat.reducePow, Nat.reduceLT, Nat.reduceAdd, Nat.reduceSub, Nat.reduceMul, Nat.reduceLeDiff, reduceIte, Nat.reduceEqDiff, Nat.reduceBEq, Try.ntmps81, cW_eq]) <;> exact rfl
  · (simp only [go_sem, Nat.reducePow, Nat.reduceLT, Nat.reduceAdd, Nat.reduceSub, Nat.reduceMul, Nat.reduceLeDiff, reduceIte, Nat.reduceEqDiff, Nat.reduceBEq, Try.ntmps81, cW_eq]) <;> exact rfl
  · exact ⟨_, Try.func88, rfl, rfl⟩
  · exact sl_indexFuncP t.kin [.box 69 (cW t p)] 97 [] [.ptr 0 0] (M.apart t p) (closed_W t p) ⟨_, Try.func97, rfl, rfl⟩ hkl (fun k hk => by
    obtain ⟨k1, k2, _⟩ := ok.kins k hk
    rw [M.kn_get hk] at k1 k2
    have k3 := M.house_iff.1 k1
    have k4 := M.house_iff.1 k2
    obtain ⟨p1, p2⟩ := M.plan_iff.1 hp
    have a1 := p2 t.kin[k].1.toNat (by omega)
    have a2 := p2 t.kin[k].2.toNat (by omega)
    rw [M.at_get (by omega)] at a1 a2
    have a3 := M.lot_iff.1 a1
    have a4 := M.lot_iff.1 a2
    have := mv_apart1 t p [.box 69 (cW t p)] 0 (closed_W t p) rfl t.kin[k].1 t.kin[k].2 k3.1 (by omega) k4.1 (by omega) a3.1 (by omega) a4.1 (by rw [ok.square]; omega)
    rw [M.apart, M.kn_get hk, M.at_get (by omega), M.at_get (by omega)]
    exact this)
  apply W_run
  · (simp only [go_sem, Nat.reducePow, Nat.reduceLT, Nat.reduceAdd, Nat.reduceSub, Nat.reduceMul, Nat.reduceLeDiff, reduceIte, Nat.reduceEqDiff, Nat.reduceBEq, Try.ntmps81, cW_eq]) <;> exact rfl
  apply W_nil
  apply K_seq
  apply T_ret
  apply fin_ret
  · (simp only [go_sem, Nat.reducePow, Nat.reduceLT, Nat.reduceAdd, Nat.reduceSub, Nat.reduceMul, Nat.reduceLeDiff, reduceIte, Nat.reduceEqDiff, Nat.reduceBEq, Try.ntmps81, cW_eq, Try.f81]) <;> exact rfl
  -- leaf 0 (ret)
  simp only [go_sem, Nat.reducePow, Nat.reduceLT, Nat.reduceAdd, Nat.reduceSub, Nat.reduceMul, Nat.reduceLeDiff, reduceIte, Nat.reduceEqDiff, Nat.reduceBEq, Try.ntmps81, cW_eq, V.bool.injEq, V.int.injEq, true_and]
  all_goals rfl

end Go.Ab
