import Derived.Test.YtahflobpopclpaaSp1
import Derived.Test.YtahflobpopclpaaR5
import Derived.Test.YtahflobpopclpaaP12
import Derived.Test.YtahflobpopclpaaAb26
import Derived.Test.YtahflobpopclpaaAb25
namespace Go.Ab
open Go Go.RowKit Go.Proofs Fac
set_option linter.unusedVariables false
set_option linter.unusedSimpArgs false
set_option maxRecDepth 4000
set_option maxHeartbeats 1000000


def M.o2i : Option Nat → Int
  | some i => i
  | none => -1
def M.rule (t : Town) (p : List Int) : Nat → Int
  | 0 => M.o2i (M.first p.length (M.shared p))
  | 1 => M.o2i (M.first p.length fun i => M.gone t (M.at' p i))
  | 2 => M.o2i (M.first p.length (M.unwished t p))
  | 3 => M.o2i (M.first p.length (M.untaught t p))
  | _ => M.o2i (M.first t.kin.length (M.apart t p))
theorem M.o2i_neg {o : Option Nat} (h : M.o2i o < 0) : o = none := by
  cases o with
  | none => rfl
  | some i => simp only [M.o2i] at h; omega
theorem M.o2i_some {o : Option Nat} (h : 0 ≤ M.o2i o) : ∃ i : Nat, o = some i ∧ M.o2i o = i := by
  cases o with
  | none => simp [M.o2i] at h
  | some i => exact ⟨i, rfl, rfl⟩
theorem M.fault_rule (t : Town) (p : List Int) {k : Nat} (hk : k < 5) (hb : ∀ j, j < k → M.rule t p j < 0) (h : 0 ≤ M.rule t p k) : M.fault t p = (2 + (k : Int), M.rule t p k) := by
  unfold M.fault
  rcases k with _ | _ | _ | _ | _ | k
  · obtain ⟨i, h1, h2⟩ := M.o2i_some h
    rw [h1]; simp only [M.rule, h2]; rfl
  · have b0 := M.o2i_neg (hb 0 (by omega))
    obtain ⟨i, h1, h2⟩ := M.o2i_some h
    rw [b0, h1]; simp only [M.rule, h2]; rfl
  · have b0 := M.o2i_neg (hb 0 (by omega))
    have b1 := M.o2i_neg (hb 1 (by omega))
    obtain ⟨i, h1, h2⟩ := M.o2i_some h
    rw [b0, b1, h1]; simp only [M.rule, h2]; rfl
  · have b0 := M.o2i_neg (hb 0 (by omega))
    have b1 := M.o2i_neg (hb 1 (by omega))
    have b2 := M.o2i_neg (hb 2 (by omega))
    obtain ⟨i, h1, h2⟩ := M.o2i_some h
    rw [b0, b1, b2, h1]; simp only [M.rule, h2]; rfl
  · have b0 := M.o2i_neg (hb 0 (by omega))
    have b1 := M.o2i_neg (hb 1 (by omega))
    have b2 := M.o2i_neg (hb 2 (by omega))
    have b3 := M.o2i_neg (hb 3 (by omega))
    obtain ⟨i, h1, h2⟩ := M.o2i_some h
    rw [b0, b1, b2, b3, h1]; simp only [M.rule, h2]; rfl
  · omega
theorem M.fault_none (t : Town) (p : List Int) (hb : ∀ j, j < 5 → M.rule t p j < 0) : M.fault t p = (1, 0) := by
  unfold M.fault
  have b0 := M.o2i_neg (hb 0 (by omega))
  have b1 := M.o2i_neg (hb 1 (by omega))
  have b2 := M.o2i_neg (hb 2 (by omega))
  have b3 := M.o2i_neg (hb 3 (by omega))
  have b4 := M.o2i_neg (hb 4 (by omega))
  rw [b0, b1, b2, b3, b4]
theorem M.rule_call {t : Town} {p : List Int} (ok : M.Ok t) (hp : M.plan t p = true) (hsl : t.schools.length ≤ 9223372036854775807) (hkl : t.kin.length ≤ 9223372036854775807) {k : Nat} (hk : k < 5) : Ret Try.prog (77 + k) [.agg (cW t p)] (.int .i64 (M.rule t p k)) := by
  rcases k with _ | _ | _ | _ | _ | k
  · exact mv_shared t p
  · exact mv_gone t p ok hp
  · exact mv_unwished t p ok hp
  · exact mv_school t p ok hp hsl
  · exact mv_apart t p ok hp hkl
  · omega
theorem M.rule_fn {k : Nat} (hk : k < 5) : ∃ fn, Try.prog.funcs[77 + k]? = some fn ∧ fn.body.isSome = true ∧ (fn.name == "runtime.NumGoroutine") = false := by
  rcases k with _ | _ | _ | _ | _ | k
  · exact ⟨_, Try.func77, rfl, rfl⟩
  · exact ⟨_, Try.func78, rfl, rfl⟩
  · exact ⟨_, Try.func79, rfl, rfl⟩
  · exact ⟨_, Try.func80, rfl, rfl⟩
  · exact ⟨_, Try.func81, rfl, rfl⟩
  · omega
theorem M.plan_first {t : Town} {p : List Int} (h : p.length = t.houses.length) : (!(M.first p.length fun k => !M.lot t (M.at' p k)).isSome) = M.plan t p := by
  rw [Bool.eq_iff_iff, M.plan_iff]
  simp only [M.first, Bool.not_eq_true', Option.isSome_eq_false_iff, Option.isNone_iff_eq_none, List.find?_eq_none, List.mem_range, Bool.not_eq_false, Bool.not_not, h, true_and]
theorem M.plan_no {t : Town} {p : List Int} (h : ¬ p.length = t.houses.length) : M.plan t p = false := by
  rw [Bool.eq_false_iff]
  intro hp
  exact h (M.plan_iff.1 hp).1
def M.sorted (l : List Int) : Bool := decide (∀ j, j < l.length → 0 < j → M.at' l (j - 1) ≤ M.at' l j)
theorem M.sorted_false {l : List Int} {i : Int} (h1 : i.toNat < l.length) (h2 : (i - 1).toNat < l.length) (h3 : 0 < i) (h : l[i.toNat] < l[(i - 1).toNat]) : M.sorted l = false := by
  rw [M.sorted, decide_eq_false_iff_not]
  intro hs
  have := hs i.toNat h1 (by omega)
  have e : i.toNat - 1 = (i - 1).toNat := by omega
  rw [e, M.at_get h1, M.at_get h2] at this
  omega
theorem M.sorted_true {l : List Int} (h : ∀ j, 0 < j → j < l.length → M.at' l (j - 1) ≤ M.at' l j) : M.sorted l = true := by
  rw [M.sorted, decide_eq_true_eq]
  exact fun j h1 h2 => h j h2 h1
theorem M.sorted_step {l : List Int} {i : Int} (h1 : i.toNat < l.length) (h2 : (i - 1).toNat < l.length) (h3 : 0 < i) (h : ¬ l[i.toNat] < l[(i - 1).toNat]) (hj : (-1 ≤ i ∧ i < l.length) ∧ ∀ j : Nat, i < j → j < l.length → M.at' l (j - 1) ≤ M.at' l j) : (-1 ≤ i - 1 ∧ i - 1 < l.length) ∧ ∀ j : Nat, i - 1 < j → j < l.length → M.at' l (j - 1) ≤ M.at' l j := by
  refine ⟨⟨by omega, by omega⟩, fun j k1 k2 => ?_⟩
  by_cases hji : i < j
  · exact hj.2 j hji k2
  · have e1 : j = i.toNat := by omega
    have e : i.toNat - 1 = (i - 1).toNat := by omega
    subst e1
    rw [e, M.at_get h1, M.at_get h2]
    omega
def rules (w : V) : List V := [.fn 77 [w] [], .fn 78 [w] [], .fn 79 [w] [], .fn 80 [w] [], .fn 81 [w] []]
theorem rules_get (w : V) {k : Nat} (hk : k < 5) : indexOfV Try.prog 105 (.agg (rules w)) (.int .i64 (k : Int)) = some (.fn (77 + k) [w] []) := by
  rcases k with _ | _ | _ | _ | _ | k
  · rfl
  · rfl
  · rfl
  · rfl
  · rfl
  · omega

theorem mv_fault (t : Town) (p : List Int) (ok : M.Ok t) (hp : M.plan t p = true) (hsl : t.schools.length ≤ 9223372036854775807) (hkl : t.kin.length ≤ 9223372036854775807) : Ret Try.prog 48 [.agg (cW t p)] (.agg [.int .i64 (M.fault t p).1, .int .i64 (M.fault t p).2]) := by
  apply Ret_fin (fn := Try.f48) Try.func48 rfl
  apply T_seq
  apply T_r F
  · (simp only [go_sem, Nat.reducePow, Nat.reduceLT, Nat.reduceAdd, Nat.reduceSub, Nat.reduceMul, Nat.reduceLeDiff, reduceIte, Nat.reduceEqDiff, Nat.reduceBEq, Try.ntmps48, cW_eq]) <;> exact rfl
  apply K_seq
  apply T_seq
  apply T_seq
  apply T_wL F [0, 1, 2, 3, 4, 5, 6, 7, 8, 9, 10, 11] rfl
  apply W_pre [0, 1, 2, 3] [4, 5, 6, 7, 8, 9, 10, 11]
  · (simp only [go_sem, Nat.reducePow, Nat.reduceLT, Nat.reduceAdd, Nat.reduceSub, Nat.reduceMul, Nat.reduceLeDiff, reduceIte, Nat.reduceEqDiff, Nat.reduceBEq, Try.ntmps48, cW_eq]) <;> exact rfl
  apply W_pre [4, 5, 6, 7] [8, 9, 10, 11]
  · (simp only [go_sem, Nat.reducePow, Nat.reduceLT, Nat.reduceAdd, Nat.reduceSub, Nat.reduceMul, Nat.reduceLeDiff, reduceIte, Nat.reduceEqDiff, Nat.reduceBEq, Try.ntmps48, cW_eq]) <;> exact rfl
  apply W_run
  · (simp only [go_sem, Nat.reducePow, Nat.reduceLT, Nat.reduceAdd, Nat.reduceSub, Nat.reduceMul, Nat.reduceLeDiff, reduceIte, Nat.reduceEqDiff, Nat.reduceBEq, Try.ntmps48, cW_eq]) <;> exact rfl
  apply W_nil
  apply K_seq
  apply T_block
  apply T_lp (α := Nat) [false, false, true, false, false, false, false, false, false, false, false, false, false, false, false, false, true, true, false, false, false, false, false, false, false, false, false, false, false, false, false] (fun k => (⟨[.undef, .undef, .ptr 1 0, .undef, .undef, .undef, .undef, .undef, .undef, .undef, .undef, .undef, .undef, .undef, .undef, .undef, .agg [.fn 77 [.agg (cW t p)] [], .fn 78 [.agg (cW t p)] [], .fn 79 [.agg (cW t p)] [], .fn 80 [.agg (cW t p)] [], .fn 81 [.agg (cW t p)] []], .int .i64 (k : Int), .undef, .undef, .undef, .undef, .undef, .undef, .undef, .undef, .undef, .undef, .undef, .undef, .undef], [.box 69 (cW t p), .box 35 [.int .i64 0, .int .i64 0]]⟩ : St)) (fun k => k ≤ 5 ∧ ∀ j, j < k → M.rule t p j < 0) (fun k => 5 - k) (0)
  · (simp only [go_sem, Nat.reducePow, Nat.reduceLT, Nat.reduceAdd, Nat.reduceSub, Nat.reduceMul, Nat.reduceLeDiff, reduceIte, Nat.reduceEqDiff, Nat.reduceBEq, Try.ntmps48, cW_eq]) <;> exact rfl
  · simp
  · rintro k ⟨hk, hj⟩
    apply T_seq
    apply T_r F
    · (simp only [go_sem, Nat.reducePow, Nat.reduceLT, Nat.reduceAdd, Nat.reduceSub, Nat.reduceMul, Nat.reduceLeDiff, reduceIte, Nat.reduceEqDiff, Nat.reduceBEq, Try.ntmps48, cW_eq]) <;> exact rfl
    apply K_seq
    apply T_seq
    apply T_if
    · (simp only [go_sem, Nat.reducePow, Nat.reduceLT, Nat.reduceAdd, Nat.reduceSub, Nat.reduceMul, Nat.reduceLeDiff, reduceIte, Nat.reduceEqDiff, Nat.reduceBEq, Try.ntmps48, cW_eq]) <;> exact rfl
    · intro bh0t
      have h0t := bh0t
      try simp only [beq_true, beq_false, decide_eq_true_eq, decide_eq_false_iff_not, Bool.not_eq_true', Bool.not_eq_false', Bool.not_eq_true, Bool.not_eq_false, ne_eq, Int.ofNat_lt, Int.ofNat_le, beq_iff_eq, bne_iff_ne, beq_eq_false_iff_ne, bne_eq_false_iff_eq, ge_iff_le, gt_iff_lt, Bool.not_true, Bool.not_false, Decidable.not_not, Int.natCast_inj, Int.natCast_nonneg] at h0t
      try simp only [beq_true, beq_false, Bool.not_eq_true', Bool.not_eq_false', Bool.not_not, Bool.not_true, Bool.not_false] at bh0t
      try exact absurd bh0t (by decide)
      all_goals (
  have hk5 : k < 5 := by omega
  have hb : k < 9223372036854775807 := by omega
  have hget := rules_get (.agg (cW t p)) hk5
  simp only [rules, cW_eq] at hget
  apply T_skip
  apply K_seq
  apply T_seq
  apply T_block
  apply T_seq
  apply T_r F
  · (simp only [go_sem, Nat.reducePow, Nat.reduceLT, Nat.reduceAdd, Nat.reduceSub, Nat.reduceMul, Nat.reduceLeDiff, reduceIte, Nat.reduceEqDiff, Nat.reduceBEq, Try.ntmps48, cW_eq, bh0t, h0t, hb, hget]) <;> exact rfl
  apply K_seq
  apply T_seq
  apply T_wL F [0, 1, 2] rfl
  apply W_pre [0] [1, 2]
  · (simp only [go_sem, Nat.reducePow, Nat.reduceLT, Nat.reduceAdd, Nat.reduceSub, Nat.reduceMul, Nat.reduceLeDiff, reduceIte, Nat.reduceEqDiff, Nat.reduceBEq, Try.ntmps48, cW_eq, bh0t, h0t, hb, hget]) <;> exact rfl
  apply W_callS -- call 0
  · (simp only [go_sem, Nat.reducePow, Nat.reduceLT, Nat.reduceAdd, Nat.reduceSub, Nat.reduceMul, Nat.reduceLeDiff, reduceIte, Nat.reduceEqDiff, Nat.reduceBEq, Try.ntmps48, cW_eq, bh0t, h0t, hb, hget]) <;> exact rfl
  · (simp only [go_sem, Nat.reducePow, Nat.reduceLT, Nat.reduceAdd, Nat.reduceSub, Nat.reduceMul, Nat.reduceLeDiff, reduceIte, Nat.reduceEqDiff, Nat.reduceBEq, Try.ntmps48, cW_eq, bh0t, h0t, hb, hget]) <;> exact rfl
  · exact rfl
  · (simp only [go_sem, Nat.reducePow, Nat.reduceLT, Nat.reduceAdd, Nat.reduceSub, Nat.reduceMul, Nat.reduceLeDiff, reduceIte, Nat.reduceEqDiff, Nat.reduceBEq, Try.ntmps48, cW_eq, bh0t, h0t, hb, hget]) <;> exact rfl
  · (simp only [go_sem, Nat.reducePow, Nat.reduceLT, Nat.reduceAdd, Nat.reduceSub, Nat.reduceMul, Nat.reduceLeDiff, reduceIte, Nat.reduceEqDiff, Nat.reduceBEq, Try.ntmps48, cW_eq, bh0t, h0t, hb, hget]) <;> exact rfl
  · exact M.rule_fn hk5
  · exact (M.rule_call ok hp hsl hkl hk5).shared (by (simp only [go_sem, cW_eq]) <;> exact rfl) (by (simp only [go_sem, cW_eq, reduceIte, Nat.reduceLeDiff]) <;> exact rfl)
  apply W_run
  · (simp only [go_sem, Nat.reducePow, Nat.reduceLT, Nat.reduceAdd, Nat.reduceSub, Nat.reduceMul, Nat.reduceLeDiff, reduceIte, Nat.reduceEqDiff, Nat.reduceBEq, Try.ntmps48, cW_eq, bh0t, h0t, hb, hget]) <;> exact rfl
  apply W_nil
  apply K_seq
  apply T_seq
  apply T_r F
  · (simp only [go_sem, Nat.reducePow, Nat.reduceLT, Nat.reduceAdd, Nat.reduceSub, Nat.reduceMul, Nat.reduceLeDiff, reduceIte, Nat.reduceEqDiff, Nat.reduceBEq, Try.ntmps48, cW_eq, bh0t, h0t, hb, hget]) <;> exact rfl
  apply K_seq
  apply T_if
  · (simp only [go_sem, Nat.reducePow, Nat.reduceLT, Nat.reduceAdd, Nat.reduceSub, Nat.reduceMul, Nat.reduceLeDiff, reduceIte, Nat.reduceEqDiff, Nat.reduceBEq, Try.ntmps48, cW_eq, bh0t, h0t, hb, hget]) <;> exact rfl
  · intro bh1t
    have h1t := bh1t
    try simp only [beq_true, beq_false, decide_eq_true_eq, decide_eq_false_iff_not, Bool.not_eq_true', Bool.not_eq_false', Bool.not_eq_true, Bool.not_eq_false, ne_eq, Int.ofNat_lt, Int.ofNat_le, beq_iff_eq, bne_iff_ne, beq_eq_false_iff_ne, bne_eq_false_iff_eq, ge_iff_le, gt_iff_lt, Bool.not_true, Bool.not_false, Decidable.not_not, Int.natCast_inj, Int.natCast_nonneg] at h1t
    try simp only [beq_true, beq_false, Bool.not_eq_true', Bool.not_eq_false', Bool.not_not, Bool.not_true, Bool.not_false] at bh1t
    try exact absurd bh1t (by decide)
    all_goals (
  apply T_seq
  apply T_r F
  · (simp only [go_sem, Nat.reducePow, Nat.reduceLT, Nat.reduceAdd, Nat.reduceSub, Nat.reduceMul, Nat.reduceLeDiff, reduceIte, Nat.reduceEqDiff, Nat.reduceBEq, Try.ntmps48, cW_eq, bh0t, h0t, hb, hget, bh1t]) <;> exact rfl
  apply K_seq
  apply T_ret
  apply K_blkR
  apply K_seqR
  apply K_lpR
  apply K_blkR
  apply K_seqR
  apply fin_ret
  · (simp only [go_sem, Nat.reducePow, Nat.reduceLT, Nat.reduceAdd, Nat.reduceSub, Nat.reduceMul, Nat.reduceLeDiff, reduceIte, Nat.reduceEqDiff, Nat.reduceBEq, Try.ntmps48, cW_eq, bh0t, h0t, hb, hget, bh1t, Try.f48]) <;> exact rfl
  -- leaf 0 (ret)
  simp only [go_sem, Nat.reducePow, Nat.reduceLT, Nat.reduceAdd, Nat.reduceSub, Nat.reduceMul, Nat.reduceLeDiff, reduceIte, Nat.reduceEqDiff, Nat.reduceBEq, Try.ntmps48, cW_eq, bh0t, h0t, hb, hget, bh1t, V.bool.injEq, V.int.injEq, true_and]
  first | rw [M.fault_rule t p hk5 hj h1t, wrap_id (by omega) (by omega)] | rw [M.fault_none t p (fun j hj5 => hj j (by omega))])
  · intro bh1f
    have h1f := bh1f
    try simp only [beq_true, beq_false, decide_eq_true_eq, decide_eq_false_iff_not, Bool.not_eq_true', Bool.not_eq_false', Bool.not_eq_true, Bool.not_eq_false, ne_eq, Int.ofNat_lt, Int.ofNat_le, beq_iff_eq, bne_iff_ne, beq_eq_false_iff_ne, bne_eq_false_iff_eq, ge_iff_le, gt_iff_lt, Bool.not_true, Bool.not_false, Decidable.not_not, Int.natCast_inj, Int.natCast_nonneg] at h1f
    try simp only [beq_true, beq_false, Bool.not_eq_true', Bool.not_eq_false', Bool.not_not, Bool.not_true, Bool.not_false] at bh1f
    try exact absurd bh1f (by decide)
    all_goals (
  apply T_skip
  apply K_blk
  apply K_seq
  apply T_r F
  · (simp only [go_sem, Nat.reducePow, Nat.reduceLT, Nat.reduceAdd, Nat.reduceSub, Nat.reduceMul, Nat.reduceLeDiff, reduceIte, Nat.reduceEqDiff, Nat.reduceBEq, Try.ntmps48, cW_eq, bh0t, h0t, hb, hget, bh1f]) <;> exact rfl
  refine K_lp (k + 1) ?_ ?_
  · (simp only [go_sem, Nat.reducePow, Nat.reduceLT, Nat.reduceAdd, Nat.reduceSub, Nat.reduceMul, Nat.reduceLeDiff, reduceIte, Nat.reduceEqDiff, Nat.reduceBEq, Try.ntmps48, cW_eq, bh0t, h0t, hb, hget, bh1f]) <;> exact rfl
  -- leaf 1 (loop0)
  grind))
    · intro bh0f
      have h0f := bh0f
      try simp only [beq_true, beq_false, decide_eq_true_eq, decide_eq_false_iff_not, Bool.not_eq_true', Bool.not_eq_false', Bool.not_eq_true, Bool.not_eq_false, ne_eq, Int.ofNat_lt, Int.ofNat_le, beq_iff_eq, bne_iff_ne, beq_eq_false_iff_ne, bne_eq_false_iff_eq, ge_iff_le, gt_iff_lt, Bool.not_true, Bool.not_false, Decidable.not_not, Int.natCast_inj, Int.natCast_nonneg] at h0f
      try simp only [beq_true, beq_false, Bool.not_eq_true', Bool.not_eq_false', Bool.not_not, Bool.not_true, Bool.not_false] at bh0f
      try exact absurd bh0f (by decide)
      all_goals (
  apply T_exit
  apply K_seqE
  apply K_lpE
  apply K_blkE
  apply K_seq
  apply T_seq
  apply T_r F
  · (simp only [go_sem, Nat.reducePow, Nat.reduceLT, Nat.reduceAdd, Nat.reduceSub, Nat.reduceMul, Nat.reduceLeDiff, reduceIte, Nat.reduceEqDiff, Nat.reduceBEq, Try.ntmps48, cW_eq, bh0f]) <;> exact rfl
  apply K_seq
  apply T_ret
  apply fin_ret
  · (simp only [go_sem, Nat.reducePow, Nat.reduceLT, Nat.reduceAdd, Nat.reduceSub, Nat.reduceMul, Nat.reduceLeDiff, reduceIte, Nat.reduceEqDiff, Nat.reduceBEq, Try.ntmps48, cW_eq, bh0f, Try.f48]) <;> exact rfl
  -- leaf 2 (ret)
  simp only [go_sem, Nat.reducePow, Nat.reduceLT, Nat.reduceAdd, Nat.reduceSub, Nat.reduceMul, Nat.reduceLeDiff, reduceIte, Nat.reduceEqDiff, Nat.reduceBEq, Try.ntmps48, cW_eq, bh0f, V.bool.injEq, V.int.injEq, true_and]
  first | rw [M.fault_rule t p hk5 hj h1t, wrap_id (by omega) (by omega)] | rw [M.fault_none t p (fun j hj5 => hj j (by omega))])

theorem mv_planned1 (t : Town) (p : List Int) (h : List AObj) (i : Nat) (hc : Closed h) (hi : h[i]? = some (.box 69 (cW t p))) (hw : t.walk.length ≤ 9223372036854775807) (n : Int) : RetS Try.prog 76 [.int .i64 n, .ptr i 0] h (.bool (!M.lot t n)) h := by
  have hwr : IntKind.i64.wrap ((t.walk.length : Int) - 1) = (t.walk.length : Int) - 1 := wrap_id (by omega) (by omega)
  apply RetS_fin (fn := Try.f76) Try.func76 rfl (by simp [V.all]) hc
  apply T_seq
  apply T_r F
  · (simp only [go_sem, Nat.reducePow, Nat.reduceLT, Nat.reduceAdd, Nat.reduceSub, Nat.reduceMul, Nat.reduceLeDiff, reduceIte, Nat.reduceEqDiff, Nat.reduceBEq, Try.ntmps76, cW_eq, hi, hwr]) <;> exact rfl
  apply K_seq
  apply T_seq
  apply T_wL F [0, 1, 2, 3, 4, 5, 6, 7, 8] rfl
  apply W_pre [0, 1, 2, 3, 4, 5] [6, 7, 8]
  · (simp only [go_sem, Nat.reducePow, Nat.reduceLT, Nat.reduceAdd, Nat.reduceSub, Nat.reduceMul, Nat.reduceLeDiff, reduceIte, Nat.reduceEqDiff, Nat.reduceBEq, Try.ntmps76, cW_eq, hi, hwr]) <;> exact rfl
  apply W_call -- call 0 of function 70
  · (simp only [go_sem, Nat.reducePow, Nat.reduceLT, Nat.reduceAdd, Nat.reduceSub, Nat.reduceMul, Nat.reduceLeDiff, reduceIte, Nat.reduceEqDiff, Nat.reduceBEq, Try.ntmps76, cW_eq, hi, hwr]) <;> exact rfl
  · (simp only [go_sem, Nat.reducePow, Nat.reduceLT, Nat.reduceAdd, Nat.reduceSub, Nat.reduceMul, Nat.reduceLeDiff, reduceIte, Nat.reduceEqDiff, Nat.reduceBEq, Try.ntmps76, cW_eq, hi, hwr]) <;> exact rfl
  · exact rfl
  · (simp only [go_sem, Nat.reducePow, Nat.reduceLT, Nat.reduceAdd, Nat.reduceSub, Nat.reduceMul, Nat.reduceLeDiff, reduceIte, Nat.reduceEqDiff, Nat.reduceBEq, Try.ntmps76, cW_eq, hi, hwr]) <;> exact rfl
  · (simp only [go_sem, Nat.reducePow, Nat.reduceLT, Nat.reduceAdd, Nat.reduceSub, Nat.reduceMul, Nat.reduceLeDiff, reduceIte, Nat.reduceEqDiff, Nat.reduceBEq, Try.ntmps76, cW_eq, hi, hwr]) <;> exact rfl
  · exact ⟨_, Try.func70, rfl, rfl⟩
  · (simp only [go_sem, Nat.reducePow, Nat.reduceLT, Nat.reduceAdd, Nat.reduceSub, Nat.reduceMul, Nat.reduceLeDiff, reduceIte, Nat.reduceEqDiff, Nat.reduceBEq, Try.ntmps76, cW_eq, hi, hwr]) <;> exact rfl
  · (simp only [go_sem, Nat.reducePow, Nat.reduceLT, Nat.reduceAdd, Nat.reduceSub, Nat.reduceMul, Nat.reduceLeDiff, reduceIte, Nat.reduceEqDiff, Nat.reduceBEq, Try.ntmps76, cW_eq, hi, hwr]) <;> exact rfl
  · exact mv_in _ _ _
  apply W_run
  · (simp only [go_sem, Nat.reducePow, Nat.reduceLT, Nat.reduceAdd, Nat.reduceSub, Nat.reduceMul, Nat.reduceLeDiff, reduceIte, Nat.reduceEqDiff, Nat.reduceBEq, Try.ntmps76, cW_eq, hi, hwr]) <;> exact rfl
  apply W_nil
  apply K_seq
  apply T_ret
  apply finS_ret
  · (simp only [go_sem, Nat.reducePow, Nat.reduceLT, Nat.reduceAdd, Nat.reduceSub, Nat.reduceMul, Nat.reduceLeDiff, reduceIte, Nat.reduceEqDiff, Nat.reduceBEq, Try.ntmps76, cW_eq, hi, hwr, Try.f76]) <;> exact rfl
  · simp
  · simp
  -- leaf 0 (ret)
  simp only [go_sem, Nat.reducePow, Nat.reduceLT, Nat.reduceAdd, Nat.reduceSub, Nat.reduceMul, Nat.reduceLeDiff, reduceIte, Nat.reduceEqDiff, Nat.reduceBEq, Try.ntmps76, cW_eq, hi, hwr, V.bool.injEq, V.int.injEq, true_and]
  simp [M.lot]

theorem mv_planned (t : Town) (p : List Int) : Ret Try.prog 47 [.agg (cW t p)] (.bool (M.plan t p)) := by
  refine Ret.of_fits fun hfits => ?_
  simp only [V.fits, V.fitsL, V.fitsR, cW_fits] at hfits
  have hwl := hfits.1.1.walk
  apply Ret_fin (fn := Try.f47) Try.func47 rfl
  apply T_seq
  apply T_r F
  · (simp only [go_sem, Nat.reducePow, Nat.reduceLT, Nat.reduceAdd, Nat.reduceSub, Nat.reduceMul, Nat.reduceLeDiff, reduceIte, Nat.reduceEqDiff, Nat.reduceBEq, Try.ntmps47, cW_eq]) <;> exact rfl
  apply K_seq
  apply T_seq
  apply T_wL F [0, 1, 2, 3, 4, 5, 6, 7, 8, 9, 10, 11, 12, 13, 14, 15] rfl
  apply W_pre [0, 1, 2, 3] [4, 5, 6, 7, 8, 9, 10, 11, 12, 13, 14, 15]
  · (simp only [go_sem, Nat.reducePow, Nat.reduceLT, Nat.reduceAdd, Nat.reduceSub, Nat.reduceMul, Nat.reduceLeDiff, reduceIte, Nat.reduceEqDiff, Nat.reduceBEq, Try.ntmps47, cW_eq]) <;> exact rfl
  apply W_pre [4, 5, 6, 7, 8] [9, 10, 11, 12, 13, 14, 15]
  · (simp only [go_sem, Nat.reducePow, Nat.reduceLT, Nat.reduceAdd, Nat.reduceSub, Nat.reduceMul, Nat.reduceLeDiff, reduceIte, Nat.reduceEqDiff, Nat.reduceBEq, Try.ntmps47, cW_eq]) <;> exact rfl
  apply W_guard
  · (simp only [go_sem, Nat.reducePow, Nat.reduceLT, Nat.reduceAdd, Nat.reduceSub, Nat.reduceMul, Nat.reduceLeDiff, reduceIte, Nat.reduceEqDiff, Nat.reduceBEq, Try.ntmps47, cW_eq]) <;> exact rfl
  · (simp only [go_sem, Nat.reducePow, Nat.reduceLT, Nat.reduceAdd, Nat.reduceSub, Nat.reduceMul, Nat.reduceLeDiff, reduceIte, Nat.reduceEqDiff, Nat.reduceBEq, Try.ntmps47, cW_eq]) <;> exact rfl
  · intro bg0t
    have g0t := bg0t
    try simp only [beq_true, beq_false, decide_eq_true_eq, decide_eq_false_iff_not, Bool.not_eq_true', Bool.not_eq_false', Bool.not_eq_true, Bool.not_eq_false, ne_eq, Int.ofNat_lt, Int.ofNat_le, beq_iff_eq, bne_iff_ne, beq_eq_false_iff_ne, bne_eq_false_iff_eq, ge_iff_le, gt_iff_lt, Bool.not_true, Bool.not_false, Decidable.not_not, Int.natCast_inj, Int.natCast_nonneg] at g0t
    try simp only [beq_true, beq_false, Bool.not_eq_true', Bool.not_eq_false', Bool.not_not, Bool.not_true, Bool.not_false] at bg0t
    try exact absurd bg0t (by decide)
    all_goals (
  apply W_pre [9, 10, 11] [12, 13, 14, 15]
  · (simp only [go_sem, Nat.reducePow, Nat.reduceLT, Nat.reduceAdd, Nat.reduceSub, Nat.reduceMul, Nat.reduceLeDiff, reduceIte, Nat.reduceEqDiff, Nat.reduceBEq, Try.ntmps47, cW_eq, bg0t]) <;> exact rfl
  apply W_callS -- call 0
  · (simp only [go_sem, Nat.reducePow, Nat.reduceLT, Nat.reduceAdd, Nat.reduceSub, Nat.reduceMul, Nat.reduceLeDiff, reduceIte, Nat.reduceEqDiff, Nat.reduceBEq, Try.ntmps47, cW_eq, bg0t]) <;> exact rfl
  · (simp only [go_sem, Nat.reducePow, Nat.reduceLT, Nat.reduceAdd, Nat.reduceSub, Nat.reduceMul, Nat.reduceLeDiff, reduceIte, Nat.reduceEqDiff, Nat.reduceBEq, Try.ntmps47, cW_eq, bg0t]) <;> exact rfl
  · exact rfl
  · (simp only [go_sem, Nat.reducePow, Nat.reduceLT, Nat.reduceAdd, Nat.reduceSub, Nat.reduceMul, Nat.reduceLeDiff, reduceIte, Nat.reduceEqDiff, Nat.reduceBEq, Try.ntmps47, cW_eq, bg0t]) <;> exact rfl
  · (simp only [go_sem, Nat.reducePow, Nat.reduceLT, Nat.reduceAdd, Nat.reduceSub, Nat.reduceMul, Nat.reduceLeDiff, reduceIte, Nat.reduceEqDiff, Nat.reduceBEq, Try.ntmps47, cW_eq, bg0t]) <;> exact rfl
  · exact ⟨_, Try.func75, rfl, rfl⟩
  · exact sl_containsFunc p [.box 69 (cW t p)] 76 [] [.ptr 0 0] (fun k => !M.lot t (M.at' p k)) (closed_W t p) ⟨_, Try.func76, rfl, rfl⟩ hfits.1.2 (fun k hk => by
    have := mv_planned1 t p [.box 69 (cW t p)] 0 (closed_W t p) rfl hwl p[k]
    rw [M.at_get hk]
    exact this)
  apply W_run
  · (simp only [go_sem, Nat.reducePow, Nat.reduceLT, Nat.reduceAdd, Nat.reduceSub, Nat.reduceMul, Nat.reduceLeDiff, reduceIte, Nat.reduceEqDiff, Nat.reduceBEq, Try.ntmps47, cW_eq, bg0t]) <;> exact rfl
  apply W_nil
  apply K_seq
  apply T_ret
  apply fin_ret
  · (simp only [go_sem, Nat.reducePow, Nat.reduceLT, Nat.reduceAdd, Nat.reduceSub, Nat.reduceMul, Nat.reduceLeDiff, reduceIte, Nat.reduceEqDiff, Nat.reduceBEq, Try.ntmps47, cW_eq, bg0t, Try.f47]) <;> exact rfl
  -- leaf 0 (ret)
  simp only [go_sem, Nat.reducePow, Nat.reduceLT, Nat.reduceAdd, Nat.reduceSub, Nat.reduceMul, Nat.reduceLeDiff, reduceIte, Nat.reduceEqDiff, Nat.reduceBEq, Try.ntmps47, cW_eq, bg0t, V.bool.injEq, V.int.injEq, true_and]
  first | exact M.plan_first g0t | exact (M.plan_no g0f).symm)
  · intro bg0f
    have g0f := bg0f
    try simp only [beq_true, beq_false, decide_eq_true_eq, decide_eq_false_iff_not, Bool.not_eq_true', Bool.not_eq_false', Bool.not_eq_true, Bool.not_eq_false, ne_eq, Int.ofNat_lt, Int.ofNat_le, beq_iff_eq, bne_iff_ne, beq_eq_false_iff_ne, bne_eq_false_iff_eq, ge_iff_le, gt_iff_lt, Bool.not_true, Bool.not_false, Decidable.not_not, Int.natCast_inj, Int.natCast_nonneg] at g0f
    try simp only [beq_true, beq_false, Bool.not_eq_true', Bool.not_eq_false', Bool.not_not, Bool.not_true, Bool.not_false] at bg0f
    try exact absurd bg0f (by decide)
    all_goals (
  apply W_pre [9, 10, 11, 12] [13, 14, 15]
  · (simp only [go_sem, Nat.reducePow, Nat.reduceLT, Nat.reduceAdd, Nat.reduceSub, Nat.reduceMul, Nat.reduceLeDiff, reduceIte, Nat.reduceEqDiff, Nat.reduceBEq, Try.ntmps47, cW_eq, bg0f]) <;> exact rfl
  apply W_run
  · (simp only [go_sem, Nat.reducePow, Nat.reduceLT, Nat.reduceAdd, Nat.reduceSub, Nat.reduceMul, Nat.reduceLeDiff, reduceIte, Nat.reduceEqDiff, Nat.reduceBEq, Try.ntmps47, cW_eq, bg0f]) <;> exact rfl
  apply W_nil
  apply K_seq
  apply T_ret
  apply fin_ret
  · (simp only [go_sem, Nat.reducePow, Nat.reduceLT, Nat.reduceAdd, Nat.reduceSub, Nat.reduceMul, Nat.reduceLeDiff, reduceIte, Nat.reduceEqDiff, Nat.reduceBEq, Try.ntmps47, cW_eq, bg0f, Try.f47]) <;> exact rfl
  -- leaf 1 (ret)
  simp only [go_sem, Nat.reducePow, Nat.reduceLT, Nat.reduceAdd, Nat.reduceSub, Nat.reduceMul, Nat.reduceLeDiff, reduceIte, Nat.reduceEqDiff, Nat.reduceBEq, Try.ntmps47, cW_eq, bg0f, V.bool.injEq, V.int.injEq, true_and]
  first | exact M.plan_first g0t | exact (M.plan_no g0f).symm)

theorem sl_isNaN (n : Int) : Ret Try.prog 101 [.int .i64 n] (.bool false) := by
  apply Ret_fin (fn := Try.f101) Try.func101 rfl
  apply T_seq
  apply T_r F
  · (simp only [go_sem, Nat.reducePow, Nat.reduceLT, Nat.reduceAdd, Nat.reduceSub, Nat.reduceMul, Nat.reduceLeDiff, reduceIte, Nat.reduceEqDiff, Nat.reduceBEq, Try.ntmps101]) <;> exact rfl
  apply K_seq
  apply T_seq
  apply T_r F
  · (simp only [go_sem, Nat.reducePow, Nat.reduceLT, Nat.reduceAdd, Nat.reduceSub, Nat.reduceMul, Nat.reduceLeDiff, reduceIte, Nat.reduceEqDiff, Nat.reduceBEq, Try.ntmps101]) <;> exact rfl
  apply K_seq
  apply T_ret
  apply fin_ret
  · (simp only [go_sem, Nat.reducePow, Nat.reduceLT, Nat.reduceAdd, Nat.reduceSub, Nat.reduceMul, Nat.reduceLeDiff, reduceIte, Nat.reduceEqDiff, Nat.reduceBEq, Try.ntmps101, Try.f101]) <;> exact rfl
  -- leaf 0 (ret)
  simp only [go_sem, Nat.reducePow, Nat.reduceLT, Nat.reduceAdd, Nat.reduceSub, Nat.reduceMul, Nat.reduceLeDiff, reduceIte, Nat.reduceEqDiff, Nat.reduceBEq, Try.ntmps101, V.bool.injEq, V.int.injEq, true_and]
  try simp

theorem sl_less (a b : Int) : Ret Try.prog 87 [.int .i64 a, .int .i64 b] (.bool (decide (a < b))) := by
  apply Ret_fin (fn := Try.f87) Try.func87 rfl
  apply T_seq
  apply T_r F
  · (simp only [go_sem, Nat.reducePow, Nat.reduceLT, Nat.reduceAdd, Nat.reduceSub, Nat.reduceMul, Nat.reduceLeDiff, reduceIte, Nat.reduceEqDiff, Nat.reduceBEq, Try.ntmps87]) <;> exact rfl
  apply K_seq
  apply T_seq
  apply T_wL F [0, 1, 2, 3, 4, 5, 6, 7, 8, 9, 10, 11, 12] rfl
  apply W_pre [0] [1, 2, 3, 4, 5, 6, 7, 8, 9, 10, 11, 12]
  · (simp only [go_sem, Nat.reducePow, Nat.reduceLT, Nat.reduceAdd, Nat.reduceSub, Nat.reduceMul, Nat.reduceLeDiff, reduceIte, Nat.reduceEqDiff, Nat.reduceBEq, Try.ntmps87]) <;> exact rfl
  apply W_call -- call 0 of function 101
  · (simp only [go_sem, Nat.reducePow, Nat.reduceLT, Nat.reduceAdd, Nat.reduceSub, Nat.reduceMul, Nat.reduceLeDiff, reduceIte, Nat.reduceEqDiff, Nat.reduceBEq, Try.ntmps87]) <;> exact rfl
  · (simp only [go_sem, Nat.reducePow, Nat.reduceLT, Nat.reduceAdd, Nat.reduceSub, Nat.reduceMul, Nat.reduceLeDiff, reduceIte, Nat.reduceEqDiff, Nat.reduceBEq, Try.ntmps87]) <;> exact rfl
  · exact rfl
  · (simp only [go_sem, Nat.reducePow, Nat.reduceLT, Nat.reduceAdd, Nat.reduceSub, Nat.reduceMul, Nat.reduceLeDiff, reduceIte, Nat.reduceEqDiff, Nat.reduceBEq, Try.ntmps87]) <;> exact rfl
  · (simp only [go_sem, Nat.reducePow, Nat.reduceLT, Nat.reduceAdd, Nat.reduceSub, Nat.reduceMul, Nat.reduceLeDiff, reduceIte, Nat.reduceEqDiff, Nat.reduceBEq, Try.ntmps87]) <;> exact rfl
  · exact ⟨_, Try.func101, rfl, rfl⟩
  · (simp only [go_sem, Nat.reducePow, Nat.reduceLT, Nat.reduceAdd, Nat.reduceSub, Nat.reduceMul, Nat.reduceLeDiff, reduceIte, Nat.reduceEqDiff, Nat.reduceBEq, Try.ntmps87]) <;> exact rfl
  · (simp only [go_sem, Nat.reducePow, Nat.reduceLT, Nat.reduceAdd, Nat.reduceSub, Nat.reduceMul, Nat.reduceLeDiff, reduceIte, Nat.reduceEqDiff, Nat.reduceBEq, Try.ntmps87]) <;> exact rfl
  · exact sl_isNaN _
  apply W_pre [2] [3, 4, 5, 6, 7, 8, 9, 10, 11, 12]
  · (simp only [go_sem, Nat.reducePow, Nat.reduceLT, Nat.reduceAdd, Nat.reduceSub, Nat.reduceMul, Nat.reduceLeDiff, reduceIte, Nat.reduceEqDiff, Nat.reduceBEq, Try.ntmps87]) <;> exact rfl
  apply W_guard
  · (simp only [go_sem, Nat.reducePow, Nat.reduceLT, Nat.reduceAdd, Nat.reduceSub, Nat.reduceMul, Nat.reduceLeDiff, reduceIte, Nat.reduceEqDiff, Nat.reduceBEq, Try.ntmps87]) <;> exact rfl
  · (simp only [go_sem, Nat.reducePow, Nat.reduceLT, Nat.reduceAdd, Nat.reduceSub, Nat.reduceMul, Nat.reduceLeDiff, reduceIte, Nat.reduceEqDiff, Nat.reduceBEq, Try.ntmps87]) <;> exact rfl
  · intro bg0t
    have g0t := bg0t
    try simp only [beq_true, beq_false, decide_eq_true_eq, decide_eq_false_iff_not, Bool.not_eq_true', Bool.not_eq_false', Bool.not_eq_true, Bool.not_eq_false, ne_eq, Int.ofNat_lt, Int.ofNat_le, beq_iff_eq, bne_iff_ne, beq_eq_false_iff_ne, bne_eq_false_iff_eq, ge_iff_le, gt_iff_lt, Bool.not_true, Bool.not_false, Decidable.not_not, Int.natCast_inj, Int.natCast_nonneg] at g0t
    try simp only [beq_true, beq_false, Bool.not_eq_true', Bool.not_eq_false', Bool.not_not, Bool.not_true, Bool.not_false] at bg0t
    try exact absurd bg0t (by decide)
    all_goals (
  apply W_pre [3] [4, 5, 6, 7, 8, 9, 10, 11, 12]
  · (simp only [go_sem, Nat.reducePow, Nat.reduceLT, Nat.reduceAdd, Nat.reduceSub, Nat.reduceMul, Nat.reduceLeDiff, reduceIte, Nat.reduceEqDiff, Nat.reduceBEq, Try.ntmps87, bg0t]) <;> exact rfl
  apply W_call -- call 1 of function 101
  · (simp only [go_sem, Nat.reducePow, Nat.reduceLT, Nat.reduceAdd, Nat.reduceSub, Nat.reduceMul, Nat.reduceLeDiff, reduceIte, Nat.reduceEqDiff, Nat.reduceBEq, Try.ntmps87, bg0t]) <;> exact rfl
  · (simp only [go_sem, Nat.reducePow, Nat.reduceLT, Nat.reduceAdd, Nat.reduceSub, Nat.reduceMul, Nat.reduceLeDiff, reduceIte, Nat.reduceEqDiff, Nat.reduceBEq, Try.ntmps87, bg0t]) <;> exact rfl
  · exact rfl
  · (simp only [go_sem, Nat.reducePow, Nat.reduceLT, Nat.reduceAdd, Nat.reduceSub, Nat.reduceMul, Nat.reduceLeDiff, reduceIte, Nat.reduceEqDiff, Nat.reduceBEq, Try.ntmps87, bg0t]) <;> exact rfl
  · (simp only [go_sem, Nat.reducePow, Nat.reduceLT, Nat.reduceAdd, Nat.reduceSub, Nat.reduceMul, Nat.reduceLeDiff, reduceIte, Nat.reduceEqDiff, Nat.reduceBEq, Try.ntmps87, bg0t]) <;> exact rfl
  · exact ⟨_, Try.func101, rfl, rfl⟩
  · (simp only [go_sem, Nat.reducePow, Nat.reduceLT, Nat.reduceAdd, Nat.reduceSub, Nat.reduceMul, Nat.reduceLeDiff, reduceIte, Nat.reduceEqDiff, Nat.reduceBEq, Try.ntmps87, bg0t]) <;> exact rfl
  · (simp only [go_sem, Nat.reducePow, Nat.reduceLT, Nat.reduceAdd, Nat.reduceSub, Nat.reduceMul, Nat.reduceLeDiff, reduceIte, Nat.reduceEqDiff, Nat.reduceBEq, Try.ntmps87, bg0t]) <;> exact rfl
  · exact sl_isNaN _
  apply W_pre [5, 6, 7] [8, 9, 10, 11, 12]
  · (simp only [go_sem, Nat.reducePow, Nat.reduceLT, Nat.reduceAdd, Nat.reduceSub, Nat.reduceMul, Nat.reduceLeDiff, reduceIte, Nat.reduceEqDiff, Nat.reduceBEq, Try.ntmps87, bg0t]) <;> exact rfl
  apply W_guard
  · (simp only [go_sem, Nat.reducePow, Nat.reduceLT, Nat.reduceAdd, Nat.reduceSub, Nat.reduceMul, Nat.reduceLeDiff, reduceIte, Nat.reduceEqDiff, Nat.reduceBEq, Try.ntmps87, bg0t]) <;> exact rfl
  · (simp only [go_sem, Nat.reducePow, Nat.reduceLT, Nat.reduceAdd, Nat.reduceSub, Nat.reduceMul, Nat.reduceLeDiff, reduceIte, Nat.reduceEqDiff, Nat.reduceBEq, Try.ntmps87, bg0t]) <;> exact rfl
  · intro bg1t
    have g1t := bg1t
    try simp only [beq_true, beq_false, decide_eq_true_eq, decide_eq_false_iff_not, Bool.not_eq_true', Bool.not_eq_false', Bool.not_eq_true, Bool.not_eq_false, ne_eq, Int.ofNat_lt, Int.ofNat_le, beq_iff_eq, bne_iff_ne, beq_eq_false_iff_ne, bne_eq_false_iff_eq, ge_iff_le, gt_iff_lt, Bool.not_true, Bool.not_false, Decidable.not_not, Int.natCast_inj, Int.natCast_nonneg] at g1t
    try simp only [beq_true, beq_false, Bool.not_eq_true', Bool.not_eq_false', Bool.not_not, Bool.not_true, Bool.not_false] at bg1t
    try exact absurd bg1t (by decide)
    all_goals (
  apply W_run
  · (simp only [go_sem, Nat.reducePow, Nat.reduceLT, Nat.reduceAdd, Nat.reduceSub, Nat.reduceMul, Nat.reduceLeDiff, reduceIte, Nat.reduceEqDiff, Nat.reduceBEq, Try.ntmps87, bg0t, bg1t]) <;> exact rfl
  apply W_nil
  apply K_seq
  apply T_ret
  apply fin_ret
  · (simp only [go_sem, Nat.reducePow, Nat.reduceLT, Nat.reduceAdd, Nat.reduceSub, Nat.reduceMul, Nat.reduceLeDiff, reduceIte, Nat.reduceEqDiff, Nat.reduceBEq, Try.ntmps87, bg0t, bg1t, Try.f87]) <;> exact rfl
  -- leaf 0 (ret)
  simp only [go_sem, Nat.reducePow, Nat.reduceLT, Nat.reduceAdd, Nat.reduceSub, Nat.reduceMul, Nat.reduceLeDiff, reduceIte, Nat.reduceEqDiff, Nat.reduceBEq, Try.ntmps87, bg0t, bg1t, V.bool.injEq, V.int.injEq, true_and]
  all_goals rfl)
  · intro bg1f
    have g1f := bg1f
    try simp only [beq_true, beq_false, decide_eq_true_eq, decide_eq_false_iff_not, Bool.not_eq_true', Bool.not_eq_false', Bool.not_eq_true, Bool.not_eq_false, ne_eq, Int.ofNat_lt, Int.ofNat_le, beq_iff_eq, bne_iff_ne, beq_eq_false_iff_ne, bne_eq_false_iff_eq, ge_iff_le, gt_iff_lt, Bool.not_true, Bool.not_false, Decidable.not_not, Int.natCast_inj, Int.natCast_nonneg] at g1f
    try simp only [beq_true, beq_false, Bool.not_eq_true', Bool.not_eq_false', Bool.not_not, Bool.not_true, Bool.not_false] at bg1f
    try exact absurd bg1f (by decide)
    all_goals (
  apply W_run
  · (simp only [go_sem, Nat.reducePow, Nat.reduceLT, Nat.reduceAdd, Nat.reduceSub, Nat.reduceMul, Nat.reduceLeDiff, reduceIte, Nat.reduceEqDiff, Nat.reduceBEq, Try.ntmps87, bg0t, bg1f]) <;> exact rfl
  apply W_nil
  apply K_seq
  apply T_ret
  apply fin_ret
  · (simp only [go_sem, Nat.reducePow, Nat.reduceLT, Nat.reduceAdd, Nat.reduceSub, Nat.reduceMul, Nat.reduceLeDiff, reduceIte, Nat.reduceEqDiff, Nat.reduceBEq, Try.ntmps87, bg0t, bg1f, Try.f87]) <;> exact rfl
  -- leaf 1 (ret)
  simp only [go_sem, Nat.reducePow, Nat.reduceLT, Nat.reduceAdd, Nat.reduceSub, Nat.reduceMul, Nat.reduceLeDiff, reduceIte, Nat.reduceEqDiff, Nat.reduceBEq, Try.ntmps87, bg0t, bg1f, V.bool.injEq, V.int.injEq, true_and]
  all_goals rfl))
  · intro bg0f
    have g0f := bg0f
    try simp only [beq_true, beq_false, decide_eq_true_eq, decide_eq_false_iff_not, Bool.not_eq_true', Bool.not_eq_false', Bool.not_eq_true, Bool.not_eq_false, ne_eq, Int.ofNat_lt, Int.ofNat_le, beq_iff_eq, bne_iff_ne, beq_eq_false_iff_ne, bne_eq_false_iff_eq, ge_iff_le, gt_iff_lt, Bool.not_true, Bool.not_false, Decidable.not_not, Int.natCast_inj, Int.natCast_nonneg] at g0f
    try simp only [beq_true, beq_false, Bool.not_eq_true', Bool.not_eq_false', Bool.not_not, Bool.not_true, Bool.not_false] at bg0f
    try exact absurd bg0f (by decide)
    all_goals (
  apply W_pre [3, 4, 5, 6] [7, 8, 9, 10, 11, 12]
  · (simp only [go_sem, Nat.reducePow, Nat.reduceLT, Nat.reduceAdd, Nat.reduceSub, Nat.reduceMul, Nat.reduceLeDiff, reduceIte, Nat.reduceEqDiff, Nat.reduceBEq, Try.ntmps87, bg0f]) <;> exact rfl
  apply W_run
  · (simp only [go_sem, Nat.reducePow, Nat.reduceLT, Nat.reduceAdd, Nat.reduceSub, Nat.reduceMul, Nat.reduceLeDiff, reduceIte, Nat.reduceEqDiff, Nat.reduceBEq, Try.ntmps87, bg0f]) <;> exact rfl
  apply W_nil
  apply K_seq
  apply T_ret
  apply fin_ret
  · (simp only [go_sem, Nat.reducePow, Nat.reduceLT, Nat.reduceAdd, Nat.reduceSub, Nat.reduceMul, Nat.reduceLeDiff, reduceIte, Nat.reduceEqDiff, Nat.reduceBEq, Try.ntmps87, bg0f, Try.f87]) <;> exact rfl
  -- leaf 2 (ret)
  simp only [go_sem, Nat.reducePow, Nat.reduceLT, Nat.reduceAdd, Nat.reduceSub, Nat.reduceMul, Nat.reduceLeDiff, reduceIte, Nat.reduceEqDiff, Nat.reduceBEq, Try.ntmps87, bg0f, V.bool.injEq, V.int.injEq, true_and]
  all_goals rfl)

theorem sl_sorted (l : List Int) : Ret Try.prog 72 [.sl 1 (rI l)] (.bool (M.sorted l)) := by
  refine Ret.of_fits fun hfits => ?_
  simp only [V.fits, V.fitsL, V.fitsR, rI_length] at hfits
  have hl := hfits.1.1
  have hw0 : IntKind.i64.wrap ((l.length : Int) - 1) = (l.length : Int) - 1 := wrap_id (by omega) (by omega)
  apply Ret_fin (fn := Try.f72) Try.func72 rfl
  apply T_seq
  apply T_r F
  · (simp only [go_sem, Nat.reducePow, Nat.reduceLT, Nat.reduceAdd, Nat.reduceSub, Nat.reduceMul, Nat.reduceLeDiff, reduceIte, Nat.reduceEqDiff, Nat.reduceBEq, Try.ntmps72, hw0]) <;> exact rfl
  apply K_seq
  apply T_seq
  apply T_seq
  apply T_r F
  · (simp only [go_sem, Nat.reducePow, Nat.reduceLT, Nat.reduceAdd, Nat.reduceSub, Nat.reduceMul, Nat.reduceLeDiff, reduceIte, Nat.reduceEqDiff, Nat.reduceBEq, Try.ntmps72, hw0]) <;> exact rfl
  apply K_seq
  apply T_block
  apply T_lp (α := Int) [true, false, false, true, false, false, false, false, false, false, false, false, false, false, false, false, false, false, false, false, false] (fun i => (⟨[.sl 1 (rI l), .undef, .undef, .int .i64 i, .undef, .undef, .undef, .undef, .undef, .undef, .undef, .undef, .undef, .undef, .undef, .undef, .undef, .undef, .undef, .undef, .undef], []⟩ : St)) (fun i => (-1 ≤ i ∧ i < l.length) ∧ ∀ j : Nat, i < j → j < l.length → M.at' l (j - 1) ≤ M.at' l j) (fun i => i.toNat) ((l.length : Int) - 1)
  · (simp only [go_sem, Nat.reducePow, Nat.reduceLT, Nat.reduceAdd, Nat.reduceSub, Nat.reduceMul, Nat.reduceLeDiff, reduceIte, Nat.reduceEqDiff, Nat.reduceBEq, Try.ntmps72, hw0]) <;> exact rfl
  · refine ⟨⟨by omega, by omega⟩, fun j h1 h2 => by omega⟩
  · rintro i ⟨⟨hi1, hi2⟩, hj⟩
    apply T_seq
    apply T_seq
    apply T_r F
    · (simp only [go_sem, Nat.reducePow, Nat.reduceLT, Nat.reduceAdd, Nat.reduceSub, Nat.reduceMul, Nat.reduceLeDiff, reduceIte, Nat.reduceEqDiff, Nat.reduceBEq, Try.ntmps72, hw0]) <;> exact rfl
    apply K_seq
    apply T_if
    · (simp only [go_sem, Nat.reducePow, Nat.reduceLT, Nat.reduceAdd, Nat.reduceSub, Nat.reduceMul, Nat.reduceLeDiff, reduceIte, Nat.reduceEqDiff, Nat.reduceBEq, Try.ntmps72, hw0]) <;> exact rfl
    · intro bh0t
      have h0t := bh0t
      try simp only [beq_true, beq_false, decide_eq_true_eq, decide_eq_false_iff_not, Bool.not_eq_true', Bool.not_eq_false', Bool.not_eq_true, Bool.not_eq_false, ne_eq, Int.ofNat_lt, Int.ofNat_le, beq_iff_eq, bne_iff_ne, beq_eq_false_iff_ne, bne_eq_false_iff_eq, ge_iff_le, gt_iff_lt, Bool.not_true, Bool.not_false, Decidable.not_not, Int.natCast_inj, Int.natCast_nonneg] at h0t
      try simp only [beq_true, beq_false, Bool.not_eq_true', Bool.not_eq_false', Bool.not_not, Bool.not_true, Bool.not_false] at bh0t
      try exact absurd bh0t (by decide)
      all_goals (
  have hi3 : 0 ≤ i := by omega
  have hi4 : i.toNat < l.length := by omega
  have hi5 : 0 ≤ i - 1 := by omega
  have hi6 : (i - 1).toNat < l.length := by omega
  have hw : IntKind.i64.wrap (i - 1) = i - 1 := wrap_id (by omega) (by omega)
  apply T_skip
  apply K_seq
  apply T_seq
  apply T_block
  apply T_seq
  apply T_qL F [0, 1, 2, 3, 4, 5, 6, 7, 8, 9] rfl (by kernel_rfl)
  apply Q_pre [0, 1, 2, 3] [4, 5, 6, 7, 8, 9]
  · (simp only [go_sem, Nat.reducePow, Nat.reduceLT, Nat.reduceAdd, Nat.reduceSub, Nat.reduceMul, Nat.reduceLeDiff, reduceIte, Nat.reduceEqDiff, Nat.reduceBEq, Try.ntmps72, hw0, bh0t, h0t, hi3, hi4, hi5, hi6, hw, rI_get hi4, rI_get hi6]) <;> exact rfl
  apply Q_pre [4, 5, 6, 7, 8] [9]
  · (simp only [go_sem, Nat.reducePow, Nat.reduceLT, Nat.reduceAdd, Nat.reduceSub, Nat.reduceMul, Nat.reduceLeDiff, reduceIte, Nat.reduceEqDiff, Nat.reduceBEq, Try.ntmps72, hw0, bh0t, h0t, hi3, hi4, hi5, hi6, hw, rI_get hi4, rI_get hi6]) <;> exact rfl
  apply Q_call -- call 0 of function 87
  · (simp only [go_sem, Nat.reducePow, Nat.reduceLT, Nat.reduceAdd, Nat.reduceSub, Nat.reduceMul, Nat.reduceLeDiff, reduceIte, Nat.reduceEqDiff, Nat.reduceBEq, Try.ntmps72, hw0, bh0t, h0t, hi3, hi4, hi5, hi6, hw, rI_get hi4, rI_get hi6]) <;> exact rfl
  · (simp only [go_sem, Nat.reducePow, Nat.reduceLT, Nat.reduceAdd, Nat.reduceSub, Nat.reduceMul, Nat.reduceLeDiff, reduceIte, Nat.reduceEqDiff, Nat.reduceBEq, Try.ntmps72, hw0, bh0t, h0t, hi3, hi4, hi5, hi6, hw, rI_get hi4, rI_get hi6]) <;> exact rfl
  · exact rfl
  · (simp only [go_sem, Nat.reducePow, Nat.reduceLT, Nat.reduceAdd, Nat.reduceSub, Nat.reduceMul, Nat.reduceLeDiff, reduceIte, Nat.reduceEqDiff, Nat.reduceBEq, Try.ntmps72, hw0, bh0t, h0t, hi3, hi4, hi5, hi6, hw, rI_get hi4, rI_get hi6]) <;> exact rfl
  · (simp only [go_sem, Nat.reducePow, Nat.reduceLT, Nat.reduceAdd, Nat.reduceSub, Nat.reduceMul, Nat.reduceLeDiff, reduceIte, Nat.reduceEqDiff, Nat.reduceBEq, Try.ntmps72, hw0, bh0t, h0t, hi3, hi4, hi5, hi6, hw, rI_get hi4, rI_get hi6]) <;> exact rfl
  · exact ⟨_, Try.func87, rfl, rfl⟩
  · (simp only [go_sem, Nat.reducePow, Nat.reduceLT, Nat.reduceAdd, Nat.reduceSub, Nat.reduceMul, Nat.reduceLeDiff, reduceIte, Nat.reduceEqDiff, Nat.reduceBEq, Try.ntmps72, hw0, bh0t, h0t, hi3, hi4, hi5, hi6, hw, rI_get hi4, rI_get hi6]) <;> exact rfl
  · exact sl_less _ _
  apply Q_run
  · (simp only [go_sem, Nat.reducePow, Nat.reduceLT, Nat.reduceAdd, Nat.reduceSub, Nat.reduceMul, Nat.reduceLeDiff, reduceIte, Nat.reduceEqDiff, Nat.reduceBEq, Try.ntmps72, hw0, bh0t, h0t, hi3, hi4, hi5, hi6, hw, rI_get hi4, rI_get hi6]) <;> exact rfl
  apply Q_nil
  apply K_seq
  apply T_if
  · (simp only [go_sem, Nat.reducePow, Nat.reduceLT, Nat.reduceAdd, Nat.reduceSub, Nat.reduceMul, Nat.reduceLeDiff, reduceIte, Nat.reduceEqDiff, Nat.reduceBEq, Try.ntmps72, hw0, bh0t, h0t, hi3, hi4, hi5, hi6, hw, rI_get hi4, rI_get hi6]) <;> exact rfl
  · intro bh1t
    have h1t := bh1t
    try simp only [beq_true, beq_false, decide_eq_true_eq, decide_eq_false_iff_not, Bool.not_eq_true', Bool.not_eq_false', Bool.not_eq_true, Bool.not_eq_false, ne_eq, Int.ofNat_lt, Int.ofNat_le, beq_iff_eq, bne_iff_ne, beq_eq_false_iff_ne, bne_eq_false_iff_eq, ge_iff_le, gt_iff_lt, Bool.not_true, Bool.not_false, Decidable.not_not, Int.natCast_inj, Int.natCast_nonneg] at h1t
    try simp only [beq_true, beq_false, Bool.not_eq_true', Bool.not_eq_false', Bool.not_not, Bool.not_true, Bool.not_false] at bh1t
    try exact absurd bh1t (by decide)
    all_goals (
  apply T_seq
  apply T_r F
  · (simp only [go_sem, Nat.reducePow, Nat.reduceLT, Nat.reduceAdd, Nat.reduceSub, Nat.reduceMul, Nat.reduceLeDiff, reduceIte, Nat.reduceEqDiff, Nat.reduceBEq, Try.ntmps72, hw0, bh0t, h0t, hi3, hi4, hi5, hi6, hw, rI_get hi4, rI_get hi6, bh1t]) <;> exact rfl
  apply K_seq
  apply T_ret
  apply K_blkR
  apply K_seqR
  apply K_lpR
  apply K_blkR
  apply K_seqR
  apply fin_ret
  · (simp only [go_sem, Nat.reducePow, Nat.reduceLT, Nat.reduceAdd, Nat.reduceSub, Nat.reduceMul, Nat.reduceLeDiff, reduceIte, Nat.reduceEqDiff, Nat.reduceBEq, Try.ntmps72, hw0, bh0t, h0t, hi3, hi4, hi5, hi6, hw, rI_get hi4, rI_get hi6, bh1t, Try.f72]) <;> exact rfl
  -- leaf 0 (ret)
  simp only [go_sem, Nat.reducePow, Nat.reduceLT, Nat.reduceAdd, Nat.reduceSub, Nat.reduceMul, Nat.reduceLeDiff, reduceIte, Nat.reduceEqDiff, Nat.reduceBEq, Try.ntmps72, hw0, bh0t, h0t, hi3, hi4, hi5, hi6, hw, rI_get hi4, rI_get hi6, bh1t, V.bool.injEq, V.int.injEq, true_and]
  first | exact (M.sorted_false hi4 hi6 (by omega) (of_decide_eq_true bh1t)).symm | exact (M.sorted_true fun j h1 h2 => hj j (by omega) h2).symm)
  · intro bh1f
    have h1f := bh1f
    try simp only [beq_true, beq_false, decide_eq_true_eq, decide_eq_false_iff_not, Bool.not_eq_true', Bool.not_eq_false', Bool.not_eq_true, Bool.not_eq_false, ne_eq, Int.ofNat_lt, Int.ofNat_le, beq_iff_eq, bne_iff_ne, beq_eq_false_iff_ne, bne_eq_false_iff_eq, ge_iff_le, gt_iff_lt, Bool.not_true, Bool.not_false, Decidable.not_not, Int.natCast_inj, Int.natCast_nonneg] at h1f
    try simp only [beq_true, beq_false, Bool.not_eq_true', Bool.not_eq_false', Bool.not_not, Bool.not_true, Bool.not_false] at bh1f
    try exact absurd bh1f (by decide)
    all_goals (
  apply T_skip
  apply K_blk
  apply K_seq
  apply T_r F
  · (simp only [go_sem, Nat.reducePow, Nat.reduceLT, Nat.reduceAdd, Nat.reduceSub, Nat.reduceMul, Nat.reduceLeDiff, reduceIte, Nat.reduceEqDiff, Nat.reduceBEq, Try.ntmps72, hw0, bh0t, h0t, hi3, hi4, hi5, hi6, hw, rI_get hi4, rI_get hi6, bh1f]) <;> exact rfl
  refine K_lp (i - 1) ?_ ?_
  · (simp only [go_sem, Nat.reducePow, Nat.reduceLT, Nat.reduceAdd, Nat.reduceSub, Nat.reduceMul, Nat.reduceLeDiff, reduceIte, Nat.reduceEqDiff, Nat.reduceBEq, Try.ntmps72, hw0, bh0t, h0t, hi3, hi4, hi5, hi6, hw, rI_get hi4, rI_get hi6, bh1f]) <;> exact rfl
  -- leaf 1 (loop0)
  exact ⟨M.sorted_step hi4 hi6 (by omega) (of_decide_eq_false bh1f) ⟨⟨hi1, hi2⟩, hj⟩, by omega⟩))
    · intro bh0f
      have h0f := bh0f
      try simp only [beq_true, beq_false, decide_eq_true_eq, decide_eq_false_iff_not, Bool.not_eq_true', Bool.not_eq_false', Bool.not_eq_true, Bool.not_eq_false, ne_eq, Int.ofNat_lt, Int.ofNat_le, beq_iff_eq, bne_iff_ne, beq_eq_false_iff_ne, bne_eq_false_iff_eq, ge_iff_le, gt_iff_lt, Bool.not_true, Bool.not_false, Decidable.not_not, Int.natCast_inj, Int.natCast_nonneg] at h0f
      try simp only [beq_true, beq_false, Bool.not_eq_true', Bool.not_eq_false', Bool.not_not, Bool.not_true, Bool.not_false] at bh0f
      try exact absurd bh0f (by decide)
      all_goals (
  apply T_exit
  apply K_seqE
  apply K_lpE
  apply K_blkE
  apply K_seq
  apply T_seq
  apply T_r F
  · (simp only [go_sem, Nat.reducePow, Nat.reduceLT, Nat.reduceAdd, Nat.reduceSub, Nat.reduceMul, Nat.reduceLeDiff, reduceIte, Nat.reduceEqDiff, Nat.reduceBEq, Try.ntmps72, hw0, bh0f]) <;> exact rfl
  apply K_seq
  apply T_ret
  apply fin_ret
  · (simp only [go_sem, Nat.reducePow, Nat.reduceLT, Nat.reduceAdd, Nat.reduceSub, Nat.reduceMul, Nat.reduceLeDiff, reduceIte, Nat.reduceEqDiff, Nat.reduceBEq, Try.ntmps72, hw0, bh0f, Try.f72]) <;> exact rfl
  -- leaf 2 (ret)
  simp only [go_sem, Nat.reducePow, Nat.reduceLT, Nat.reduceAdd, Nat.reduceSub, Nat.reduceMul, Nat.reduceLeDiff, reduceIte, Nat.reduceEqDiff, Nat.reduceBEq, Try.ntmps72, hw0, bh0f, V.bool.injEq, V.int.injEq, true_and]
  first | exact (M.sorted_false hi4 hi6 (by omega) (of_decide_eq_true bh1t)).symm | exact (M.sorted_true fun j h1 h2 => hj j (by omega) h2).symm)

end Go.Ab
