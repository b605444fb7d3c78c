import Derived.Test.YtahflobpopclpaaSp1
import Derived.Test.YtahflobpopclpaaR5
import Derived.Test.YtahflobpopclpaaP15
import Derived.Test.YtahflobpopclpaaP8
import Derived.Test.YtahflobpopclpaaAb26
import Derived.Test.YtahflobpopclpaaAb25
namespace Go.Ab
open Go Go.RowKit Go.Proofs Fac
set_option linter.unusedVariables false
set_option linter.unusedSimpArgs false
set_option maxRecDepth 4000
set_option maxHeartbeats 1000000




theorem mv_FaultOk {t : Town} {p : List Int} (hh : t.houses.length ≤ 1000) (ok : M.Ok t) (hp : M.plan t p = true) : Ret Try.prog 17 [.agg (cT t), .sl 1 (rI p)] (.tup [.agg [.int .i64 (M.fault t p).1, .int .i64 (M.fault t p).2], .int .i64 0]) := by
  have := mv_Fault t p hh
  rw [if_pos ⟨ok, hp⟩] at this
  exact this
def M.walked (t : Town) (n : Int) (b : Bool) (j : Nat) : Bool := !b || (t.schools.take j).any fun s => M.near t n s
theorem M.walked_zero (t : Town) (n : Int) (b : Bool) : M.walked t n b 0 = !b := by simp [M.walked]
theorem M.walked_step {t : Town} {n : Int} {b : Bool} {j : Nat} (h : j < t.schools.length) : M.walked t n b (j + 1) = (M.walked t n b j || M.near t n t.schools[j]) := by
  unfold M.walked
  rw [List.take_succ_eq_append_getElem h, List.any_append]
  simp [Bool.or_assoc]
theorem M.walked_all {t : Town} {n : Int} {b : Bool} {j : Nat} (ok : M.Ok t) (hn : M.lot t n = true) (hj : ¬ j < t.schools.length) (hu : (b && !M.taught t n) = false) : M.walked t n b j = true := by
  unfold M.walked
  rw [List.take_of_length_le (by omega)]
  have key : (t.schools.any fun s => M.near t n s) = M.taught t n := by
    unfold M.taught
    rw [Bool.eq_iff_iff]
    simp only [List.any_eq_true]
    constructor
    · rintro ⟨s, hs, h⟩
      exact ⟨s, hs, by rw [← M.near_comm ok hn (ok.school hs)]; exact h⟩
    · rintro ⟨s, hs, h⟩
      exact ⟨s, hs, by rw [M.near_comm ok hn (ok.school hs)]; exact h⟩
  rw [key]
  cases b <;> simp_all
theorem M.no_shared {p : List Int} (h : ∀ i, i < p.length → M.shared p i = false) {i j : Nat} (hi : i < p.length) (hj : j < p.length) (e : p[i] = p[j]) : i = j := by
  rcases Nat.lt_trichotomy i j with h1 | h1 | h1
  · have := (M.shared_iff hj).1 (h j hj) i h1
    rw [M.at_get hi, M.at_get hj] at this
    exact absurd e this
  · exact h1
  · have := (M.shared_iff hi).1 (h i hi) j h1
    rw [M.at_get hi, M.at_get hj] at this
    exact absurd e.symm this
theorem M.wished {t : Town} {p : List Int} {a : Nat} (ha : a < t.houses.length) (hp : a < p.length) (h : M.unwished t p a = false) : t.houses[a].wishes.contains p[a] = true ∨ t.houses[a].lot = p[a] := by
  rw [M.unwished, M.at_get hp, decide_eq_false_iff_not] at h
  rw [← M.idx_nonneg, decide_eq_true_eq]
  by_cases h1 : 0 ≤ M.idx t.houses[a].wishes p[a]
  · exact .inl h1
  · by_cases h2 : t.houses[a].lot = p[a]
    · exact .inr h2
    · exfalso
      apply h
      unfold M.rank
      rw [List.getElem?_eq_getElem ha]
      unfold M.idx at h1
      cases hq : M.pos t.houses[a].wishes p[a] with
      | none => simp [h2, hq]
      | some i => rw [hq] at h1; simp only at h1; omega
theorem M.first_none_iff {n : Nat} {f : Nat → Bool} : M.first n f = none ↔ ∀ j, j < n → f j = false := by
  simp only [M.first, List.find?_eq_none, List.mem_range, Bool.not_eq_true]
theorem M.fault_one {t : Town} {p : List Int} (h : (M.fault t p).1 = 1) : (∀ i, i < p.length → M.shared p i = false ∧ M.gone t (M.at' p i) = false ∧ M.unwished t p i = false ∧ M.untaught t p i = false) ∧ ∀ k, k < t.kin.length → M.apart t p k = false := by
  unfold M.fault at h
  split at h
  · simp at h
  · rename_i h1
    split at h
    · simp at h
    · rename_i h2
      split at h
      · simp at h
      · rename_i h3
        split at h
        · simp at h
        · rename_i h4
          split at h
          · simp at h
          · rename_i h5
            rw [M.first_none_iff] at h1 h2 h3 h4 h5
            exact ⟨fun i hi => ⟨h1 i hi, h2 i hi, h3 i hi, h4 i hi⟩, h5⟩

theorem law_reach (t : Town) (p : List Int) (a b : Int) : Ret Try.prog 3 [.agg (cT t), .sl 1 (rI p), .int .i64 a, .int .i64 b] (.bool true) := by
  refine Ret.of_fits fun hfits => ?_
  simp only [V.fits, V.fitsL, V.fitsR, cT_fits] at hfits
  simp only [rI_length] at hfits
  have hl := hfits.2.1.1
  have hlsc := hfits.1.schools
  apply Ret_fin (fn := Try.f3) Try.func3 rfl
  apply T_seq
  apply T_r F
  · (simp only [go_sem, Nat.reducePow, Nat.reduceLT, Nat.reduceAdd, Nat.reduceSub, Nat.reduceMul, Nat.reduceLeDiff, reduceIte, Nat.reduceEqDiff, Nat.reduceBEq, Try.ntmps3, M.walked_zero]) <;> exact rfl
  apply K_seq
  apply T_seq
  apply T_seq
  apply T_wL F [0, 1, 2, 3, 4, 5, 6, 7, 8, 9, 10, 11, 12, 13, 14, 15, 16, 17, 18, 19] rfl
  apply W_pre [0] [1, 2, 3, 4, 5, 6, 7, 8, 9, 10, 11, 12, 13, 14, 15, 16, 17, 18, 19]
  · (simp only [go_sem, Nat.reducePow, Nat.reduceLT, Nat.reduceAdd, Nat.reduceSub, Nat.reduceMul, Nat.reduceLeDiff, reduceIte, Nat.reduceEqDiff, Nat.reduceBEq, Try.ntmps3, M.walked_zero]) <;> exact rfl
  apply W_call -- call 0 of function 12
  · (simp only [go_sem, Nat.reducePow, Nat.reduceLT, Nat.reduceAdd, Nat.reduceSub, Nat.reduceMul, Nat.reduceLeDiff, reduceIte, Nat.reduceEqDiff, Nat.reduceBEq, Try.ntmps3, M.walked_zero]) <;> exact rfl
  · (simp only [go_sem, Nat.reducePow, Nat.reduceLT, Nat.reduceAdd, Nat.reduceSub, Nat.reduceMul, Nat.reduceLeDiff, reduceIte, Nat.reduceEqDiff, Nat.reduceBEq, Try.ntmps3, M.walked_zero]) <;> exact rfl
  · exact rfl
  · (simp only [go_sem, Nat.reducePow, Nat.reduceLT, Nat.reduceAdd, Nat.reduceSub, Nat.reduceMul, Nat.reduceLeDiff, reduceIte, Nat.reduceEqDiff, Nat.reduceBEq, Try.ntmps3, M.walked_zero]) <;> exact rfl
  · (simp only [go_sem, Nat.reducePow, Nat.reduceLT, Nat.reduceAdd, Nat.reduceSub, Nat.reduceMul, Nat.reduceLeDiff, reduceIte, Nat.reduceEqDiff, Nat.reduceBEq, Try.ntmps3, M.walked_zero]) <;> exact rfl
  · exact ⟨_, Try.func12, rfl, rfl⟩
  · (simp only [go_sem, Nat.reducePow, Nat.reduceLT, Nat.reduceAdd, Nat.reduceSub, Nat.reduceMul, Nat.reduceLeDiff, reduceIte, Nat.reduceEqDiff, Nat.reduceBEq, Try.ntmps3, M.walked_zero]) <;> exact rfl
  · (simp only [go_sem, Nat.reducePow, Nat.reduceLT, Nat.reduceAdd, Nat.reduceSub, Nat.reduceMul, Nat.reduceLeDiff, reduceIte, Nat.reduceEqDiff, Nat.reduceBEq, Try.ntmps3, M.walked_zero]) <;> exact rfl
  · exact law_short _
  apply W_pre [2, 3] [4, 5, 6, 7, 8, 9, 10, 11, 12, 13, 14, 15, 16, 17, 18, 19]
  · (simp only [go_sem, Nat.reducePow, Nat.reduceLT, Nat.reduceAdd, Nat.reduceSub, Nat.reduceMul, Nat.reduceLeDiff, reduceIte, Nat.reduceEqDiff, Nat.reduceBEq, Try.ntmps3, M.walked_zero]) <;> exact rfl
  apply W_guard
  · (simp only [go_sem, Nat.reducePow, Nat.reduceLT, Nat.reduceAdd, Nat.reduceSub, Nat.reduceMul, Nat.reduceLeDiff, reduceIte, Nat.reduceEqDiff, Nat.reduceBEq, Try.ntmps3, M.walked_zero]) <;> exact rfl
  · (simp only [go_sem, Nat.reducePow, Nat.reduceLT, Nat.reduceAdd, Nat.reduceSub, Nat.reduceMul, Nat.reduceLeDiff, reduceIte, Nat.reduceEqDiff, Nat.reduceBEq, Try.ntmps3, M.walked_zero]) <;> exact rfl
  · intro bg0t
    have g0t := bg0t
    try simp only [beq_true, beq_false, decide_eq_true_eq, decide_eq_false_iff_not, Bool.not_eq_true', Bool.not_eq_false', Bool.not_eq_true, Bool.not_eq_false, ne_eq, Int.ofNat_lt, Int.ofNat_le, beq_iff_eq, bne_iff_ne, beq_eq_false_iff_ne, bne_eq_false_iff_eq, ge_iff_le, gt_iff_lt, Bool.not_true, Bool.not_false, Decidable.not_not, Int.natCast_inj, Int.natCast_nonneg] at g0t
    try simp only [beq_true, beq_false, Bool.not_eq_true', Bool.not_eq_false', Bool.not_not, Bool.not_true, Bool.not_false] at bg0t
    try exact absurd bg0t (by decide)
    all_goals (
  apply W_pre [4] [5, 6, 7, 8, 9, 10, 11, 12, 13, 14, 15, 16, 17, 18, 19]
  · (simp only [go_sem, Nat.reducePow, Nat.reduceLT, Nat.reduceAdd, Nat.reduceSub, Nat.reduceMul, Nat.reduceLeDiff, reduceIte, Nat.reduceEqDiff, Nat.reduceBEq, Try.ntmps3, M.walked_zero, bg0t]) <;> exact rfl
  apply W_call -- call 1 of function 13
  · (simp only [go_sem, Nat.reducePow, Nat.reduceLT, Nat.reduceAdd, Nat.reduceSub, Nat.reduceMul, Nat.reduceLeDiff, reduceIte, Nat.reduceEqDiff, Nat.reduceBEq, Try.ntmps3, M.walked_zero, bg0t]) <;> exact rfl
  · (simp only [go_sem, Nat.reducePow, Nat.reduceLT, Nat.reduceAdd, Nat.reduceSub, Nat.reduceMul, Nat.reduceLeDiff, reduceIte, Nat.reduceEqDiff, Nat.reduceBEq, Try.ntmps3, M.walked_zero, bg0t]) <;> exact rfl
  · exact rfl
  · (simp only [go_sem, Nat.reducePow, Nat.reduceLT, Nat.reduceAdd, Nat.reduceSub, Nat.reduceMul, Nat.reduceLeDiff, reduceIte, Nat.reduceEqDiff, Nat.reduceBEq, Try.ntmps3, M.walked_zero, bg0t]) <;> exact rfl
  · (simp only [go_sem, Nat.reducePow, Nat.reduceLT, Nat.reduceAdd, Nat.reduceSub, Nat.reduceMul, Nat.reduceLeDiff, reduceIte, Nat.reduceEqDiff, Nat.reduceBEq, Try.ntmps3, M.walked_zero, bg0t]) <;> exact rfl
  · exact ⟨_, Try.func13, rfl, rfl⟩
  · (simp only [go_sem, Nat.reducePow, Nat.reduceLT, Nat.reduceAdd, Nat.reduceSub, Nat.reduceMul, Nat.reduceLeDiff, reduceIte, Nat.reduceEqDiff, Nat.reduceBEq, Try.ntmps3, M.walked_zero, bg0t]) <;> exact rfl
  · (simp only [go_sem, Nat.reducePow, Nat.reduceLT, Nat.reduceAdd, Nat.reduceSub, Nat.reduceMul, Nat.reduceLeDiff, reduceIte, Nat.reduceEqDiff, Nat.reduceBEq, Try.ntmps3, M.walked_zero, bg0t]) <;> exact rfl
  · exact ref_town _
  apply W_pre [6, 7, 8] [9, 10, 11, 12, 13, 14, 15, 16, 17, 18, 19]
  · (simp only [go_sem, Nat.reducePow, Nat.reduceLT, Nat.reduceAdd, Nat.reduceSub, Nat.reduceMul, Nat.reduceLeDiff, reduceIte, Nat.reduceEqDiff, Nat.reduceBEq, Try.ntmps3, M.walked_zero, bg0t]) <;> exact rfl
  apply W_guard
  · (simp only [go_sem, Nat.reducePow, Nat.reduceLT, Nat.reduceAdd, Nat.reduceSub, Nat.reduceMul, Nat.reduceLeDiff, reduceIte, Nat.reduceEqDiff, Nat.reduceBEq, Try.ntmps3, M.walked_zero, bg0t]) <;> exact rfl
  · (simp only [go_sem, Nat.reducePow, Nat.reduceLT, Nat.reduceAdd, Nat.reduceSub, Nat.reduceMul, Nat.reduceLeDiff, reduceIte, Nat.reduceEqDiff, Nat.reduceBEq, Try.ntmps3, M.walked_zero, bg0t]) <;> exact rfl
  · intro bg1t
    have g1t := bg1t
    try simp only [beq_true, beq_false, decide_eq_true_eq, decide_eq_false_iff_not, Bool.not_eq_true', Bool.not_eq_false', Bool.not_eq_true, Bool.not_eq_false, ne_eq, Int.ofNat_lt, Int.ofNat_le, beq_iff_eq, bne_iff_ne, beq_eq_false_iff_ne, bne_eq_false_iff_eq, ge_iff_le, gt_iff_lt, Bool.not_true, Bool.not_false, Decidable.not_not, Int.natCast_inj, Int.natCast_nonneg] at g1t
    try simp only [beq_true, beq_false, Bool.not_eq_true', Bool.not_eq_false', Bool.not_not, Bool.not_true, Bool.not_false] at bg1t
    try exact absurd bg1t (by decide)
    all_goals (
  apply W_pre [9, 10] [11, 12, 13, 14, 15, 16, 17, 18, 19]
  · (simp only [go_sem, Nat.reducePow, Nat.reduceLT, Nat.reduceAdd, Nat.reduceSub, Nat.reduceMul, Nat.reduceLeDiff, reduceIte, Nat.reduceEqDiff, Nat.reduceBEq, Try.ntmps3, M.walked_zero, bg0t, bg1t]) <;> exact rfl
  apply W_call -- call 2 of function 14
  · (simp only [go_sem, Nat.reducePow, Nat.reduceLT, Nat.reduceAdd, Nat.reduceSub, Nat.reduceMul, Nat.reduceLeDiff, reduceIte, Nat.reduceEqDiff, Nat.reduceBEq, Try.ntmps3, M.walked_zero, bg0t, bg1t]) <;> exact rfl
  · (simp only [go_sem, Nat.reducePow, Nat.reduceLT, Nat.reduceAdd, Nat.reduceSub, Nat.reduceMul, Nat.reduceLeDiff, reduceIte, Nat.reduceEqDiff, Nat.reduceBEq, Try.ntmps3, M.walked_zero, bg0t, bg1t]) <;> exact rfl
  · exact rfl
  · (simp only [go_sem, Nat.reducePow, Nat.reduceLT, Nat.reduceAdd, Nat.reduceSub, Nat.reduceMul, Nat.reduceLeDiff, reduceIte, Nat.reduceEqDiff, Nat.reduceBEq, Try.ntmps3, M.walked_zero, bg0t, bg1t]) <;> exact rfl
  · (simp only [go_sem, Nat.reducePow, Nat.reduceLT, Nat.reduceAdd, Nat.reduceSub, Nat.reduceMul, Nat.reduceLeDiff, reduceIte, Nat.reduceEqDiff, Nat.reduceBEq, Try.ntmps3, M.walked_zero, bg0t, bg1t]) <;> exact rfl
  · exact ⟨_, Try.func14, rfl, rfl⟩
  · (simp only [go_sem, Nat.reducePow, Nat.reduceLT, Nat.reduceAdd, Nat.reduceSub, Nat.reduceMul, Nat.reduceLeDiff, reduceIte, Nat.reduceEqDiff, Nat.reduceBEq, Try.ntmps3, M.walked_zero, bg0t, bg1t]) <;> exact rfl
  · (simp only [go_sem, Nat.reducePow, Nat.reduceLT, Nat.reduceAdd, Nat.reduceSub, Nat.reduceMul, Nat.reduceLeDiff, reduceIte, Nat.reduceEqDiff, Nat.reduceBEq, Try.ntmps3, M.walked_zero, bg0t, bg1t]) <;> exact rfl
  · exact ref_plan _ _
  apply W_pre [12, 13, 14] [15, 16, 17, 18, 19]
  · (simp only [go_sem, Nat.reducePow, Nat.reduceLT, Nat.reduceAdd, Nat.reduceSub, Nat.reduceMul, Nat.reduceLeDiff, reduceIte, Nat.reduceEqDiff, Nat.reduceBEq, Try.ntmps3, M.walked_zero, bg0t, bg1t]) <;> exact rfl
  apply W_guard
  · (simp only [go_sem, Nat.reducePow, Nat.reduceLT, Nat.reduceAdd, Nat.reduceSub, Nat.reduceMul, Nat.reduceLeDiff, reduceIte, Nat.reduceEqDiff, Nat.reduceBEq, Try.ntmps3, M.walked_zero, bg0t, bg1t]) <;> exact rfl
  · (simp only [go_sem, Nat.reducePow, Nat.reduceLT, Nat.reduceAdd, Nat.reduceSub, Nat.reduceMul, Nat.reduceLeDiff, reduceIte, Nat.reduceEqDiff, Nat.reduceBEq, Try.ntmps3, M.walked_zero, bg0t, bg1t]) <;> exact rfl
  · intro bg2t
    have g2t := bg2t
    try simp only [beq_true, beq_false, decide_eq_true_eq, decide_eq_false_iff_not, Bool.not_eq_true', Bool.not_eq_false', Bool.not_eq_true, Bool.not_eq_false, ne_eq, Int.ofNat_lt, Int.ofNat_le, beq_iff_eq, bne_iff_ne, beq_eq_false_iff_ne, bne_eq_false_iff_eq, ge_iff_le, gt_iff_lt, Bool.not_true, Bool.not_false, Decidable.not_not, Int.natCast_inj, Int.natCast_nonneg] at g2t
    try simp only [beq_true, beq_false, Bool.not_eq_true', Bool.not_eq_false', Bool.not_not, Bool.not_true, Bool.not_false] at bg2t
    try exact absurd bg2t (by decide)
    all_goals (
  apply W_pre [15, 16] [17, 18, 19]
  · (simp only [go_sem, Nat.reducePow, Nat.reduceLT, Nat.reduceAdd, Nat.reduceSub, Nat.reduceMul, Nat.reduceLeDiff, reduceIte, Nat.reduceEqDiff, Nat.reduceBEq, Try.ntmps3, M.walked_zero, bg0t, bg1t, bg2t]) <;> exact rfl
  apply W_call -- call 3 of function 15
  · (simp only [go_sem, Nat.reducePow, Nat.reduceLT, Nat.reduceAdd, Nat.reduceSub, Nat.reduceMul, Nat.reduceLeDiff, reduceIte, Nat.reduceEqDiff, Nat.reduceBEq, Try.ntmps3, M.walked_zero, bg0t, bg1t, bg2t]) <;> exact rfl
  · (simp only [go_sem, Nat.reducePow, Nat.reduceLT, Nat.reduceAdd, Nat.reduceSub, Nat.reduceMul, Nat.reduceLeDiff, reduceIte, Nat.reduceEqDiff, Nat.reduceBEq, Try.ntmps3, M.walked_zero, bg0t, bg1t, bg2t]) <;> exact rfl
  · exact rfl
  · (simp only [go_sem, Nat.reducePow, Nat.reduceLT, Nat.reduceAdd, Nat.reduceSub, Nat.reduceMul, Nat.reduceLeDiff, reduceIte, Nat.reduceEqDiff, Nat.reduceBEq, Try.ntmps3, M.walked_zero, bg0t, bg1t, bg2t]) <;> exact rfl
  · (simp only [go_sem, Nat.reducePow, Nat.reduceLT, Nat.reduceAdd, Nat.reduceSub, Nat.reduceMul, Nat.reduceLeDiff, reduceIte, Nat.reduceEqDiff, Nat.reduceBEq, Try.ntmps3, M.walked_zero, bg0t, bg1t, bg2t]) <;> exact rfl
  · exact ⟨_, Try.func15, rfl, rfl⟩
  · (simp only [go_sem, Nat.reducePow, Nat.reduceLT, Nat.reduceAdd, Nat.reduceSub, Nat.reduceMul, Nat.reduceLeDiff, reduceIte, Nat.reduceEqDiff, Nat.reduceBEq, Try.ntmps3, M.walked_zero, bg0t, bg1t, bg2t]) <;> exact rfl
  · (simp only [go_sem, Nat.reducePow, Nat.reduceLT, Nat.reduceAdd, Nat.reduceSub, Nat.reduceMul, Nat.reduceLeDiff, reduceIte, Nat.reduceEqDiff, Nat.reduceBEq, Try.ntmps3, M.walked_zero, bg0t, bg1t, bg2t]) <;> exact rfl
  · exact ref_house _ _
  apply W_run
  · (simp only [go_sem, Nat.reducePow, Nat.reduceLT, Nat.reduceAdd, Nat.reduceSub, Nat.reduceMul, Nat.reduceLeDiff, reduceIte, Nat.reduceEqDiff, Nat.reduceBEq, Try.ntmps3, M.walked_zero, bg0t, bg1t, bg2t]) <;> exact rfl
  apply W_nil
  apply K_seq
  apply T_if
  · (simp only [go_sem, Nat.reducePow, Nat.reduceLT, Nat.reduceAdd, Nat.reduceSub, Nat.reduceMul, Nat.reduceLeDiff, reduceIte, Nat.reduceEqDiff, Nat.reduceBEq, Try.ntmps3, M.walked_zero, bg0t, bg1t, bg2t]) <;> exact rfl
  · intro bh0t
    have h0t := bh0t
    try simp only [beq_true, beq_false, decide_eq_true_eq, decide_eq_false_iff_not, Bool.not_eq_true', Bool.not_eq_false', Bool.not_eq_true, Bool.not_eq_false, ne_eq, Int.ofNat_lt, Int.ofNat_le, beq_iff_eq, bne_iff_ne, beq_eq_false_iff_ne, bne_eq_false_iff_eq, ge_iff_le, gt_iff_lt, Bool.not_true, Bool.not_false, Decidable.not_not, Int.natCast_inj, Int.natCast_nonneg] at h0t
    try simp only [beq_true, beq_false, Bool.not_eq_true', Bool.not_eq_false', Bool.not_not, Bool.not_true, Bool.not_false] at bh0t
    try exact absurd bh0t (by decide)
    all_goals (
  apply T_seq
  apply T_wL F [0, 1] rfl
  apply W_call -- call 4 of function 16
  · (simp only [go_sem, Nat.reducePow, Nat.reduceLT, Nat.reduceAdd, Nat.reduceSub, Nat.reduceMul, Nat.reduceLeDiff, reduceIte, Nat.reduceEqDiff, Nat.reduceBEq, Try.ntmps3, M.walked_zero, bg0t, bg1t, bg2t, bh0t]) <;> exact rfl
  · (simp only [go_sem, Nat.reducePow, Nat.reduceLT, Nat.reduceAdd, Nat.reduceSub, Nat.reduceMul, Nat.reduceLeDiff, reduceIte, Nat.reduceEqDiff, Nat.reduceBEq, Try.ntmps3, M.walked_zero, bg0t, bg1t, bg2t, bh0t]) <;> exact rfl
  · exact rfl
  · (simp only [go_sem, Nat.reducePow, Nat.reduceLT, Nat.reduceAdd, Nat.reduceSub, Nat.reduceMul, Nat.reduceLeDiff, reduceIte, Nat.reduceEqDiff, Nat.reduceBEq, Try.ntmps3, M.walked_zero, bg0t, bg1t, bg2t, bh0t]) <;> exact rfl
  · (simp only [go_sem, Nat.reducePow, Nat.reduceLT, Nat.reduceAdd, Nat.reduceSub, Nat.reduceMul, Nat.reduceLeDiff, reduceIte, Nat.reduceEqDiff, Nat.reduceBEq, Try.ntmps3, M.walked_zero, bg0t, bg1t, bg2t, bh0t]) <;> exact rfl
  · exact ⟨_, Try.func16, rfl, rfl⟩
  · (simp only [go_sem, Nat.reducePow, Nat.reduceLT, Nat.reduceAdd, Nat.reduceSub, Nat.reduceMul, Nat.reduceLeDiff, reduceIte, Nat.reduceEqDiff, Nat.reduceBEq, Try.ntmps3, M.walked_zero, bg0t, bg1t, bg2t, bh0t]) <;> exact rfl
  · (simp only [go_sem, Nat.reducePow, Nat.reduceLT, Nat.reduceAdd, Nat.reduceSub, Nat.reduceMul, Nat.reduceLeDiff, reduceIte, Nat.reduceEqDiff, Nat.reduceBEq, Try.ntmps3, M.walked_zero, bg0t, bg1t, bg2t, bh0t]) <;> exact rfl
  · exact known_ok
  apply W_run
  · (simp only [go_sem, Nat.reducePow, Nat.reduceLT, Nat.reduceAdd, Nat.reduceSub, Nat.reduceMul, Nat.reduceLeDiff, reduceIte, Nat.reduceEqDiff, Nat.reduceBEq, Try.ntmps3, M.walked_zero, bg0t, bg1t, bg2t, bh0t]) <;> exact rfl
  apply W_nil
  apply K_seq
  apply T_ret
  apply K_seqR
  apply fin_ret
  · (simp only [go_sem, Nat.reducePow, Nat.reduceLT, Nat.reduceAdd, Nat.reduceSub, Nat.reduceMul, Nat.reduceLeDiff, reduceIte, Nat.reduceEqDiff, Nat.reduceBEq, Try.ntmps3, M.walked_zero, bg0t, bg1t, bg2t, bh0t, Try.f3]) <;> exact rfl
  -- leaf 0 (ret)
  simp only [go_sem, Nat.reducePow, Nat.reduceLT, Nat.reduceAdd, Nat.reduceSub, Nat.reduceMul, Nat.reduceLeDiff, reduceIte, Nat.reduceEqDiff, Nat.reduceBEq, Try.ntmps3, M.walked_zero, bg0t, bg1t, bg2t, bh0t, V.bool.injEq, V.int.injEq, true_and]
  all_goals grind)
  · intro bh0f
    have h0f := bh0f
    try simp only [beq_true, beq_false, decide_eq_true_eq, decide_eq_false_iff_not, Bool.not_eq_true', Bool.not_eq_false', Bool.not_eq_true, Bool.not_eq_false, ne_eq, Int.ofNat_lt, Int.ofNat_le, beq_iff_eq, bne_iff_ne, beq_eq_false_iff_ne, bne_eq_false_iff_eq, ge_iff_le, gt_iff_lt, Bool.not_true, Bool.not_false, Decidable.not_not, Int.natCast_inj, Int.natCast_nonneg] at h0f
    try simp only [beq_true, beq_false, Bool.not_eq_true', Bool.not_eq_false', Bool.not_not, Bool.not_true, Bool.not_false] at bh0f
    try exact absurd bh0f (by decide)
    all_goals (
  have ok := g1t
  have hp := bg2t
  have hsh := g0t
  have hh : t.houses.length ≤ 1000 := by have := hsh.2.2.2.2.2.1; omega
  have ha := M.house_iff.1 bh0f
  have hpl := M.plan_iff.1 hp
  have ha1 : 0 ≤ a := ha.1
  have hah : a.toNat < t.houses.length := by omega
  have hap : a.toNat < p.length := by omega
  have hla : M.lot t p[a.toNat] = true := by have := hpl.2 a.toNat hap; rwa [M.at_get hap] at this
  have hla1 := M.lot_iff.1 hla
  have hw0 : 0 ≤ p[a.toNat] := hla1.1
  have hw1 : (p[a.toNat]).toNat < t.walk.length := by omega
  have hgl : (p[a.toNat]).toNat < t.gone.length := by rw [ok.gone]; exact hw1
  apply T_skip
  apply K_seq
  apply T_seq
  apply T_wL F [0, 1, 2, 3, 4, 5, 6, 7, 8] rfl
  apply W_pre [0, 1] [2, 3, 4, 5, 6, 7, 8]
  · (simp only [go_sem, Nat.reducePow, Nat.reduceLT, Nat.reduceAdd, Nat.reduceSub, Nat.reduceMul, Nat.reduceLeDiff, reduceIte, Nat.reduceEqDiff, Nat.reduceBEq, Try.ntmps3, M.walked_zero, bg0t, bg1t, bg2t, bh0f]) <;> exact rfl
  apply W_call -- call 5 of function 17
  · (simp only [go_sem, Nat.reducePow, Nat.reduceLT, Nat.reduceAdd, Nat.reduceSub, Nat.reduceMul, Nat.reduceLeDiff, reduceIte, Nat.reduceEqDiff, Nat.reduceBEq, Try.ntmps3, M.walked_zero, bg0t, bg1t, bg2t, bh0f]) <;> exact rfl
  · (simp only [go_sem, Nat.reducePow, Nat.reduceLT, Nat.reduceAdd, Nat.reduceSub, Nat.reduceMul, Nat.reduceLeDiff, reduceIte, Nat.reduceEqDiff, Nat.reduceBEq, Try.ntmps3, M.walked_zero, bg0t, bg1t, bg2t, bh0f]) <;> exact rfl
  · exact rfl
  · (simp only [go_sem, Nat.reducePow, Nat.reduceLT, Nat.reduceAdd, Nat.reduceSub, Nat.reduceMul, Nat.reduceLeDiff, reduceIte, Nat.reduceEqDiff, Nat.reduceBEq, Try.ntmps3, M.walked_zero, bg0t, bg1t, bg2t, bh0f]) <;> exact rfl
  · (simp only [go_sem, Nat.reducePow, Nat.reduceLT, Nat.reduceAdd, Nat.reduceSub, Nat.reduceMul, Nat.reduceLeDiff, reduceIte, Nat.reduceEqDiff, Nat.reduceBEq, Try.ntmps3, M.walked_zero, bg0t, bg1t, bg2t, bh0f]) <;> exact rfl
  · exact ⟨_, Try.func17, rfl, rfl⟩
  · (simp only [go_sem, Nat.reducePow, Nat.reduceLT, Nat.reduceAdd, Nat.reduceSub, Nat.reduceMul, Nat.reduceLeDiff, reduceIte, Nat.reduceEqDiff, Nat.reduceBEq, Try.ntmps3, M.walked_zero, bg0t, bg1t, bg2t, bh0f]) <;> exact rfl
  · (simp only [go_sem, Nat.reducePow, Nat.reduceLT, Nat.reduceAdd, Nat.reduceSub, Nat.reduceMul, Nat.reduceLeDiff, reduceIte, Nat.reduceEqDiff, Nat.reduceBEq, Try.ntmps3, M.walked_zero, bg0t, bg1t, bg2t, bh0f]) <;> exact rfl
  · exact mv_FaultOk (by omega) ok hp
  apply W_run
  · (simp only [go_sem, Nat.reducePow, Nat.reduceLT, Nat.reduceAdd, Nat.reduceSub, Nat.reduceMul, Nat.reduceLeDiff, reduceIte, Nat.reduceEqDiff, Nat.reduceBEq, Try.ntmps3, M.walked_zero, bg0t, bg1t, bg2t, bh0f]) <;> exact rfl
  apply W_nil
  apply K_seq
  apply T_seq
  apply T_seq
  apply T_r F
  · (simp only [go_sem, Nat.reducePow, Nat.reduceLT, Nat.reduceAdd, Nat.reduceSub, Nat.reduceMul, Nat.reduceLeDiff, reduceIte, Nat.reduceEqDiff, Nat.reduceBEq, Try.ntmps3, M.walked_zero, bg0t, bg1t, bg2t, bh0f]) <;> exact rfl
  apply K_seq
  apply T_if
  · (simp only [go_sem, Nat.reducePow, Nat.reduceLT, Nat.reduceAdd, Nat.reduceSub, Nat.reduceMul, Nat.reduceLeDiff, reduceIte, Nat.reduceEqDiff, Nat.reduceBEq, Try.ntmps3, M.walked_zero, bg0t, bg1t, bg2t, bh0f]) <;> exact rfl
  · intro bh1t
    have h1t := bh1t
    try simp only [beq_true, beq_false, decide_eq_true_eq, decide_eq_false_iff_not, Bool.not_eq_true', Bool.not_eq_false', Bool.not_eq_true, Bool.not_eq_false, ne_eq, Int.ofNat_lt, Int.ofNat_le, beq_iff_eq, bne_iff_ne, beq_eq_false_iff_ne, bne_eq_false_iff_eq, ge_iff_le, gt_iff_lt, Bool.not_true, Bool.not_false, Decidable.not_not, Int.natCast_inj, Int.natCast_nonneg] at h1t
    try simp only [beq_true, beq_false, Bool.not_eq_true', Bool.not_eq_false', Bool.not_not, Bool.not_true, Bool.not_false] at bh1t
    try exact absurd bh1t (by decide)
    all_goals (
  apply T_seq
  apply T_r F
  · (simp only [go_sem, Nat.reducePow, Nat.reduceLT, Nat.reduceAdd, Nat.reduceSub, Nat.reduceMul, Nat.reduceLeDiff, reduceIte, Nat.reduceEqDiff, Nat.reduceBEq, Try.ntmps3, M.walked_zero, bg0t, bg1t, bg2t, bh0f, bh1t]) <;> exact rfl
  apply K_seq
  apply T_ret
  apply K_seqR
  apply fin_ret
  · (simp only [go_sem, Nat.reducePow, Nat.reduceLT, Nat.reduceAdd, Nat.reduceSub, Nat.reduceMul, Nat.reduceLeDiff, reduceIte, Nat.reduceEqDiff, Nat.reduceBEq, Try.ntmps3, M.walked_zero, bg0t, bg1t, bg2t, bh0f, bh1t, Try.f3]) <;> exact rfl
  -- leaf 1 (ret)
  simp only [go_sem, Nat.reducePow, Nat.reduceLT, Nat.reduceAdd, Nat.reduceSub, Nat.reduceMul, Nat.reduceLeDiff, reduceIte, Nat.reduceEqDiff, Nat.reduceBEq, Try.ntmps3, M.walked_zero, bg0t, bg1t, bg2t, bh0f, bh1t, V.bool.injEq, V.int.injEq, true_and]
  all_goals grind)
  · intro bh1f
    have h1f := bh1f
    try simp only [beq_true, beq_false, decide_eq_true_eq, decide_eq_false_iff_not, Bool.not_eq_true', Bool.not_eq_false', Bool.not_eq_true, Bool.not_eq_false, ne_eq, Int.ofNat_lt, Int.ofNat_le, beq_iff_eq, bne_iff_ne, beq_eq_false_iff_ne, bne_eq_false_iff_eq, ge_iff_le, gt_iff_lt, Bool.not_true, Bool.not_false, Decidable.not_not, Int.natCast_inj, Int.natCast_nonneg] at h1f
    try simp only [beq_true, beq_false, Bool.not_eq_true', Bool.not_eq_false', Bool.not_not, Bool.not_true, Bool.not_false] at bh1f
    try exact absurd bh1f (by decide)
    all_goals (
  apply T_skip
  apply K_seq
  apply T_seq
  apply T_seq
  apply T_r F
  · (simp only [go_sem, Nat.reducePow, Nat.reduceLT, Nat.reduceAdd, Nat.reduceSub, Nat.reduceMul, Nat.reduceLeDiff, reduceIte, Nat.reduceEqDiff, Nat.reduceBEq, Try.ntmps3, M.walked_zero, bg0t, bg1t, bg2t, bh0f, bh1f]) <;> exact rfl
  apply K_seq
  apply T_if
  · (simp only [go_sem, Nat.reducePow, Nat.reduceLT, Nat.reduceAdd, Nat.reduceSub, Nat.reduceMul, Nat.reduceLeDiff, reduceIte, Nat.reduceEqDiff, Nat.reduceBEq, Try.ntmps3, M.walked_zero, bg0t, bg1t, bg2t, bh0f, bh1f]) <;> exact rfl
  · intro bh2t
    have h2t := bh2t
    try simp only [beq_true, beq_false, decide_eq_true_eq, decide_eq_false_iff_not, Bool.not_eq_true', Bool.not_eq_false', Bool.not_eq_true, Bool.not_eq_false, ne_eq, Int.ofNat_lt, Int.ofNat_le, beq_iff_eq, bne_iff_ne, beq_eq_false_iff_ne, bne_eq_false_iff_eq, ge_iff_le, gt_iff_lt, Bool.not_true, Bool.not_false, Decidable.not_not, Int.natCast_inj, Int.natCast_nonneg] at h2t
    try simp only [beq_true, beq_false, Bool.not_eq_true', Bool.not_eq_false', Bool.not_not, Bool.not_true, Bool.not_false] at bh2t
    try exact absurd bh2t (by decide)
    all_goals (
  apply T_seq
  apply T_wL F [0, 1] rfl
  apply W_call -- call 6 of function 16
  · (simp only [go_sem, Nat.reducePow, Nat.reduceLT, Nat.reduceAdd, Nat.reduceSub, Nat.reduceMul, Nat.reduceLeDiff, reduceIte, Nat.reduceEqDiff, Nat.reduceBEq, Try.ntmps3, M.walked_zero, bg0t, bg1t, bg2t, bh0f, bh1f, bh2t]) <;> exact rfl
  · (simp only [go_sem, Nat.reducePow, Nat.reduceLT, Nat.reduceAdd, Nat.reduceSub, Nat.reduceMul, Nat.reduceLeDiff, reduceIte, Nat.reduceEqDiff, Nat.reduceBEq, Try.ntmps3, M.walked_zero, bg0t, bg1t, bg2t, bh0f, bh1f, bh2t]) <;> exact rfl
  · exact rfl
  · (simp only [go_sem, Nat.reducePow, Nat.reduceLT, Nat.reduceAdd, Nat.reduceSub, Nat.reduceMul, Nat.reduceLeDiff, reduceIte, Nat.reduceEqDiff, Nat.reduceBEq, Try.ntmps3, M.walked_zero, bg0t, bg1t, bg2t, bh0f, bh1f, bh2t]) <;> exact rfl
  · (simp only [go_sem, Nat.reducePow, Nat.reduceLT, Nat.reduceAdd, Nat.reduceSub, Nat.reduceMul, Nat.reduceLeDiff, reduceIte, Nat.reduceEqDiff, Nat.reduceBEq, Try.ntmps3, M.walked_zero, bg0t, bg1t, bg2t, bh0f, bh1f, bh2t]) <;> exact rfl
  · exact ⟨_, Try.func16, rfl, rfl⟩
  · (simp only [go_sem, Nat.reducePow, Nat.reduceLT, Nat.reduceAdd, Nat.reduceSub, Nat.reduceMul, Nat.reduceLeDiff, reduceIte, Nat.reduceEqDiff, Nat.reduceBEq, Try.ntmps3, M.walked_zero, bg0t, bg1t, bg2t, bh0f, bh1f, bh2t]) <;> exact rfl
  · (simp only [go_sem, Nat.reducePow, Nat.reduceLT, Nat.reduceAdd, Nat.reduceSub, Nat.reduceMul, Nat.reduceLeDiff, reduceIte, Nat.reduceEqDiff, Nat.reduceBEq, Try.ntmps3, M.walked_zero, bg0t, bg1t, bg2t, bh0f, bh1f, bh2t]) <;> exact rfl
  · exact known_ok
  apply W_run
  · (simp only [go_sem, Nat.reducePow, Nat.reduceLT, Nat.reduceAdd, Nat.reduceSub, Nat.reduceMul, Nat.reduceLeDiff, reduceIte, Nat.reduceEqDiff, Nat.reduceBEq, Try.ntmps3, M.walked_zero, bg0t, bg1t, bg2t, bh0f, bh1f, bh2t]) <;> exact rfl
  apply W_nil
  apply K_seq
  apply T_ret
  apply K_seqR
  apply fin_ret
  · (simp only [go_sem, Nat.reducePow, Nat.reduceLT, Nat.reduceAdd, Nat.reduceSub, Nat.reduceMul, Nat.reduceLeDiff, reduceIte, Nat.reduceEqDiff, Nat.reduceBEq, Try.ntmps3, M.walked_zero, bg0t, bg1t, bg2t, bh0f, bh1f, bh2t, Try.f3]) <;> exact rfl
  -- leaf 2 (ret)
  simp only [go_sem, Nat.reducePow, Nat.reduceLT, Nat.reduceAdd, Nat.reduceSub, Nat.reduceMul, Nat.reduceLeDiff, reduceIte, Nat.reduceEqDiff, Nat.reduceBEq, Try.ntmps3, M.walked_zero, bg0t, bg1t, bg2t, bh0f, bh1f, bh2t, V.bool.injEq, V.int.injEq, true_and]
  all_goals grind)
  · intro bh2f
    have h2f := bh2f
    try simp only [beq_true, beq_false, decide_eq_true_eq, decide_eq_false_iff_not, Bool.not_eq_true', Bool.not_eq_false', Bool.not_eq_true, Bool.not_eq_false, ne_eq, Int.ofNat_lt, Int.ofNat_le, beq_iff_eq, bne_iff_ne, beq_eq_false_iff_ne, bne_eq_false_iff_eq, ge_iff_le, gt_iff_lt, Bool.not_true, Bool.not_false, Decidable.not_not, Int.natCast_inj, Int.natCast_nonneg] at h2f
    try simp only [beq_true, beq_false, Bool.not_eq_true', Bool.not_eq_false', Bool.not_not, Bool.not_true, Bool.not_false] at bh2f
    try exact absurd bh2f (by decide)
    all_goals (
  have hf := M.fault_one h2f
  have hfa := hf.1 a.toNat hap
  have hdis : ∀ i (hi : i < p.length), p[i] = p[a.toNat] → i = a.toNat := fun i hi e => M.no_shared (fun i hi => (hf.1 i hi).1) hi hap e
  have hgo : t.gone[(p[a.toNat]).toNat] = false := by have := hfa.2.1; rw [M.at_get hap, M.gone_get hgl] at this; exact this
  have hun := M.wished hah hap hfa.2.2.1
  have hut := hfa.2.2.2
  rw [M.untaught, M.hs_get hah, M.at_get hap] at hut
  apply T_skip
  apply K_seq
  apply T_seq
  apply T_dL F [none, none, none, none, none, none, none, none, none, some (2, true), none, some (2, false)] [[2], [2], [2], [2], [2], [2], [2], [2], [2], [], [], []] [0, 1, 2, 3, 4, 5, 6, 7, 8, 9, 10, 11] rfl (by kernel_rfl)
  apply D_pre [0, 1, 2, 3] [4, 5, 6, 7, 8, 9, 10, 11]
  · (simp only [go_sem, Nat.reducePow, Nat.reduceLT, Nat.reduceAdd, Nat.reduceSub, Nat.reduceMul, Nat.reduceLeDiff, reduceIte, Nat.reduceEqDiff, Nat.reduceBEq, Try.ntmps3, M.walked_zero, bg0t, bg1t, bg2t, bh0f, bh1f, bh2f, ha1, hap, rI_get hap, hah, rH_get hah]) <;> exact rfl
  apply D_pre [4, 5, 6, 7] [8, 9, 10, 11]
  · (simp only [go_sem, Nat.reducePow, Nat.reduceLT, Nat.reduceAdd, Nat.reduceSub, Nat.reduceMul, Nat.reduceLeDiff, reduceIte, Nat.reduceEqDiff, Nat.reduceBEq, Try.ntmps3, M.walked_zero, bg0t, bg1t, bg2t, bh0f, bh1f, bh2f, ha1, hap, rI_get hap, hah, rH_get hah]) <;> exact rfl
  apply D_run
  · (simp only [go_sem, Nat.reducePow, Nat.reduceLT, Nat.reduceAdd, Nat.reduceSub, Nat.reduceMul, Nat.reduceLeDiff, reduceIte, Nat.reduceEqDiff, Nat.reduceBEq, Try.ntmps3, M.walked_zero, bg0t, bg1t, bg2t, bh0f, bh1f, bh2f, ha1, hap, rI_get hap, hah, rH_get hah]) <;> exact rfl
  apply D_nil
  apply K_seq
  apply T_seq
  apply T_seq
  apply T_r F
  · (simp only [go_sem, Nat.reducePow, Nat.reduceLT, Nat.reduceAdd, Nat.reduceSub, Nat.reduceMul, Nat.reduceLeDiff, reduceIte, Nat.reduceEqDiff, Nat.reduceBEq, Try.ntmps3, M.walked_zero, bg0t, bg1t, bg2t, bh0f, bh1f, bh2f, ha1, hap, rI_get hap, hah, rH_get hah]) <;> exact rfl
  apply K_seq
  apply T_block
  apply T_lp (α := Nat) [false, true, true, true, true, false, false, false, false, false, false, true, true, true, false, false, false, false, false, false, false, false, false, false, false, false, false, false, false, false, false, false, false, false, false, false, false, false, false, false, false, false, false, false, false, false, false, false, false, false, false, false, false, false, false, false, false, false, false, false, false, false, false, false, false, false, false, false, false, false, false, false, false, false, false, false, false, false, false, false, false, false, false, false, false, false, false, false, false, false, false, false, false, false, false, false, false, false, false, false, false, false, false, false, false, false, false, false, false, false, false, false, false, false, false, false, false, false, false, false, false, false, false, false, false, false, false, false, false, false, false, false, false, false, false, false, false, false, false, false, false, false, false, false, false, false, false, false, false, false, false, false, false, false, false, false, false, false, false, false, false, false, false, false, false, false, false] (fun k => (⟨[.undef, .sl 1 (rI p), .int .i64 a, .int .i64 b, .ptr 0 0, .undef, .undef, .undef, .undef, .undef, .undef, .int .i64 p[a.toNat], .ptr 2 0, .int .i64 (k : Int), .undef, .undef, .undef, .undef, .undef, .undef, .undef, .undef, .undef, .undef, .undef, .undef, .undef, .undef, .undef, .undef, .undef, .undef, .undef, .undef, .undef, .undef, .undef, .undef, .undef, .undef, .undef, .undef, .undef, .undef, .undef, .undef, .undef, .undef, .undef, .undef, .undef, .undef, .undef, .undef, .undef, .undef, .undef, .undef, .undef, .undef, .undef, .undef, .undef, .undef, .undef, .undef, .undef, .undef, .undef, .undef, .undef, .undef, .undef, .undef, .undef, .undef, .undef, .undef, .undef, .undef, .undef, .undef, .undef, .undef, .undef, .undef, .undef, .undef, .undef, .undef, .undef, .undef, .undef, .undef, .undef, .undef, .undef, .undef, .undef, .undef, .undef, .undef, .undef, .undef, .undef, .undef, .undef, .undef, .undef, .undef, .undef, .undef, .undef, .undef, .undef, .undef, .undef, .undef, .undef, .undef, .undef, .undef, .undef, .undef, .undef, .undef, .undef, .undef, .undef, .undef, .undef, .undef, .undef, .undef, .undef, .undef, .undef, .undef, .undef, .undef, .undef, .undef, .undef, .undef, .undef, .undef, .undef, .undef, .undef, .undef, .undef, .undef, .undef, .undef, .undef, .undef, .undef, .undef, .undef, .undef, .undef, .undef, .undef, .undef, .undef, .undef, .undef], [.box 28 (cT t), .box 35 [.int .i64 (M.fault t p).1, .int .i64 (M.fault t p).2], .box 40 [.int .i64 t.houses[a.toNat].lot, .sl 1 (rI t.houses[a.toNat].wishes), .bool t.houses[a.toNat].school]]⟩ : St)) (fun k => k ≤ p.length) (fun k => p.length - k) (0)
  · (simp only [go_sem, Nat.reducePow, Nat.reduceLT, Nat.reduceAdd, Nat.reduceSub, Nat.reduceMul, Nat.reduceLeDiff, reduceIte, Nat.reduceEqDiff, Nat.reduceBEq, Try.ntmps3, M.walked_zero, bg0t, bg1t, bg2t, bh0f, bh1f, bh2f, ha1, hap, rI_get hap, hah, rH_get hah]) <;> exact rfl
  · exact Nat.zero_le _
  · rintro k hk
    apply T_seq
    apply T_seq
    apply T_r F
    · (simp only [go_sem, Nat.reducePow, Nat.reduceLT, Nat.reduceAdd, Nat.reduceSub, Nat.reduceMul, Nat.reduceLeDiff, reduceIte, Nat.reduceEqDiff, Nat.reduceBEq, Try.ntmps3, M.walked_zero, bg0t, bg1t, bg2t, bh0f, bh1f, bh2f, ha1, hap, rI_get hap, hah, rH_get hah]) <;> exact rfl
    apply K_seq
    apply T_if
    · (simp only [go_sem, Nat.reducePow, Nat.reduceLT, Nat.reduceAdd, Nat.reduceSub, Nat.reduceMul, Nat.reduceLeDiff, reduceIte, Nat.reduceEqDiff, Nat.reduceBEq, Try.ntmps3, M.walked_zero, bg0t, bg1t, bg2t, bh0f, bh1f, bh2f, ha1, hap, rI_get hap, hah, rH_get hah]) <;> exact rfl
    · intro bh3t
      have h3t := bh3t
      try simp only [beq_true, beq_false, decide_eq_true_eq, decide_eq_false_iff_not, Bool.not_eq_true', Bool.not_eq_false', Bool.not_eq_true, Bool.not_eq_false, ne_eq, Int.ofNat_lt, Int.ofNat_le, beq_iff_eq, bne_iff_ne, beq_eq_false_iff_ne, bne_eq_false_iff_eq, ge_iff_le, gt_iff_lt, Bool.not_true, Bool.not_false, Decidable.not_not, Int.natCast_inj, Int.natCast_nonneg] at h3t
      try simp only [beq_true, beq_false, Bool.not_eq_true', Bool.not_eq_false', Bool.not_not, Bool.not_true, Bool.not_false] at bh3t
      try exact absurd bh3t (by decide)
      all_goals (
  have hb : k < 9223372036854775807 := by omega
  apply T_skip
  apply K_seq
  apply T_seq
  apply T_block
  apply T_seq
  apply T_wL F [0, 1, 2, 3, 4, 5, 6, 7, 8, 9, 10] rfl
  apply W_pre [0, 1, 2, 3] [4, 5, 6, 7, 8, 9, 10]
  · (simp only [go_sem, Nat.reducePow, Nat.reduceLT, Nat.reduceAdd, Nat.reduceSub, Nat.reduceMul, Nat.reduceLeDiff, reduceIte, Nat.reduceEqDiff, Nat.reduceBEq, Try.ntmps3, M.walked_zero, bg0t, bg1t, bg2t, bh0f, bh1f, bh2f, ha1, hap, rI_get hap, hah, rH_get hah, bh3t, h3t, rI_get h3t, hb]) <;> exact rfl
  apply W_guard
  · (simp only [go_sem, Nat.reducePow, Nat.reduceLT, Nat.reduceAdd, Nat.reduceSub, Nat.reduceMul, Nat.reduceLeDiff, reduceIte, Nat.reduceEqDiff, Nat.reduceBEq, Try.ntmps3, M.walked_zero, bg0t, bg1t, bg2t, bh0f, bh1f, bh2f, ha1, hap, rI_get hap, hah, rH_get hah, bh3t, h3t, rI_get h3t, hb]) <;> exact rfl
  · (simp only [go_sem, Nat.reducePow, Nat.reduceLT, Nat.reduceAdd, Nat.reduceSub, Nat.reduceMul, Nat.reduceLeDiff, reduceIte, Nat.reduceEqDiff, Nat.reduceBEq, Try.ntmps3, M.walked_zero, bg0t, bg1t, bg2t, bh0f, bh1f, bh2f, ha1, hap, rI_get hap, hah, rH_get hah, bh3t, h3t, rI_get h3t, hb]) <;> exact rfl
  · intro bg3t
    have g3t := bg3t
    try simp only [beq_true, beq_false, decide_eq_true_eq, decide_eq_false_iff_not, Bool.not_eq_true', Bool.not_eq_false', Bool.not_eq_true, Bool.not_eq_false, ne_eq, Int.ofNat_lt, Int.ofNat_le, beq_iff_eq, bne_iff_ne, beq_eq_false_iff_ne, bne_eq_false_iff_eq, ge_iff_le, gt_iff_lt, Bool.not_true, Bool.not_false, Decidable.not_not, Int.natCast_inj, Int.natCast_nonneg] at g3t
    try simp only [beq_true, beq_false, Bool.not_eq_true', Bool.not_eq_false', Bool.not_not, Bool.not_true, Bool.not_false] at bg3t
    try exact absurd bg3t (by decide)
    all_goals (
  apply W_pre [4, 5, 6, 7] [8, 9, 10]
  · (simp only [go_sem, Nat.reducePow, Nat.reduceLT, Nat.reduceAdd, Nat.reduceSub, Nat.reduceMul, Nat.reduceLeDiff, reduceIte, Nat.reduceEqDiff, Nat.reduceBEq, Try.ntmps3, M.walked_zero, bg0t, bg1t, bg2t, bh0f, bh1f, bh2f, ha1, hap, rI_get hap, hah, rH_get hah, bh3t, h3t, rI_get h3t, hb, bg3t]) <;> exact rfl
  apply W_run
  · (simp only [go_sem, Nat.reducePow, Nat.reduceLT, Nat.reduceAdd, Nat.reduceSub, Nat.reduceMul, Nat.reduceLeDiff, reduceIte, Nat.reduceEqDiff, Nat.reduceBEq, Try.ntmps3, M.walked_zero, bg0t, bg1t, bg2t, bh0f, bh1f, bh2f, ha1, hap, rI_get hap, hah, rH_get hah, bh3t, h3t, rI_get h3t, hb, bg3t]) <;> exact rfl
  apply W_nil
  apply K_seq
  apply T_if
  · (simp only [go_sem, Nat.reducePow, Nat.reduceLT, Nat.reduceAdd, Nat.reduceSub, Nat.reduceMul, Nat.reduceLeDiff, reduceIte, Nat.reduceEqDiff, Nat.reduceBEq, Try.ntmps3, M.walked_zero, bg0t, bg1t, bg2t, bh0f, bh1f, bh2f, ha1, hap, rI_get hap, hah, rH_get hah, bh3t, h3t, rI_get h3t, hb, bg3t]) <;> exact rfl
  · intro bh4t
    have h4t := bh4t
    try simp only [beq_true, beq_false, decide_eq_true_eq, decide_eq_false_iff_not, Bool.not_eq_true', Bool.not_eq_false', Bool.not_eq_true, Bool.not_eq_false, ne_eq, Int.ofNat_lt, Int.ofNat_le, beq_iff_eq, bne_iff_ne, beq_eq_false_iff_ne, bne_eq_false_iff_eq, ge_iff_le, gt_iff_lt, Bool.not_true, Bool.not_false, Decidable.not_not, Int.natCast_inj, Int.natCast_nonneg] at h4t
    try simp only [beq_true, beq_false, Bool.not_eq_true', Bool.not_eq_false', Bool.not_not, Bool.not_true, Bool.not_false] at bh4t
    try exact absurd bh4t (by decide)
    all_goals (
  apply T_seq
  apply T_r F
  · (simp only [go_sem, Nat.reducePow, Nat.reduceLT, Nat.reduceAdd, Nat.reduceSub, Nat.reduceMul, Nat.reduceLeDiff, reduceIte, Nat.reduceEqDiff, Nat.reduceBEq, Try.ntmps3, M.walked_zero, bg0t, bg1t, bg2t, bh0f, bh1f, bh2f, ha1, hap, rI_get hap, hah, rH_get hah, bh3t, h3t, rI_get h3t, hb, bg3t, bh4t]) <;> exact rfl
  apply K_seq
  apply T_ret
  apply K_blkR
  apply K_seqR
  apply K_lpR
  apply K_blkR
  apply K_seqR
  apply fin_ret
  · (simp only [go_sem, Nat.reducePow, Nat.reduceLT, Nat.reduceAdd, Nat.reduceSub, Nat.reduceMul, Nat.reduceLeDiff, reduceIte, Nat.reduceEqDiff, Nat.reduceBEq, Try.ntmps3, M.walked_zero, bg0t, bg1t, bg2t, bh0f, bh1f, bh2f, ha1, hap, rI_get hap, hah, rH_get hah, bh3t, h3t, rI_get h3t, hb, bg3t, bh4t, Try.f3]) <;> exact rfl
  -- leaf 3 (ret)
  simp only [go_sem, Nat.reducePow, Nat.reduceLT, Nat.reduceAdd, Nat.reduceSub, Nat.reduceMul, Nat.reduceLeDiff, reduceIte, Nat.reduceEqDiff, Nat.reduceBEq, Try.ntmps3, M.walked_zero, bg0t, bg1t, bg2t, bh0f, bh1f, bh2f, ha1, hap, rI_get hap, hah, rH_get hah, bh3t, h3t, rI_get h3t, hb, bg3t, bh4t, V.bool.injEq, V.int.injEq, true_and]
  all_goals grind)
  · intro bh4f
    have h4f := bh4f
    try simp only [beq_true, beq_false, decide_eq_true_eq, decide_eq_false_iff_not, Bool.not_eq_true', Bool.not_eq_false', Bool.not_eq_true, Bool.not_eq_false, ne_eq, Int.ofNat_lt, Int.ofNat_le, beq_iff_eq, bne_iff_ne, beq_eq_false_iff_ne, bne_eq_false_iff_eq, ge_iff_le, gt_iff_lt, Bool.not_true, Bool.not_false, Decidable.not_not, Int.natCast_inj, Int.natCast_nonneg] at h4f
    try simp only [beq_true, beq_false, Bool.not_eq_true', Bool.not_eq_false', Bool.not_not, Bool.not_true, Bool.not_false] at bh4f
    try exact absurd bh4f (by decide)
    all_goals (
  apply T_skip
  apply K_blk
  apply K_seq
  apply T_r F
  · (simp only [go_sem, Nat.reducePow, Nat.reduceLT, Nat.reduceAdd, Nat.reduceSub, Nat.reduceMul, Nat.reduceLeDiff, reduceIte, Nat.reduceEqDiff, Nat.reduceBEq, Try.ntmps3, M.walked_zero, bg0t, bg1t, bg2t, bh0f, bh1f, bh2f, ha1, hap, rI_get hap, hah, rH_get hah, bh3t, h3t, rI_get h3t, hb, bg3t, bh4f]) <;> exact rfl
  refine K_lp (k + 1) ?_ ?_
  · (simp only [go_sem, Nat.reducePow, Nat.reduceLT, Nat.reduceAdd, Nat.reduceSub, Nat.reduceMul, Nat.reduceLeDiff, reduceIte, Nat.reduceEqDiff, Nat.reduceBEq, Try.ntmps3, M.walked_zero, bg0t, bg1t, bg2t, bh0f, bh1f, bh2f, ha1, hap, rI_get hap, hah, rH_get hah, bh3t, h3t, rI_get h3t, hb, bg3t, bh4f]) <;> exact rfl
  -- leaf 4 (loop0)
  all_goals grind))
  · intro bg3f
    have g3f := bg3f
    try simp only [beq_true, beq_false, decide_eq_true_eq, decide_eq_false_iff_not, Bool.not_eq_true', Bool.not_eq_false', Bool.not_eq_true, Bool.not_eq_false, ne_eq, Int.ofNat_lt, Int.ofNat_le, beq_iff_eq, bne_iff_ne, beq_eq_false_iff_ne, bne_eq_false_iff_eq, ge_iff_le, gt_iff_lt, Bool.not_true, Bool.not_false, Decidable.not_not, Int.natCast_inj, Int.natCast_nonneg] at g3f
    try simp only [beq_true, beq_false, Bool.not_eq_true', Bool.not_eq_false', Bool.not_not, Bool.not_true, Bool.not_false] at bg3f
    try exact absurd bg3f (by decide)
    all_goals (
  apply W_pre [4, 5, 6, 7] [8, 9, 10]
  · (simp only [go_sem, Nat.reducePow, Nat.reduceLT, Nat.reduceAdd, Nat.reduceSub, Nat.reduceMul, Nat.reduceLeDiff, reduceIte, Nat.reduceEqDiff, Nat.reduceBEq, Try.ntmps3, M.walked_zero, bg0t, bg1t, bg2t, bh0f, bh1f, bh2f, ha1, hap, rI_get hap, hah, rH_get hah, bh3t, h3t, rI_get h3t, hb, bg3f]) <;> exact rfl
  apply W_run
  · (simp only [go_sem, Nat.reducePow, Nat.reduceLT, Nat.reduceAdd, Nat.reduceSub, Nat.reduceMul, Nat.reduceLeDiff, reduceIte, Nat.reduceEqDiff, Nat.reduceBEq, Try.ntmps3, M.walked_zero, bg0t, bg1t, bg2t, bh0f, bh1f, bh2f, ha1, hap, rI_get hap, hah, rH_get hah, bh3t, h3t, rI_get h3t, hb, bg3f]) <;> exact rfl
  apply W_nil
  apply K_seq
  apply T_if
  · (simp only [go_sem, Nat.reducePow, Nat.reduceLT, Nat.reduceAdd, Nat.reduceSub, Nat.reduceMul, Nat.reduceLeDiff, reduceIte, Nat.reduceEqDiff, Nat.reduceBEq, Try.ntmps3, M.walked_zero, bg0t, bg1t, bg2t, bh0f, bh1f, bh2f, ha1, hap, rI_get hap, hah, rH_get hah, bh3t, h3t, rI_get h3t, hb, bg3f]) <;> exact rfl
  · intro bh5t
    exact absurd bh5t (by simp)
  · intro bh5f
    have h5f := bh5f
    try simp only [beq_true, beq_false, decide_eq_true_eq, decide_eq_false_iff_not, Bool.not_eq_true', Bool.not_eq_false', Bool.not_eq_true, Bool.not_eq_false, ne_eq, Int.ofNat_lt, Int.ofNat_le, beq_iff_eq, bne_iff_ne, beq_eq_false_iff_ne, bne_eq_false_iff_eq, ge_iff_le, gt_iff_lt, Bool.not_true, Bool.not_false, Decidable.not_not, Int.natCast_inj, Int.natCast_nonneg] at h5f
    try simp only [beq_true, beq_false, Bool.not_eq_true', Bool.not_eq_false', Bool.not_not, Bool.not_true, Bool.not_false] at bh5f
    try exact absurd bh5f (by decide)
    all_goals (
  apply T_skip
  apply K_blk
  apply K_seq
  apply T_r F
  · (simp only [go_sem, Nat.reducePow, Nat.reduceLT, Nat.reduceAdd, Nat.reduceSub, Nat.reduceMul, Nat.reduceLeDiff, reduceIte, Nat.reduceEqDiff, Nat.reduceBEq, Try.ntmps3, M.walked_zero, bg0t, bg1t, bg2t, bh0f, bh1f, bh2f, ha1, hap, rI_get hap, hah, rH_get hah, bh3t, h3t, rI_get h3t, hb, bg3f, bh5f]) <;> exact rfl
  refine K_lp (k + 1) ?_ ?_
  · (simp only [go_sem, Nat.reducePow, Nat.reduceLT, Nat.reduceAdd, Nat.reduceSub, Nat.reduceMul, Nat.reduceLeDiff, reduceIte, Nat.reduceEqDiff, Nat.reduceBEq, Try.ntmps3, M.walked_zero, bg0t, bg1t, bg2t, bh0f, bh1f, bh2f, ha1, hap, rI_get hap, hah, rH_get hah, bh3t, h3t, rI_get h3t, hb, bg3f, bh5f]) <;> exact rfl
  -- leaf 5 (loop0)
  all_goals grind)))
    · intro bh3f
      have h3f := bh3f
      try simp only [beq_true, beq_false, decide_eq_true_eq, decide_eq_false_iff_not, Bool.not_eq_true', Bool.not_eq_false', Bool.not_eq_true, Bool.not_eq_false, ne_eq, Int.ofNat_lt, Int.ofNat_le, beq_iff_eq, bne_iff_ne, beq_eq_false_iff_ne, bne_eq_false_iff_eq, ge_iff_le, gt_iff_lt, Bool.not_true, Bool.not_false, Decidable.not_not, Int.natCast_inj, Int.natCast_nonneg] at h3f
      try simp only [beq_true, beq_false, Bool.not_eq_true', Bool.not_eq_false', Bool.not_not, Bool.not_true, Bool.not_false] at bh3f
      try exact absurd bh3f (by decide)
      all_goals (
  apply T_exit
  apply K_seqE
  apply K_lpE
  apply K_blkE
  apply K_seq
  apply T_seq
  apply T_seq
  apply T_wL F [0, 1, 2, 3, 4, 5, 6, 7, 8, 9, 10, 11, 12, 13, 14, 15, 16, 17] rfl
  apply W_pre [0, 1, 2, 3, 4, 5] [6, 7, 8, 9, 10, 11, 12, 13, 14, 15, 16, 17]
  · (simp only [go_sem, Nat.reducePow, Nat.reduceLT, Nat.reduceAdd, Nat.reduceSub, Nat.reduceMul, Nat.reduceLeDiff, reduceIte, Nat.reduceEqDiff, Nat.reduceBEq, Try.ntmps3, M.walked_zero, bg0t, bg1t, bg2t, bh0f, bh1f, bh2f, ha1, hap, rI_get hap, hah, rH_get hah, bh3f, hw0, hgl, rB_get hgl, hgo]) <;> exact rfl
  apply W_guard
  · (simp only [go_sem, Nat.reducePow, Nat.reduceLT, Nat.reduceAdd, Nat.reduceSub, Nat.reduceMul, Nat.reduceLeDiff, reduceIte, Nat.reduceEqDiff, Nat.reduceBEq, Try.ntmps3, M.walked_zero, bg0t, bg1t, bg2t, bh0f, bh1f, bh2f, ha1, hap, rI_get hap, hah, rH_get hah, bh3f, hw0, hgl, rB_get hgl, hgo]) <;> exact rfl
  · (simp only [go_sem, Nat.reducePow, Nat.reduceLT, Nat.reduceAdd, Nat.reduceSub, Nat.reduceMul, Nat.reduceLeDiff, reduceIte, Nat.reduceEqDiff, Nat.reduceBEq, Try.ntmps3, M.walked_zero, bg0t, bg1t, bg2t, bh0f, bh1f, bh2f, ha1, hap, rI_get hap, hah, rH_get hah, bh3f, hw0, hgl, rB_get hgl, hgo]) <;> exact rfl
  · intro bg4t
    have g4t := bg4t
    try simp only [beq_true, beq_false, decide_eq_true_eq, decide_eq_false_iff_not, Bool.not_eq_true', Bool.not_eq_false', Bool.not_eq_true, Bool.not_eq_false, ne_eq, Int.ofNat_lt, Int.ofNat_le, beq_iff_eq, bne_iff_ne, beq_eq_false_iff_ne, bne_eq_false_iff_eq, ge_iff_le, gt_iff_lt, Bool.not_true, Bool.not_false, Decidable.not_not, Int.natCast_inj, Int.natCast_nonneg] at g4t
    try simp only [beq_true, beq_false, Bool.not_eq_true', Bool.not_eq_false', Bool.not_not, Bool.not_true, Bool.not_false] at bg4t
    try exact absurd bg4t (by decide)
    all_goals (
  apply W_pre [6, 7, 8] [9, 10, 11, 12, 13, 14, 15, 16, 17]
  · (simp only [go_sem, Nat.reducePow, Nat.reduceLT, Nat.reduceAdd, Nat.reduceSub, Nat.reduceMul, Nat.reduceLeDiff, reduceIte, Nat.reduceEqDiff, Nat.reduceBEq, Try.ntmps3, M.walked_zero, bg0t, bg1t, bg2t, bh0f, bh1f, bh2f, ha1, hap, rI_get hap, hah, rH_get hah, bh3f, hw0, hgl, rB_get hgl, hgo, bg4t]) <;> exact rfl
  apply W_call -- call 7 of function 18
  · (simp only [go_sem, Nat.reducePow, Nat.reduceLT, Nat.reduceAdd, Nat.reduceSub, Nat.reduceMul, Nat.reduceLeDiff, reduceIte, Nat.reduceEqDiff, Nat.reduceBEq, Try.ntmps3, M.walked_zero, bg0t, bg1t, bg2t, bh0f, bh1f, bh2f, ha1, hap, rI_get hap, hah, rH_get hah, bh3f, hw0, hgl, rB_get hgl, hgo, bg4t]) <;> exact rfl
  · (simp only [go_sem, Nat.reducePow, Nat.reduceLT, Nat.reduceAdd, Nat.reduceSub, Nat.reduceMul, Nat.reduceLeDiff, reduceIte, Nat.reduceEqDiff, Nat.reduceBEq, Try.ntmps3, M.walked_zero, bg0t, bg1t, bg2t, bh0f, bh1f, bh2f, ha1, hap, rI_get hap, hah, rH_get hah, bh3f, hw0, hgl, rB_get hgl, hgo, bg4t]) <;> exact rfl
  · exact rfl
  · (simp only [go_sem, Nat.reducePow, Nat.reduceLT, Nat.reduceAdd, Nat.reduceSub, Nat.reduceMul, Nat.reduceLeDiff, reduceIte, Nat.reduceEqDiff, Nat.reduceBEq, Try.ntmps3, M.walked_zero, bg0t, bg1t, bg2t, bh0f, bh1f, bh2f, ha1, hap, rI_get hap, hah, rH_get hah, bh3f, hw0, hgl, rB_get hgl, hgo, bg4t]) <;> exact rfl
  · (simp only [go_sem, Nat.reducePow, Nat.reduceLT, Nat.reduceAdd, Nat.reduceSub, Nat.reduceMul, Nat.reduceLeDiff, reduceIte, Nat.reduceEqDiff, Nat.reduceBEq, Try.ntmps3, M.walked_zero, bg0t, bg1t, bg2t, bh0f, bh1f, bh2f, ha1, hap, rI_get hap, hah, rH_get hah, bh3f, hw0, hgl, rB_get hgl, hgo, bg4t]) <;> exact rfl
  · exact ⟨_, Try.func18, rfl, rfl⟩
  · (simp only [go_sem, Nat.reducePow, Nat.reduceLT, Nat.reduceAdd, Nat.reduceSub, Nat.reduceMul, Nat.reduceLeDiff, reduceIte, Nat.reduceEqDiff, Nat.reduceBEq, Try.ntmps3, M.walked_zero, bg0t, bg1t, bg2t, bh0f, bh1f, bh2f, ha1, hap, rI_get hap, hah, rH_get hah, bh3f, hw0, hgl, rB_get hgl, hgo, bg4t]) <;> exact rfl
  · (simp only [go_sem, Nat.reducePow, Nat.reduceLT, Nat.reduceAdd, Nat.reduceSub, Nat.reduceMul, Nat.reduceLeDiff, reduceIte, Nat.reduceEqDiff, Nat.reduceBEq, Try.ntmps3, M.walked_zero, bg0t, bg1t, bg2t, bh0f, bh1f, bh2f, ha1, hap, rI_get hap, hah, rH_get hah, bh3f, hw0, hgl, rB_get hgl, hgo, bg4t]) <;> exact rfl
  · exact ref_has _ _
  apply W_pre [10, 11] [12, 13, 14, 15, 16, 17]
  · (simp only [go_sem, Nat.reducePow, Nat.reduceLT, Nat.reduceAdd, Nat.reduceSub, Nat.reduceMul, Nat.reduceLeDiff, reduceIte, Nat.reduceEqDiff, Nat.reduceBEq, Try.ntmps3, M.walked_zero, bg0t, bg1t, bg2t, bh0f, bh1f, bh2f, ha1, hap, rI_get hap, hah, rH_get hah, bh3f, hw0, hgl, rB_get hgl, hgo, bg4t]) <;> exact rfl
  apply W_guard
  · (simp only [go_sem, Nat.reducePow, Nat.reduceLT, Nat.reduceAdd, Nat.reduceSub, Nat.reduceMul, Nat.reduceLeDiff, reduceIte, Nat.reduceEqDiff, Nat.reduceBEq, Try.ntmps3, M.walked_zero, bg0t, bg1t, bg2t, bh0f, bh1f, bh2f, ha1, hap, rI_get hap, hah, rH_get hah, bh3f, hw0, hgl, rB_get hgl, hgo, bg4t]) <;> exact rfl
  · (simp only [go_sem, Nat.reducePow, Nat.reduceLT, Nat.reduceAdd, Nat.reduceSub, Nat.reduceMul, Nat.reduceLeDiff, reduceIte, Nat.reduceEqDiff, Nat.reduceBEq, Try.ntmps3, M.walked_zero, bg0t, bg1t, bg2t, bh0f, bh1f, bh2f, ha1, hap, rI_get hap, hah, rH_get hah, bh3f, hw0, hgl, rB_get hgl, hgo, bg4t]) <;> exact rfl
  · intro bg5t
    have g5t := bg5t
    try simp only [beq_true, beq_false, decide_eq_true_eq, decide_eq_false_iff_not, Bool.not_eq_true', Bool.not_eq_false', Bool.not_eq_true, Bool.not_eq_false, ne_eq, Int.ofNat_lt, Int.ofNat_le, beq_iff_eq, bne_iff_ne, beq_eq_false_iff_ne, bne_eq_false_iff_eq, ge_iff_le, gt_iff_lt, Bool.not_true, Bool.not_false, Decidable.not_not, Int.natCast_inj, Int.natCast_nonneg] at g5t
    try simp only [beq_true, beq_false, Bool.not_eq_true', Bool.not_eq_false', Bool.not_not, Bool.not_true, Bool.not_false] at bg5t
    try exact absurd bg5t (by decide)
    all_goals (
  apply W_run
  · (simp only [go_sem, Nat.reducePow, Nat.reduceLT, Nat.reduceAdd, Nat.reduceSub, Nat.reduceMul, Nat.reduceLeDiff, reduceIte, Nat.reduceEqDiff, Nat.reduceBEq, Try.ntmps3, M.walked_zero, bg0t, bg1t, bg2t, bh0f, bh1f, bh2f, ha1, hap, rI_get hap, hah, rH_get hah, bh3f, hw0, hgl, rB_get hgl, hgo, bg4t, bg5t]) <;> exact rfl
  apply W_nil
  apply K_seq
  apply T_if
  · (simp only [go_sem, Nat.reducePow, Nat.reduceLT, Nat.reduceAdd, Nat.reduceSub, Nat.reduceMul, Nat.reduceLeDiff, reduceIte, Nat.reduceEqDiff, Nat.reduceBEq, Try.ntmps3, M.walked_zero, bg0t, bg1t, bg2t, bh0f, bh1f, bh2f, ha1, hap, rI_get hap, hah, rH_get hah, bh3f, hw0, hgl, rB_get hgl, hgo, bg4t, bg5t]) <;> exact rfl
  · intro bh6t
    have h6t := bh6t
    try simp only [beq_true, beq_false, decide_eq_true_eq, decide_eq_false_iff_not, Bool.not_eq_true', Bool.not_eq_false', Bool.not_eq_true, Bool.not_eq_false, ne_eq, Int.ofNat_lt, Int.ofNat_le, beq_iff_eq, bne_iff_ne, beq_eq_false_iff_ne, bne_eq_false_iff_eq, ge_iff_le, gt_iff_lt, Bool.not_true, Bool.not_false, Decidable.not_not, Int.natCast_inj, Int.natCast_nonneg] at h6t
    try simp only [beq_true, beq_false, Bool.not_eq_true', Bool.not_eq_false', Bool.not_not, Bool.not_true, Bool.not_false] at bh6t
    try exact absurd bh6t (by decide)
    all_goals (
  apply T_seq
  apply T_r F
  · (simp only [go_sem, Nat.reducePow, Nat.reduceLT, Nat.reduceAdd, Nat.reduceSub, Nat.reduceMul, Nat.reduceLeDiff, reduceIte, Nat.reduceEqDiff, Nat.reduceBEq, Try.ntmps3, M.walked_zero, bg0t, bg1t, bg2t, bh0f, bh1f, bh2f, ha1, hap, rI_get hap, hah, rH_get hah, bh3f, hw0, hgl, rB_get hgl, hgo, bg4t, bg5t, bh6t]) <;> exact rfl
  apply K_seq
  apply T_ret
  apply K_seqR
  apply fin_ret
  · (simp only [go_sem, Nat.reducePow, Nat.reduceLT, Nat.reduceAdd, Nat.reduceSub, Nat.reduceMul, Nat.reduceLeDiff, reduceIte, Nat.reduceEqDiff, Nat.reduceBEq, Try.ntmps3, M.walked_zero, bg0t, bg1t, bg2t, bh0f, bh1f, bh2f, ha1, hap, rI_get hap, hah, rH_get hah, bh3f, hw0, hgl, rB_get hgl, hgo, bg4t, bg5t, bh6t, Try.f3]) <;> exact rfl
  -- leaf 6 (ret)
  simp only [go_sem, Nat.reducePow, Nat.reduceLT, Nat.reduceAdd, Nat.reduceSub, Nat.reduceMul, Nat.reduceLeDiff, reduceIte, Nat.reduceEqDiff, Nat.reduceBEq, Try.ntmps3, M.walked_zero, bg0t, bg1t, bg2t, bh0f, bh1f, bh2f, ha1, hap, rI_get hap, hah, rH_get hah, bh3f, hw0, hgl, rB_get hgl, hgo, bg4t, bg5t, bh6t, V.bool.injEq, V.int.injEq, true_and]
  all_goals grind)
  · intro bh6f
    have h6f := bh6f
    try simp only [beq_true, beq_false, decide_eq_true_eq, decide_eq_false_iff_not, Bool.not_eq_true', Bool.not_eq_false', Bool.not_eq_true, Bool.not_eq_false, ne_eq, Int.ofNat_lt, Int.ofNat_le, beq_iff_eq, bne_iff_ne, beq_eq_false_iff_ne, bne_eq_false_iff_eq, ge_iff_le, gt_iff_lt, Bool.not_true, Bool.not_false, Decidable.not_not, Int.natCast_inj, Int.natCast_nonneg] at h6f
    try simp only [beq_true, beq_false, Bool.not_eq_true', Bool.not_eq_false', Bool.not_not, Bool.not_true, Bool.not_false] at bh6f
    try exact absurd bh6f (by decide)
    all_goals (
  apply T_skip
  apply K_seq
  apply T_seq
  apply T_r F
  · (simp only [go_sem, Nat.reducePow, Nat.reduceLT, Nat.reduceAdd, Nat.reduceSub, Nat.reduceMul, Nat.reduceLeDiff, reduceIte, Nat.reduceEqDiff, Nat.reduceBEq, Try.ntmps3, M.walked_zero, bg0t, bg1t, bg2t, bh0f, bh1f, bh2f, ha1, hap, rI_get hap, hah, rH_get hah, bh3f, hw0, hgl, rB_get hgl, hgo, bg4t, bg5t, bh6f]) <;> exact rfl
  apply K_seq
  apply T_seq
  apply T_seq
  apply T_r F
  · (simp only [go_sem, Nat.reducePow, Nat.reduceLT, Nat.reduceAdd, Nat.reduceSub, Nat.reduceMul, Nat.reduceLeDiff, reduceIte, Nat.reduceEqDiff, Nat.reduceBEq, Try.ntmps3, M.walked_zero, bg0t, bg1t, bg2t, bh0f, bh1f, bh2f, ha1, hap, rI_get hap, hah, rH_get hah, bh3f, hw0, hgl, rB_get hgl, hgo, bg4t, bg5t, bh6f]) <;> exact rfl
  apply K_seq
  apply T_block
  apply T_lp (α := Nat) [false, true, false, true, true, false, false, false, false, false, false, true, false, false, true, true, false, false, false, false, false, false, false, false, false, false, false, false, false, false, false, false, false, false, false, false, false, false, false, false, false, false, false, false, false, false, false, false, false, false, false, false, false, false, false, false, false, false, false, false, false, false, false, false, false, false, false, false, false, false, false, false, false, false, false, false, false, false, false, false, false, false, false, false, false, false, false, false, false, false, false, false, false, false, false, false, false, false, false, false, false, false, false, false, false, false, false, false, false, false, false, false, false, false, false, false, false, false, false, false, false, false, false, false, false, false, false, false, false, false, false, false, false, false, false, false, false, false, false, false, false, false, false, false, false, false, false, false, false, false, false, false, false, false, false, false, false, false, false, false, false, false, false, false, false, false, false] (fun j => (⟨[.undef, .sl 1 (rI p), .undef, .int .i64 b, .ptr 0 0, .undef, .undef, .undef, .undef, .undef, .undef, .int .i64 p[a.toNat], .undef, .undef, .bool (M.walked t p[a.toNat] t.houses[a.toNat].school j), .int .i64 (j : Int), .undef, .undef, .undef, .undef, .undef, .undef, .undef, .undef, .undef, .undef, .undef, .undef, .undef, .undef, .undef, .undef, .undef, .undef, .undef, .undef, .undef, .undef, .undef, .undef, .undef, .undef, .undef, .undef, .undef, .undef, .undef, .undef, .undef, .undef, .undef, .undef, .undef, .undef, .undef, .undef, .undef, .undef, .undef, .undef, .undef, .undef, .undef, .undef, .undef, .undef, .undef, .undef, .undef, .undef, .undef, .undef, .undef, .undef, .undef, .undef, .undef, .undef, .undef, .undef, .undef, .undef, .undef, .undef, .undef, .undef, .undef, .undef, .undef, .undef, .undef, .undef, .undef, .undef, .undef, .undef, .undef, .undef, .undef, .undef, .undef, .undef, .undef, .undef, .undef, .undef, .undef, .undef, .undef, .undef, .undef, .undef, .undef, .undef, .undef, .undef, .undef, .undef, .undef, .undef, .undef, .undef, .undef, .undef, .undef, .undef, .undef, .undef, .undef, .undef, .undef, .undef, .undef, .undef, .undef, .undef, .undef, .undef, .undef, .undef, .undef, .undef, .undef, .undef, .undef, .undef, .undef, .undef, .undef, .undef, .undef, .undef, .undef, .undef, .undef, .undef, .undef, .undef, .undef, .undef, .undef, .undef, .undef, .undef, .undef, .undef, .undef], [.box 28 (cT t), .box 35 [.int .i64 (M.fault t p).1, .int .i64 (M.fault t p).2], .box 40 [.int .i64 t.houses[a.toNat].lot, .sl 1 (rI t.houses[a.toNat].wishes), .bool t.houses[a.toNat].school]]⟩ : St)) (fun j => j ≤ t.schools.length) (fun j => t.schools.length - j) (0)
  · (simp only [go_sem, Nat.reducePow, Nat.reduceLT, Nat.reduceAdd, Nat.reduceSub, Nat.reduceMul, Nat.reduceLeDiff, reduceIte, Nat.reduceEqDiff, Nat.reduceBEq, Try.ntmps3, M.walked_zero, bg0t, bg1t, bg2t, bh0f, bh1f, bh2f, ha1, hap, rI_get hap, hah, rH_get hah, bh3f, hw0, hgl, rB_get hgl, hgo, bg4t, bg5t, bh6f]) <;> exact rfl
  · exact Nat.zero_le _
  · rintro j hj
    apply T_seq
    apply T_seq
    apply T_r F
    · (simp only [go_sem, Nat.reducePow, Nat.reduceLT, Nat.reduceAdd, Nat.reduceSub, Nat.reduceMul, Nat.reduceLeDiff, reduceIte, Nat.reduceEqDiff, Nat.reduceBEq, Try.ntmps3, M.walked_zero, bg0t, bg1t, bg2t, bh0f, bh1f, bh2f, ha1, hap, rI_get hap, hah, rH_get hah, bh3f, hw0, hgl, rB_get hgl, hgo, bg4t, bg5t, bh6f]) <;> exact rfl
    apply K_seq
    apply T_if
    · (simp only [go_sem, Nat.reducePow, Nat.reduceLT, Nat.reduceAdd, Nat.reduceSub, Nat.reduceMul, Nat.reduceLeDiff, reduceIte, Nat.reduceEqDiff, Nat.reduceBEq, Try.ntmps3, M.walked_zero, bg0t, bg1t, bg2t, bh0f, bh1f, bh2f, ha1, hap, rI_get hap, hah, rH_get hah, bh3f, hw0, hgl, rB_get hgl, hgo, bg4t, bg5t, bh6f]) <;> exact rfl
    · intro bh7t
      have h7t := bh7t
      try simp only [beq_true, beq_false, decide_eq_true_eq, decide_eq_false_iff_not, Bool.not_eq_true', Bool.not_eq_false', Bool.not_eq_true, Bool.not_eq_false, ne_eq, Int.ofNat_lt, Int.ofNat_le, beq_iff_eq, bne_iff_ne, beq_eq_false_iff_ne, bne_eq_false_iff_eq, ge_iff_le, gt_iff_lt, Bool.not_true, Bool.not_false, Decidable.not_not, Int.natCast_inj, Int.natCast_nonneg] at h7t
      try simp only [beq_true, beq_false, Bool.not_eq_true', Bool.not_eq_false', Bool.not_not, Bool.not_true, Bool.not_false] at bh7t
      try exact absurd bh7t (by decide)
      all_goals (
  have hbj : j < 9223372036854775807 := by omega
  have hsl := M.lot_iff.1 (ok.school (List.getElem_mem h7t))
  have s0 : 0 ≤ t.schools[j] := hsl.1
  have s1 : (t.schools[j]).toNat < (t.walk[(p[a.toNat]).toNat]).length := by rw [ok.square hw1]; omega
  have hst := M.walked_step (n := p[a.toNat]) (b := t.houses[a.toNat].school) h7t
  rw [M.near, M.dist_get hw1 s1] at hst
  apply T_skip
  apply K_seq
  apply T_seq
  apply T_block
  apply T_qL F [0, 1, 2, 3, 4, 5, 6, 7, 8, 9, 10, 11, 12, 13, 14, 15, 16, 17, 18] rfl (by kernel_rfl)
  apply Q_pre [0, 1] [2, 3, 4, 5, 6, 7, 8, 9, 10, 11, 12, 13, 14, 15, 16, 17, 18]
  · (simp only [go_sem, Nat.reducePow, Nat.reduceLT, Nat.reduceAdd, Nat.reduceSub, Nat.reduceMul, Nat.reduceLeDiff, reduceIte, Nat.reduceEqDiff, Nat.reduceBEq, Try.ntmps3, M.walked_zero, bg0t, bg1t, bg2t, bh0f, bh1f, bh2f, ha1, hap, rI_get hap, hah, rH_get hah, bh3f, hw0, hgl, rB_get hgl, hgo, bg4t, bg5t, bh6f, bh7t, h7t, rI_get h7t, s0, s1, rL_get hw1, rI_get s1, hw1, hbj]) <;> exact rfl
  apply Q_guard
  · (simp only [go_sem, Nat.reducePow, Nat.reduceLT, Nat.reduceAdd, Nat.reduceSub, Nat.reduceMul, Nat.reduceLeDiff, reduceIte, Nat.reduceEqDiff, Nat.reduceBEq, Try.ntmps3, M.walked_zero, bg0t, bg1t, bg2t, bh0f, bh1f, bh2f, ha1, hap, rI_get hap, hah, rH_get hah, bh3f, hw0, hgl, rB_get hgl, hgo, bg4t, bg5t, bh6f, bh7t, h7t, rI_get h7t, s0, s1, rL_get hw1, rI_get s1, hw1, hbj]) <;> exact rfl
  · (simp only [go_sem, Nat.reducePow, Nat.reduceLT, Nat.reduceAdd, Nat.reduceSub, Nat.reduceMul, Nat.reduceLeDiff, reduceIte, Nat.reduceEqDiff, Nat.reduceBEq, Try.ntmps3, M.walked_zero, bg0t, bg1t, bg2t, bh0f, bh1f, bh2f, ha1, hap, rI_get hap, hah, rH_get hah, bh3f, hw0, hgl, rB_get hgl, hgo, bg4t, bg5t, bh6f, bh7t, h7t, rI_get h7t, s0, s1, rL_get hw1, rI_get s1, hw1, hbj]) <;> exact rfl
  · intro bg6t
    have g6t := bg6t
    try simp only [beq_true, beq_false, decide_eq_true_eq, decide_eq_false_iff_not, Bool.not_eq_true', Bool.not_eq_false', Bool.not_eq_true, Bool.not_eq_false, ne_eq, Int.ofNat_lt, Int.ofNat_le, beq_iff_eq, bne_iff_ne, beq_eq_false_iff_ne, bne_eq_false_iff_eq, ge_iff_le, gt_iff_lt, Bool.not_true, Bool.not_false, Decidable.not_not, Int.natCast_inj, Int.natCast_nonneg] at g6t
    try simp only [beq_true, beq_false, Bool.not_eq_true', Bool.not_eq_false', Bool.not_not, Bool.not_true, Bool.not_false] at bg6t
    try exact absurd bg6t (by decide)
    all_goals (
  rw [bg6t, Bool.false_or] at hst
  apply Q_pre [2, 3, 4, 5] [6, 7, 8, 9, 10, 11, 12, 13, 14, 15, 16, 17, 18]
  · (simp only [go_sem, Nat.reducePow, Nat.reduceLT, Nat.reduceAdd, Nat.reduceSub, Nat.reduceMul, Nat.reduceLeDiff, reduceIte, Nat.reduceEqDiff, Nat.reduceBEq, Try.ntmps3, M.walked_zero, bg0t, bg1t, bg2t, bh0f, bh1f, bh2f, ha1, hap, rI_get hap, hah, rH_get hah, bh3f, hw0, hgl, rB_get hgl, hgo, bg4t, bg5t, bh6f, bh7t, h7t, rI_get h7t, s0, s1, rL_get hw1, rI_get s1, hw1, hbj, bg6t, hst]) <;> exact rfl
  apply Q_pre [6, 7, 8, 9] [10, 11, 12, 13, 14, 15, 16, 17, 18]
  · (simp only [go_sem, Nat.reducePow, Nat.reduceLT, Nat.reduceAdd, Nat.reduceSub, Nat.reduceMul, Nat.reduceLeDiff, reduceIte, Nat.reduceEqDiff, Nat.reduceBEq, Try.ntmps3, M.walked_zero, bg0t, bg1t, bg2t, bh0f, bh1f, bh2f, ha1, hap, rI_get hap, hah, rH_get hah, bh3f, hw0, hgl, rB_get hgl, hgo, bg4t, bg5t, bh6f, bh7t, h7t, rI_get h7t, s0, s1, rL_get hw1, rI_get s1, hw1, hbj, bg6t, hst]) <;> exact rfl
  apply Q_pre [10, 11, 12, 13] [14, 15, 16, 17, 18]
  · (simp only [go_sem, Nat.reducePow, Nat.reduceLT, Nat.reduceAdd, Nat.reduceSub, Nat.reduceMul, Nat.reduceLeDiff, reduceIte, Nat.reduceEqDiff, Nat.reduceBEq, Try.ntmps3, M.walked_zero, bg0t, bg1t, bg2t, bh0f, bh1f, bh2f, ha1, hap, rI_get hap, hah, rH_get hah, bh3f, hw0, hgl, rB_get hgl, hgo, bg4t, bg5t, bh6f, bh7t, h7t, rI_get h7t, s0, s1, rL_get hw1, rI_get s1, hw1, hbj, bg6t, hst]) <;> exact rfl
  apply Q_run
  · (simp only [go_sem, Nat.reducePow, Nat.reduceLT, Nat.reduceAdd, Nat.reduceSub, Nat.reduceMul, Nat.reduceLeDiff, reduceIte, Nat.reduceEqDiff, Nat.reduceBEq, Try.ntmps3, M.walked_zero, bg0t, bg1t, bg2t, bh0f, bh1f, bh2f, ha1, hap, rI_get hap, hah, rH_get hah, bh3f, hw0, hgl, rB_get hgl, hgo, bg4t, bg5t, bh6f, bh7t, h7t, rI_get h7t, s0, s1, rL_get hw1, rI_get s1, hw1, hbj, bg6t, hst]) <;> exact rfl
  apply Q_nil
  apply K_blk
  apply K_seq
  apply T_r F
  · (simp only [go_sem, Nat.reducePow, Nat.reduceLT, Nat.reduceAdd, Nat.reduceSub, Nat.reduceMul, Nat.reduceLeDiff, reduceIte, Nat.reduceEqDiff, Nat.reduceBEq, Try.ntmps3, M.walked_zero, bg0t, bg1t, bg2t, bh0f, bh1f, bh2f, ha1, hap, rI_get hap, hah, rH_get hah, bh3f, hw0, hgl, rB_get hgl, hgo, bg4t, bg5t, bh6f, bh7t, h7t, rI_get h7t, s0, s1, rL_get hw1, rI_get s1, hw1, hbj, bg6t, hst]) <;> exact rfl
  refine K_lp (j + 1) ?_ ?_
  · (simp only [go_sem, Nat.reducePow, Nat.reduceLT, Nat.reduceAdd, Nat.reduceSub, Nat.reduceMul, Nat.reduceLeDiff, reduceIte, Nat.reduceEqDiff, Nat.reduceBEq, Try.ntmps3, M.walked_zero, bg0t, bg1t, bg2t, bh0f, bh1f, bh2f, ha1, hap, rI_get hap, hah, rH_get hah, bh3f, hw0, hgl, rB_get hgl, hgo, bg4t, bg5t, bh6f, bh7t, h7t, rI_get h7t, s0, s1, rL_get hw1, rI_get s1, hw1, hbj, bg6t, hst]) <;> exact rfl
  -- leaf 7 (loop1)
  all_goals grind)
  · intro bg6f
    have g6f := bg6f
    try simp only [beq_true, beq_false, decide_eq_true_eq, decide_eq_false_iff_not, Bool.not_eq_true', Bool.not_eq_false', Bool.not_eq_true, Bool.not_eq_false, ne_eq, Int.ofNat_lt, Int.ofNat_le, beq_iff_eq, bne_iff_ne, beq_eq_false_iff_ne, bne_eq_false_iff_eq, ge_iff_le, gt_iff_lt, Bool.not_true, Bool.not_false, Decidable.not_not, Int.natCast_inj, Int.natCast_nonneg] at g6f
    try simp only [beq_true, beq_false, Bool.not_eq_true', Bool.not_eq_false', Bool.not_not, Bool.not_true, Bool.not_false] at bg6f
    try exact absurd bg6f (by decide)
    all_goals (
  rw [bg6f, Bool.true_or] at hst
  apply Q_pre [2, 3, 4, 5] [6, 7, 8, 9, 10, 11, 12, 13, 14, 15, 16, 17, 18]
  · (simp only [go_sem, Nat.reducePow, Nat.reduceLT, Nat.reduceAdd, Nat.reduceSub, Nat.reduceMul, Nat.reduceLeDiff, reduceIte, Nat.reduceEqDiff, Nat.reduceBEq, Try.ntmps3, M.walked_zero, bg0t, bg1t, bg2t, bh0f, bh1f, bh2f, ha1, hap, rI_get hap, hah, rH_get hah, bh3f, hw0, hgl, rB_get hgl, hgo, bg4t, bg5t, bh6f, bh7t, h7t, rI_get h7t, s0, s1, rL_get hw1, rI_get s1, hw1, hbj, bg6f, hst]) <;> exact rfl
  apply Q_pre [6, 7, 8, 9] [10, 11, 12, 13, 14, 15, 16, 17, 18]
  · (simp only [go_sem, Nat.reducePow, Nat.reduceLT, Nat.reduceAdd, Nat.reduceSub, Nat.reduceMul, Nat.reduceLeDiff, reduceIte, Nat.reduceEqDiff, Nat.reduceBEq, Try.ntmps3, M.walked_zero, bg0t, bg1t, bg2t, bh0f, bh1f, bh2f, ha1, hap, rI_get hap, hah, rH_get hah, bh3f, hw0, hgl, rB_get hgl, hgo, bg4t, bg5t, bh6f, bh7t, h7t, rI_get h7t, s0, s1, rL_get hw1, rI_get s1, hw1, hbj, bg6f, hst]) <;> exact rfl
  apply Q_pre [10, 11, 12, 13] [14, 15, 16, 17, 18]
  · (simp only [go_sem, Nat.reducePow, Nat.reduceLT, Nat.reduceAdd, Nat.reduceSub, Nat.reduceMul, Nat.reduceLeDiff, reduceIte, Nat.reduceEqDiff, Nat.reduceBEq, Try.ntmps3, M.walked_zero, bg0t, bg1t, bg2t, bh0f, bh1f, bh2f, ha1, hap, rI_get hap, hah, rH_get hah, bh3f, hw0, hgl, rB_get hgl, hgo, bg4t, bg5t, bh6f, bh7t, h7t, rI_get h7t, s0, s1, rL_get hw1, rI_get s1, hw1, hbj, bg6f, hst]) <;> exact rfl
  apply Q_run
  · (simp only [go_sem, Nat.reducePow, Nat.reduceLT, Nat.reduceAdd, Nat.reduceSub, Nat.reduceMul, Nat.reduceLeDiff, reduceIte, Nat.reduceEqDiff, Nat.reduceBEq, Try.ntmps3, M.walked_zero, bg0t, bg1t, bg2t, bh0f, bh1f, bh2f, ha1, hap, rI_get hap, hah, rH_get hah, bh3f, hw0, hgl, rB_get hgl, hgo, bg4t, bg5t, bh6f, bh7t, h7t, rI_get h7t, s0, s1, rL_get hw1, rI_get s1, hw1, hbj, bg6f, hst]) <;> exact rfl
  apply Q_nil
  apply K_blk
  apply K_seq
  apply T_r F
  · (simp only [go_sem, Nat.reducePow, Nat.reduceLT, Nat.reduceAdd, Nat.reduceSub, Nat.reduceMul, Nat.reduceLeDiff, reduceIte, Nat.reduceEqDiff, Nat.reduceBEq, Try.ntmps3, M.walked_zero, bg0t, bg1t, bg2t, bh0f, bh1f, bh2f, ha1, hap, rI_get hap, hah, rH_get hah, bh3f, hw0, hgl, rB_get hgl, hgo, bg4t, bg5t, bh6f, bh7t, h7t, rI_get h7t, s0, s1, rL_get hw1, rI_get s1, hw1, hbj, bg6f, hst]) <;> exact rfl
  refine K_lp (j + 1) ?_ ?_
  · (simp only [go_sem, Nat.reducePow, Nat.reduceLT, Nat.reduceAdd, Nat.reduceSub, Nat.reduceMul, Nat.reduceLeDiff, reduceIte, Nat.reduceEqDiff, Nat.reduceBEq, Try.ntmps3, M.walked_zero, bg0t, bg1t, bg2t, bh0f, bh1f, bh2f, ha1, hap, rI_get hap, hah, rH_get hah, bh3f, hw0, hgl, rB_get hgl, hgo, bg4t, bg5t, bh6f, bh7t, h7t, rI_get h7t, s0, s1, rL_get hw1, rI_get s1, hw1, hbj, bg6f, hst]) <;> exact rfl
  -- leaf 8 (loop1)
  all_goals grind))
    · intro bh7f
      have h7f := bh7f
      try simp only [beq_true, beq_false, decide_eq_true_eq, decide_eq_false_iff_not, Bool.not_eq_true', Bool.not_eq_false', Bool.not_eq_true, Bool.not_eq_false, ne_eq, Int.ofNat_lt, Int.ofNat_le, beq_iff_eq, bne_iff_ne, beq_eq_false_iff_ne, bne_eq_false_iff_eq, ge_iff_le, gt_iff_lt, Bool.not_true, Bool.not_false, Decidable.not_not, Int.natCast_inj, Int.natCast_nonneg] at h7f
      try simp only [beq_true, beq_false, Bool.not_eq_true', Bool.not_eq_false', Bool.not_not, Bool.not_true, Bool.not_false] at bh7f
      try exact absurd bh7f (by decide)
      all_goals (
  have hT := M.walked_all ok hla h7f hut
  apply T_exit
  apply K_seqE
  apply K_lpE
  apply K_blkE
  apply K_seq
  apply T_seq
  apply T_seq
  apply T_wL F [0, 1, 2, 3, 4, 5, 6, 7, 8] rfl
  apply W_pre [0, 1, 2] [3, 4, 5, 6, 7, 8]
  · (simp only [go_sem, Nat.reducePow, Nat.reduceLT, Nat.reduceAdd, Nat.reduceSub, Nat.reduceMul, Nat.reduceLeDiff, reduceIte, Nat.reduceEqDiff, Nat.reduceBEq, Try.ntmps3, M.walked_zero, bg0t, bg1t, bg2t, bh0f, bh1f, bh2f, ha1, hap, rI_get hap, hah, rH_get hah, bh3f, hw0, hgl, rB_get hgl, hgo, bg4t, bg5t, bh6f, bh7f, hT]) <;> exact rfl
  apply W_guard
  · (simp only [go_sem, Nat.reducePow, Nat.reduceLT, Nat.reduceAdd, Nat.reduceSub, Nat.reduceMul, Nat.reduceLeDiff, reduceIte, Nat.reduceEqDiff, Nat.reduceBEq, Try.ntmps3, M.walked_zero, bg0t, bg1t, bg2t, bh0f, bh1f, bh2f, ha1, hap, rI_get hap, hah, rH_get hah, bh3f, hw0, hgl, rB_get hgl, hgo, bg4t, bg5t, bh6f, bh7f, hT]) <;> exact rfl
  · (simp only [go_sem, Nat.reducePow, Nat.reduceLT, Nat.reduceAdd, Nat.reduceSub, Nat.reduceMul, Nat.reduceLeDiff, reduceIte, Nat.reduceEqDiff, Nat.reduceBEq, Try.ntmps3, M.walked_zero, bg0t, bg1t, bg2t, bh0f, bh1f, bh2f, ha1, hap, rI_get hap, hah, rH_get hah, bh3f, hw0, hgl, rB_get hgl, hgo, bg4t, bg5t, bh6f, bh7f, hT]) <;> exact rfl
  · intro bg7t
    have g7t := bg7t
    try simp only [beq_true, beq_false, decide_eq_true_eq, decide_eq_false_iff_not, Bool.not_eq_true', Bool.not_eq_false', Bool.not_eq_true, Bool.not_eq_false, ne_eq, Int.ofNat_lt, Int.ofNat_le, beq_iff_eq, bne_iff_ne, beq_eq_false_iff_ne, bne_eq_false_iff_eq, ge_iff_le, gt_iff_lt, Bool.not_true, Bool.not_false, Decidable.not_not, Int.natCast_inj, Int.natCast_nonneg] at g7t
    try simp only [beq_true, beq_false, Bool.not_eq_true', Bool.not_eq_false', Bool.not_not, Bool.not_true, Bool.not_false] at bg7t
    try exact absurd bg7t (by decide)
    all_goals (
  apply W_run
  · (simp only [go_sem, Nat.reducePow, Nat.reduceLT, Nat.reduceAdd, Nat.reduceSub, Nat.reduceMul, Nat.reduceLeDiff, reduceIte, Nat.reduceEqDiff, Nat.reduceBEq, Try.ntmps3, M.walked_zero, bg0t, bg1t, bg2t, bh0f, bh1f, bh2f, ha1, hap, rI_get hap, hah, rH_get hah, bh3f, hw0, hgl, rB_get hgl, hgo, bg4t, bg5t, bh6f, bh7f, hT, bg7t]) <;> exact rfl
  apply W_nil
  apply K_seq
  apply T_if
  · (simp only [go_sem, Nat.reducePow, Nat.reduceLT, Nat.reduceAdd, Nat.reduceSub, Nat.reduceMul, Nat.reduceLeDiff, reduceIte, Nat.reduceEqDiff, Nat.reduceBEq, Try.ntmps3, M.walked_zero, bg0t, bg1t, bg2t, bh0f, bh1f, bh2f, ha1, hap, rI_get hap, hah, rH_get hah, bh3f, hw0, hgl, rB_get hgl, hgo, bg4t, bg5t, bh6f, bh7f, hT, bg7t]) <;> exact rfl
  · intro bh8t
    have h8t := bh8t
    try simp only [beq_true, beq_false, decide_eq_true_eq, decide_eq_false_iff_not, Bool.not_eq_true', Bool.not_eq_false', Bool.not_eq_true, Bool.not_eq_false, ne_eq, Int.ofNat_lt, Int.ofNat_le, beq_iff_eq, bne_iff_ne, beq_eq_false_iff_ne, bne_eq_false_iff_eq, ge_iff_le, gt_iff_lt, Bool.not_true, Bool.not_false, Decidable.not_not, Int.natCast_inj, Int.natCast_nonneg] at h8t
    try simp only [beq_true, beq_false, Bool.not_eq_true', Bool.not_eq_false', Bool.not_not, Bool.not_true, Bool.not_false] at bh8t
    try exact absurd bh8t (by decide)
    all_goals (
  apply T_seq
  apply T_wL F [0, 1, 2, 3, 4] rfl
  apply W_pre [0, 1] [2, 3, 4]
  · (simp only [go_sem, Nat.reducePow, Nat.reduceLT, Nat.reduceAdd, Nat.reduceSub, Nat.reduceMul, Nat.reduceLeDiff, reduceIte, Nat.reduceEqDiff, Nat.reduceBEq, Try.ntmps3, M.walked_zero, bg0t, bg1t, bg2t, bh0f, bh1f, bh2f, ha1, hap, rI_get hap, hah, rH_get hah, bh3f, hw0, hgl, rB_get hgl, hgo, bg4t, bg5t, bh6f, bh7f, hT, bg7t, bh8t]) <;> exact rfl
  apply W_guard
  · (simp only [go_sem, Nat.reducePow, Nat.reduceLT, Nat.reduceAdd, Nat.reduceSub, Nat.reduceMul, Nat.reduceLeDiff, reduceIte, Nat.reduceEqDiff, Nat.reduceBEq, Try.ntmps3, M.walked_zero, bg0t, bg1t, bg2t, bh0f, bh1f, bh2f, ha1, hap, rI_get hap, hah, rH_get hah, bh3f, hw0, hgl, rB_get hgl, hgo, bg4t, bg5t, bh6f, bh7f, hT, bg7t, bh8t]) <;> exact rfl
  · (simp only [go_sem, Nat.reducePow, Nat.reduceLT, Nat.reduceAdd, Nat.reduceSub, Nat.reduceMul, Nat.reduceLeDiff, reduceIte, Nat.reduceEqDiff, Nat.reduceBEq, Try.ntmps3, M.walked_zero, bg0t, bg1t, bg2t, bh0f, bh1f, bh2f, ha1, hap, rI_get hap, hah, rH_get hah, bh3f, hw0, hgl, rB_get hgl, hgo, bg4t, bg5t, bh6f, bh7f, hT, bg7t, bh8t]) <;> exact rfl
  · intro bg8t
    have g8t := bg8t
    try simp only [beq_true, beq_false, decide_eq_true_eq, decide_eq_false_iff_not, Bool.not_eq_true', Bool.not_eq_false', Bool.not_eq_true, Bool.not_eq_false, ne_eq, Int.ofNat_lt, Int.ofNat_le, beq_iff_eq, bne_iff_ne, beq_eq_false_iff_ne, bne_eq_false_iff_eq, ge_iff_le, gt_iff_lt, Bool.not_true, Bool.not_false, Decidable.not_not, Int.natCast_inj, Int.natCast_nonneg] at g8t
    try simp only [beq_true, beq_false, Bool.not_eq_true', Bool.not_eq_false', Bool.not_not, Bool.not_true, Bool.not_false] at bg8t
    try exact absurd bg8t (by decide)
    all_goals (
  apply W_call -- call 8 of function 16
  · (simp only [go_sem, Nat.reducePow, Nat.reduceLT, Nat.reduceAdd, Nat.reduceSub, Nat.reduceMul, Nat.reduceLeDiff, reduceIte, Nat.reduceEqDiff, Nat.reduceBEq, Try.ntmps3, M.walked_zero, bg0t, bg1t, bg2t, bh0f, bh1f, bh2f, ha1, hap, rI_get hap, hah, rH_get hah, bh3f, hw0, hgl, rB_get hgl, hgo, bg4t, bg5t, bh6f, bh7f, hT, bg7t, bh8t, bg8t]) <;> exact rfl
  · (simp only [go_sem, Nat.reducePow, Nat.reduceLT, Nat.reduceAdd, Nat.reduceSub, Nat.reduceMul, Nat.reduceLeDiff, reduceIte, Nat.reduceEqDiff, Nat.reduceBEq, Try.ntmps3, M.walked_zero, bg0t, bg1t, bg2t, bh0f, bh1f, bh2f, ha1, hap, rI_get hap, hah, rH_get hah, bh3f, hw0, hgl, rB_get hgl, hgo, bg4t, bg5t, bh6f, bh7f, hT, bg7t, bh8t, bg8t]) <;> exact rfl
  · exact rfl
  · (simp only [go_sem, Nat.reducePow, Nat.reduceLT, Nat.reduceAdd, Nat.reduceSub, Nat.reduceMul, Nat.reduceLeDiff, reduceIte, Nat.reduceEqDiff, Nat.reduceBEq, Try.ntmps3, M.walked_zero, bg0t, bg1t, bg2t, bh0f, bh1f, bh2f, ha1, hap, rI_get hap, hah, rH_get hah, bh3f, hw0, hgl, rB_get hgl, hgo, bg4t, bg5t, bh6f, bh7f, hT, bg7t, bh8t, bg8t]) <;> exact rfl
  · (simp only [go_sem, Nat.reducePow, Nat.reduceLT, Nat.reduceAdd, Nat.reduceSub, Nat.reduceMul, Nat.reduceLeDiff, reduceIte, Nat.reduceEqDiff, Nat.reduceBEq, Try.ntmps3, M.walked_zero, bg0t, bg1t, bg2t, bh0f, bh1f, bh2f, ha1, hap, rI_get hap, hah, rH_get hah, bh3f, hw0, hgl, rB_get hgl, hgo, bg4t, bg5t, bh6f, bh7f, hT, bg7t, bh8t, bg8t]) <;> exact rfl
  · exact ⟨_, Try.func16, rfl, rfl⟩
  · (simp only [go_sem, Nat.reducePow, Nat.reduceLT, Nat.reduceAdd, Nat.reduceSub, Nat.reduceMul, Nat.reduceLeDiff, reduceIte, Nat.reduceEqDiff, Nat.reduceBEq, Try.ntmps3, M.walked_zero, bg0t, bg1t, bg2t, bh0f, bh1f, bh2f, ha1, hap, rI_get hap, hah, rH_get hah, bh3f, hw0, hgl, rB_get hgl, hgo, bg4t, bg5t, bh6f, bh7f, hT, bg7t, bh8t, bg8t]) <;> exact rfl
  · (simp only [go_sem, Nat.reducePow, Nat.reduceLT, Nat.reduceAdd, Nat.reduceSub, Nat.reduceMul, Nat.reduceLeDiff, reduceIte, Nat.reduceEqDiff, Nat.reduceBEq, Try.ntmps3, M.walked_zero, bg0t, bg1t, bg2t, bh0f, bh1f, bh2f, ha1, hap, rI_get hap, hah, rH_get hah, bh3f, hw0, hgl, rB_get hgl, hgo, bg4t, bg5t, bh6f, bh7f, hT, bg7t, bh8t, bg8t]) <;> exact rfl
  · exact known_ok
  apply W_run
  · (simp only [go_sem, Nat.reducePow, Nat.reduceLT, Nat.reduceAdd, Nat.reduceSub, Nat.reduceMul, Nat.reduceLeDiff, reduceIte, Nat.reduceEqDiff, Nat.reduceBEq, Try.ntmps3, M.walked_zero, bg0t, bg1t, bg2t, bh0f, bh1f, bh2f, ha1, hap, rI_get hap, hah, rH_get hah, bh3f, hw0, hgl, rB_get hgl, hgo, bg4t, bg5t, bh6f, bh7f, hT, bg7t, bh8t, bg8t]) <;> exact rfl
  apply W_nil
  apply K_seq
  apply T_ret
  apply K_seqR
  apply fin_ret
  · (simp only [go_sem, Nat.reducePow, Nat.reduceLT, Nat.reduceAdd, Nat.reduceSub, Nat.reduceMul, Nat.reduceLeDiff, reduceIte, Nat.reduceEqDiff, Nat.reduceBEq, Try.ntmps3, M.walked_zero, bg0t, bg1t, bg2t, bh0f, bh1f, bh2f, ha1, hap, rI_get hap, hah, rH_get hah, bh3f, hw0, hgl, rB_get hgl, hgo, bg4t, bg5t, bh6f, bh7f, hT, bg7t, bh8t, bg8t, Try.f3]) <;> exact rfl
  -- leaf 9 (ret)
  simp only [go_sem, Nat.reducePow, Nat.reduceLT, Nat.reduceAdd, Nat.reduceSub, Nat.reduceMul, Nat.reduceLeDiff, reduceIte, Nat.reduceEqDiff, Nat.reduceBEq, Try.ntmps3, M.walked_zero, bg0t, bg1t, bg2t, bh0f, bh1f, bh2f, ha1, hap, rI_get hap, hah, rH_get hah, bh3f, hw0, hgl, rB_get hgl, hgo, bg4t, bg5t, bh6f, bh7f, hT, bg7t, bh8t, bg8t, V.bool.injEq, V.int.injEq, true_and]
  all_goals grind)
  · intro bg8f
    have g8f := bg8f
    try simp only [beq_true, beq_false, decide_eq_true_eq, decide_eq_false_iff_not, Bool.not_eq_true', Bool.not_eq_false', Bool.not_eq_true, Bool.not_eq_false, ne_eq, Int.ofNat_lt, Int.ofNat_le, beq_iff_eq, bne_iff_ne, beq_eq_false_iff_ne, bne_eq_false_iff_eq, ge_iff_le, gt_iff_lt, Bool.not_true, Bool.not_false, Decidable.not_not, Int.natCast_inj, Int.natCast_nonneg] at g8f
    try simp only [beq_true, beq_false, Bool.not_eq_true', Bool.not_eq_false', Bool.not_not, Bool.not_true, Bool.not_false] at bg8f
    try exact absurd bg8f (by decide)
    all_goals (
  apply W_run
  · (simp only [go_sem, Nat.reducePow, Nat.reduceLT, Nat.reduceAdd, Nat.reduceSub, Nat.reduceMul, Nat.reduceLeDiff, reduceIte, Nat.reduceEqDiff, Nat.reduceBEq, Try.ntmps3, M.walked_zero, bg0t, bg1t, bg2t, bh0f, bh1f, bh2f, ha1, hap, rI_get hap, hah, rH_get hah, bh3f, hw0, hgl, rB_get hgl, hgo, bg4t, bg5t, bh6f, bh7f, hT, bg7t, bh8t, bg8f]) <;> exact rfl
  apply W_nil
  apply K_seq
  apply T_ret
  apply K_seqR
  apply fin_ret
  · (simp only [go_sem, Nat.reducePow, Nat.reduceLT, Nat.reduceAdd, Nat.reduceSub, Nat.reduceMul, Nat.reduceLeDiff, reduceIte, Nat.reduceEqDiff, Nat.reduceBEq, Try.ntmps3, M.walked_zero, bg0t, bg1t, bg2t, bh0f, bh1f, bh2f, ha1, hap, rI_get hap, hah, rH_get hah, bh3f, hw0, hgl, rB_get hgl, hgo, bg4t, bg5t, bh6f, bh7f, hT, bg7t, bh8t, bg8f, Try.f3]) <;> exact rfl
  -- leaf 10 (ret)
  simp only [go_sem, Nat.reducePow, Nat.reduceLT, Nat.reduceAdd, Nat.reduceSub, Nat.reduceMul, Nat.reduceLeDiff, reduceIte, Nat.reduceEqDiff, Nat.reduceBEq, Try.ntmps3, M.walked_zero, bg0t, bg1t, bg2t, bh0f, bh1f, bh2f, ha1, hap, rI_get hap, hah, rH_get hah, bh3f, hw0, hgl, rB_get hgl, hgo, bg4t, bg5t, bh6f, bh7f, hT, bg7t, bh8t, bg8f, V.bool.injEq, V.int.injEq, true_and]
  all_goals grind))
  · intro bh8f
    have h8f := bh8f
    try simp only [beq_true, beq_false, decide_eq_true_eq, decide_eq_false_iff_not, Bool.not_eq_true', Bool.not_eq_false', Bool.not_eq_true, Bool.not_eq_false, ne_eq, Int.ofNat_lt, Int.ofNat_le, beq_iff_eq, bne_iff_ne, beq_eq_false_iff_ne, bne_eq_false_iff_eq, ge_iff_le, gt_iff_lt, Bool.not_true, Bool.not_false, Decidable.not_not, Int.natCast_inj, Int.natCast_nonneg] at h8f
    try simp only [beq_true, beq_false, Bool.not_eq_true', Bool.not_eq_false', Bool.not_not, Bool.not_true, Bool.not_false] at bh8f
    try exact absurd bh8f (by decide)
    all_goals (
  have hb0 : 0 ≤ b := by omega
  have hbk : b.toNat < t.kin.length := by omega
  obtain ⟨k1, k2, _⟩ := ok.kins b.toNat hbk
  rw [M.kn_get hbk] at k1 k2
  have k3 := M.house_iff.1 k1
  have k4 := M.house_iff.1 k2
  have x0 : 0 ≤ t.kin[b.toNat].1 := k3.1
  have x1 : t.kin[b.toNat].1.toNat < p.length := by omega
  have y0 : 0 ≤ t.kin[b.toNat].2 := k4.1
  have y1 : t.kin[b.toNat].2.toNat < p.length := by omega
  have lx := hpl.2 _ x1
  have ly := hpl.2 _ y1
  rw [M.at_get x1] at lx
  rw [M.at_get y1] at ly
  have lx1 := M.lot_iff.1 lx
  have ly1 := M.lot_iff.1 ly
  have x2 := lx1.1
  have x3 : (p[t.kin[b.toNat].1.toNat]).toNat < t.walk.length := by omega
  have y2 := ly1.1
  have y3 : (p[t.kin[b.toNat].2.toNat]).toNat < (t.walk[(p[t.kin[b.toNat].1.toNat]).toNat]).length := by rw [ok.square x3]; omega
  have hkn : t.walk[(p[t.kin[b.toNat].1.toNat]).toNat][(p[t.kin[b.toNat].2.toNat]).toNat] ≤ t.reach := by
    have := hf.2 b.toNat hbk
    rw [M.apart, M.kn_get hbk, M.at_get x1, M.at_get y1, M.near, M.dist_get x3 y3] at this
    simpa using this
  apply T_skip
  apply K_seq
  apply T_seq
  apply T_qL F [0, 1, 2, 3, 4, 5, 6, 7, 8, 9, 10, 11, 12, 13, 14, 15, 16, 17, 18, 19, 20, 21, 22, 23, 24, 25, 26, 27, 28, 29, 30, 31, 32, 33] rfl (by kernel_rfl)
  apply Q_pre [0, 1] [2, 3, 4, 5, 6, 7, 8, 9, 10, 11, 12, 13, 14, 15, 16, 17, 18, 19, 20, 21, 22, 23, 24, 25, 26, 27, 28, 29, 30, 31, 32, 33]
  · (simp only [go_sem, Nat.reducePow, Nat.reduceLT, Nat.reduceAdd, Nat.reduceSub, Nat.reduceMul, Nat.reduceLeDiff, reduceIte, Nat.reduceEqDiff, Nat.reduceBEq, Try.ntmps3, M.walked_zero, bg0t, bg1t, bg2t, bh0f, bh1f, bh2f, ha1, hap, rI_get hap, hah, rH_get hah, bh3f, hw0, hgl, rB_get hgl, hgo, bg4t, bg5t, bh6f, bh7f, hT, bg7t, bh8f, hb0, hbk, rP_get hbk, x0, x1, rI_get x1, y0, y1, rI_get y1, x2, x3, rL_get x3, y2, y3, rI_get y3, hkn]) <;> exact rfl
  apply Q_guard
  · (simp only [go_sem, Nat.reducePow, Nat.reduceLT, Nat.reduceAdd, Nat.reduceSub, Nat.reduceMul, Nat.reduceLeDiff, reduceIte, Nat.reduceEqDiff, Nat.reduceBEq, Try.ntmps3, M.walked_zero, bg0t, bg1t, bg2t, bh0f, bh1f, bh2f, ha1, hap, rI_get hap, hah, rH_get hah, bh3f, hw0, hgl, rB_get hgl, hgo, bg4t, bg5t, bh6f, bh7f, hT, bg7t, bh8f, hb0, hbk, rP_get hbk, x0, x1, rI_get x1, y0, y1, rI_get y1, x2, x3, rL_get x3, y2, y3, rI_get y3, hkn]) <;> exact rfl
  · (simp only [go_sem, Nat.reducePow, Nat.reduceLT, Nat.reduceAdd, Nat.reduceSub, Nat.reduceMul, Nat.reduceLeDiff, reduceIte, Nat.reduceEqDiff, Nat.reduceBEq, Try.ntmps3, M.walked_zero, bg0t, bg1t, bg2t, bh0f, bh1f, bh2f, ha1, hap, rI_get hap, hah, rH_get hah, bh3f, hw0, hgl, rB_get hgl, hgo, bg4t, bg5t, bh6f, bh7f, hT, bg7t, bh8f, hb0, hbk, rP_get hbk, x0, x1, rI_get x1, y0, y1, rI_get y1, x2, x3, rL_get x3, y2, y3, rI_get y3, hkn]) <;> exact rfl
  · intro bg9t
    have g9t := bg9t
    try simp only [beq_true, beq_false, decide_eq_true_eq, decide_eq_false_iff_not, Bool.not_eq_true', Bool.not_eq_false', Bool.not_eq_true, Bool.not_eq_false, ne_eq, Int.ofNat_lt, Int.ofNat_le, beq_iff_eq, bne_iff_ne, beq_eq_false_iff_ne, bne_eq_false_iff_eq, ge_iff_le, gt_iff_lt, Bool.not_true, Bool.not_false, Decidable.not_not, Int.natCast_inj, Int.natCast_nonneg] at g9t
    try simp only [beq_true, beq_false, Bool.not_eq_true', Bool.not_eq_false', Bool.not_not, Bool.not_true, Bool.not_false] at bg9t
    try exact absurd bg9t (by decide)
    all_goals (
  apply Q_pre [2, 3, 4, 5] [6, 7, 8, 9, 10, 11, 12, 13, 14, 15, 16, 17, 18, 19, 20, 21, 22, 23, 24, 25, 26, 27, 28, 29, 30, 31, 32, 33]
  · (simp only [go_sem, Nat.reducePow, Nat.reduceLT, Nat.reduceAdd, Nat.reduceSub, Nat.reduceMul, Nat.reduceLeDiff, reduceIte, Nat.reduceEqDiff, Nat.reduceBEq, Try.ntmps3, M.walked_zero, bg0t, bg1t, bg2t, bh0f, bh1f, bh2f, ha1, hap, rI_get hap, hah, rH_get hah, bh3f, hw0, hgl, rB_get hgl, hgo, bg4t, bg5t, bh6f, bh7f, hT, bg7t, bh8f, hb0, hbk, rP_get hbk, x0, x1, rI_get x1, y0, y1, rI_get y1, x2, x3, rL_get x3, y2, y3, rI_get y3, hkn, bg9t]) <;> exact rfl
  apply Q_pre [6, 7, 8, 9] [10, 11, 12, 13, 14, 15, 16, 17, 18, 19, 20, 21, 22, 23, 24, 25, 26, 27, 28, 29, 30, 31, 32, 33]
  · (simp only [go_sem, Nat.reducePow, Nat.reduceLT, Nat.reduceAdd, Nat.reduceSub, Nat.reduceMul, Nat.reduceLeDiff, reduceIte, Nat.reduceEqDiff, Nat.reduceBEq, Try.ntmps3, M.walked_zero, bg0t, bg1t, bg2t, bh0f, bh1f, bh2f, ha1, hap, rI_get hap, hah, rH_get hah, bh3f, hw0, hgl, rB_get hgl, hgo, bg4t, bg5t, bh6f, bh7f, hT, bg7t, bh8f, hb0, hbk, rP_get hbk, x0, x1, rI_get x1, y0, y1, rI_get y1, x2, x3, rL_get x3, y2, y3, rI_get y3, hkn, bg9t]) <;> exact rfl
  apply Q_pre [10, 11, 12, 13] [14, 15, 16, 17, 18, 19, 20, 21, 22, 23, 24, 25, 26, 27, 28, 29, 30, 31, 32, 33]
  · (simp only [go_sem, Nat.reducePow, Nat.reduceLT, Nat.reduceAdd, Nat.reduceSub, Nat.reduceMul, Nat.reduceLeDiff, reduceIte, Nat.reduceEqDiff, Nat.reduceBEq, Try.ntmps3, M.walked_zero, bg0t, bg1t, bg2t, bh0f, bh1f, bh2f, ha1, hap, rI_get hap, hah, rH_get hah, bh3f, hw0, hgl, rB_get hgl, hgo, bg4t, bg5t, bh6f, bh7f, hT, bg7t, bh8f, hb0, hbk, rP_get hbk, x0, x1, rI_get x1, y0, y1, rI_get y1, x2, x3, rL_get x3, y2, y3, rI_get y3, hkn, bg9t]) <;> exact rfl
  apply Q_pre [14, 15, 16, 17] [18, 19, 20, 21, 22, 23, 24, 25, 26, 27, 28, 29, 30, 31, 32, 33]
  · (simp only [go_sem, Nat.reducePow, Nat.reduceLT, Nat.reduceAdd, Nat.reduceSub, Nat.reduceMul, Nat.reduceLeDiff, reduceIte, Nat.reduceEqDiff, Nat.reduceBEq, Try.ntmps3, M.walked_zero, bg0t, bg1t, bg2t, bh0f, bh1f, bh2f, ha1, hap, rI_get hap, hah, rH_get hah, bh3f, hw0, hgl, rB_get hgl, hgo, bg4t, bg5t, bh6f, bh7f, hT, bg7t, bh8f, hb0, hbk, rP_get hbk, x0, x1, rI_get x1, y0, y1, rI_get y1, x2, x3, rL_get x3, y2, y3, rI_get y3, hkn, bg9t]) <;> exact rfl
  apply Q_pre [18, 19, 20, 21] [22, 23, 24, 25, 26, 27, 28, 29, 30, 31, 32, 33]
  · (simp only [go_sem, Nat.reducePow, Nat.reduceLT, Nat.reduceAdd, Nat.reduceSub, Nat.reduceMul, Nat.reduceLeDiff, reduceIte, Nat.reduceEqDiff, Nat.reduceBEq, Try.ntmps3, M.walked_zero, bg0t, bg1t, bg2t, bh0f, bh1f, bh2f, ha1, hap, rI_get hap, hah, rH_get hah, bh3f, hw0, hgl, rB_get hgl, hgo, bg4t, bg5t, bh6f, bh7f, hT, bg7t, bh8f, hb0, hbk, rP_get hbk, x0, x1, rI_get x1, y0, y1, rI_get y1, x2, x3, rL_get x3, y2, y3, rI_get y3, hkn, bg9t]) <;> exact rfl
  apply Q_pre [22, 23, 24, 25] [26, 27, 28, 29, 30, 31, 32, 33]
  · (simp only [go_sem, Nat.reducePow, Nat.reduceLT, Nat.reduceAdd, Nat.reduceSub, Nat.reduceMul, Nat.reduceLeDiff, reduceIte, Nat.reduceEqDiff, Nat.reduceBEq, Try.ntmps3, M.walked_zero, bg0t, bg1t, bg2t, bh0f, bh1f, bh2f, ha1, hap, rI_get hap, hah, rH_get hah, bh3f, hw0, hgl, rB_get hgl, hgo, bg4t, bg5t, bh6f, bh7f, hT, bg7t, bh8f, hb0, hbk, rP_get hbk, x0, x1, rI_get x1, y0, y1, rI_get y1, x2, x3, rL_get x3, y2, y3, rI_get y3, hkn, bg9t]) <;> exact rfl
  apply Q_pre [26, 27, 28, 29, 30] [31, 32, 33]
  · (simp only [go_sem, Nat.reducePow, Nat.reduceLT, Nat.reduceAdd, Nat.reduceSub, Nat.reduceMul, Nat.reduceLeDiff, reduceIte, Nat.reduceEqDiff, Nat.reduceBEq, Try.ntmps3, M.walked_zero, bg0t, bg1t, bg2t, bh0f, bh1f, bh2f, ha1, hap, rI_get hap, hah, rH_get hah, bh3f, hw0, hgl, rB_get hgl, hgo, bg4t, bg5t, bh6f, bh7f, hT, bg7t, bh8f, hb0, hbk, rP_get hbk, x0, x1, rI_get x1, y0, y1, rI_get y1, x2, x3, rL_get x3, y2, y3, rI_get y3, hkn, bg9t]) <;> exact rfl
  apply Q_guard
  · (simp only [go_sem, Nat.reducePow, Nat.reduceLT, Nat.reduceAdd, Nat.reduceSub, Nat.reduceMul, Nat.reduceLeDiff, reduceIte, Nat.reduceEqDiff, Nat.reduceBEq, Try.ntmps3, M.walked_zero, bg0t, bg1t, bg2t, bh0f, bh1f, bh2f, ha1, hap, rI_get hap, hah, rH_get hah, bh3f, hw0, hgl, rB_get hgl, hgo, bg4t, bg5t, bh6f, bh7f, hT, bg7t, bh8f, hb0, hbk, rP_get hbk, x0, x1, rI_get x1, y0, y1, rI_get y1, x2, x3, rL_get x3, y2, y3, rI_get y3, hkn, bg9t]) <;> exact rfl
  · (simp only [go_sem, Nat.reducePow, Nat.reduceLT, Nat.reduceAdd, Nat.reduceSub, Nat.reduceMul, Nat.reduceLeDiff, reduceIte, Nat.reduceEqDiff, Nat.reduceBEq, Try.ntmps3, M.walked_zero, bg0t, bg1t, bg2t, bh0f, bh1f, bh2f, ha1, hap, rI_get hap, hah, rH_get hah, bh3f, hw0, hgl, rB_get hgl, hgo, bg4t, bg5t, bh6f, bh7f, hT, bg7t, bh8f, hb0, hbk, rP_get hbk, x0, x1, rI_get x1, y0, y1, rI_get y1, x2, x3, rL_get x3, y2, y3, rI_get y3, hkn, bg9t]) <;> exact rfl
  · intro bg10t
    have g10t := bg10t
    try simp only [beq_true, beq_false, decide_eq_true_eq, decide_eq_false_iff_not, Bool.not_eq_true', Bool.not_eq_false', Bool.not_eq_true, Bool.not_eq_false, ne_eq, Int.ofNat_lt, Int.ofNat_le, beq_iff_eq, bne_iff_ne, beq_eq_false_iff_ne, bne_eq_false_iff_eq, ge_iff_le, gt_iff_lt, Bool.not_true, Bool.not_false, Decidable.not_not, Int.natCast_inj, Int.natCast_nonneg] at g10t
    try simp only [beq_true, beq_false, Bool.not_eq_true', Bool.not_eq_false', Bool.not_not, Bool.not_true, Bool.not_false] at bg10t
    try exact absurd bg10t (by decide)
    all_goals (
  apply Q_call -- call 9 of function 16
  · (simp only [go_sem, Nat.reducePow, Nat.reduceLT, Nat.reduceAdd, Nat.reduceSub, Nat.reduceMul, Nat.reduceLeDiff, reduceIte, Nat.reduceEqDiff, Nat.reduceBEq, Try.ntmps3, M.walked_zero, bg0t, bg1t, bg2t, bh0f, bh1f, bh2f, ha1, hap, rI_get hap, hah, rH_get hah, bh3f, hw0, hgl, rB_get hgl, hgo, bg4t, bg5t, bh6f, bh7f, hT, bg7t, bh8f, hb0, hbk, rP_get hbk, x0, x1, rI_get x1, y0, y1, rI_get y1, x2, x3, rL_get x3, y2, y3, rI_get y3, hkn, bg9t, bg10t]) <;> exact rfl
  · (simp only [go_sem, Nat.reducePow, Nat.reduceLT, Nat.reduceAdd, Nat.reduceSub, Nat.reduceMul, Nat.reduceLeDiff, reduceIte, Nat.reduceEqDiff, Nat.reduceBEq, Try.ntmps3, M.walked_zero, bg0t, bg1t, bg2t, bh0f, bh1f, bh2f, ha1, hap, rI_get hap, hah, rH_get hah, bh3f, hw0, hgl, rB_get hgl, hgo, bg4t, bg5t, bh6f, bh7f, hT, bg7t, bh8f, hb0, hbk, rP_get hbk, x0, x1, rI_get x1, y0, y1, rI_get y1, x2, x3, rL_get x3, y2, y3, rI_get y3, hkn, bg9t, bg10t]) <;> exact rfl
  · exact rfl
  · (simp only [go_sem, Nat.reducePow, Nat.reduceLT, Nat.reduceAdd, Nat.reduceSub, Nat.reduceMul, Nat.reduceLeDiff, reduceIte, Nat.reduceEqDiff, Nat.reduceBEq, Try.ntmps3, M.walked_zero, bg0t, bg1t, bg2t, bh0f, bh1f, bh2f, ha1, hap, rI_get hap, hah, rH_get hah, bh3f, hw0, hgl, rB_get hgl, hgo, bg4t, bg5t, bh6f, bh7f, hT, bg7t, bh8f, hb0, hbk, rP_get hbk, x0, x1, rI_get x1, y0, y1, rI_get y1, x2, x3, rL_get x3, y2, y3, rI_get y3, hkn, bg9t, bg10t]) <;> exact rfl
  · (simp only [go_sem, Nat.reducePow, Nat.reduceLT, Nat.reduceAdd, Nat.reduceSub, Nat.reduceMul, Nat.reduceLeDiff, reduceIte, Nat.reduceEqDiff, Nat.reduceBEq, Try.ntmps3, M.walked_zero, bg0t, bg1t, bg2t, bh0f, bh1f, bh2f, ha1, hap, rI_get hap, hah, rH_get hah, bh3f, hw0, hgl, rB_get hgl, hgo, bg4t, bg5t, bh6f, bh7f, hT, bg7t, bh8f, hb0, hbk, rP_get hbk, x0, x1, rI_get x1, y0, y1, rI_get y1, x2, x3, rL_get x3, y2, y3, rI_get y3, hkn, bg9t, bg10t]) <;> exact rfl
  · exact ⟨_, Try.func16, rfl, rfl⟩
  · (simp only [go_sem, Nat.reducePow, Nat.reduceLT, Nat.reduceAdd, Nat.reduceSub, Nat.reduceMul, Nat.reduceLeDiff, reduceIte, Nat.reduceEqDiff, Nat.reduceBEq, Try.ntmps3, M.walked_zero, bg0t, bg1t, bg2t, bh0f, bh1f, bh2f, ha1, hap, rI_get hap, hah, rH_get hah, bh3f, hw0, hgl, rB_get hgl, hgo, bg4t, bg5t, bh6f, bh7f, hT, bg7t, bh8f, hb0, hbk, rP_get hbk, x0, x1, rI_get x1, y0, y1, rI_get y1, x2, x3, rL_get x3, y2, y3, rI_get y3, hkn, bg9t, bg10t]) <;> exact rfl
  · exact known_ok
  apply Q_run
  · (simp only [go_sem, Nat.reducePow, Nat.reduceLT, Nat.reduceAdd, Nat.reduceSub, Nat.reduceMul, Nat.reduceLeDiff, reduceIte, Nat.reduceEqDiff, Nat.reduceBEq, Try.ntmps3, M.walked_zero, bg0t, bg1t, bg2t, bh0f, bh1f, bh2f, ha1, hap, rI_get hap, hah, rH_get hah, bh3f, hw0, hgl, rB_get hgl, hgo, bg4t, bg5t, bh6f, bh7f, hT, bg7t, bh8f, hb0, hbk, rP_get hbk, x0, x1, rI_get x1, y0, y1, rI_get y1, x2, x3, rL_get x3, y2, y3, rI_get y3, hkn, bg9t, bg10t]) <;> exact rfl
  apply Q_nil
  apply K_seq
  apply T_ret
  apply fin_ret
  · (simp only [go_sem, Nat.reducePow, Nat.reduceLT, Nat.reduceAdd, Nat.reduceSub, Nat.reduceMul, Nat.reduceLeDiff, reduceIte, Nat.reduceEqDiff, Nat.reduceBEq, Try.ntmps3, M.walked_zero, bg0t, bg1t, bg2t, bh0f, bh1f, bh2f, ha1, hap, rI_get hap, hah, rH_get hah, bh3f, hw0, hgl, rB_get hgl, hgo, bg4t, bg5t, bh6f, bh7f, hT, bg7t, bh8f, hb0, hbk, rP_get hbk, x0, x1, rI_get x1, y0, y1, rI_get y1, x2, x3, rL_get x3, y2, y3, rI_get y3, hkn, bg9t, bg10t, Try.f3]) <;> exact rfl
  -- leaf 11 (ret)
  simp only [go_sem, Nat.reducePow, Nat.reduceLT, Nat.reduceAdd, Nat.reduceSub, Nat.reduceMul, Nat.reduceLeDiff, reduceIte, Nat.reduceEqDiff, Nat.reduceBEq, Try.ntmps3, M.walked_zero, bg0t, bg1t, bg2t, bh0f, bh1f, bh2f, ha1, hap, rI_get hap, hah, rH_get hah, bh3f, hw0, hgl, rB_get hgl, hgo, bg4t, bg5t, bh6f, bh7f, hT, bg7t, bh8f, hb0, hbk, rP_get hbk, x0, x1, rI_get x1, y0, y1, rI_get y1, x2, x3, rL_get x3, y2, y3, rI_get y3, hkn, bg9t, bg10t, V.bool.injEq, V.int.injEq, true_and]
  all_goals grind)
  · intro bg10f
    have g10f := bg10f
    try simp only [beq_true, beq_false, decide_eq_true_eq, decide_eq_false_iff_not, Bool.not_eq_true', Bool.not_eq_false', Bool.not_eq_true, Bool.not_eq_false, ne_eq, Int.ofNat_lt, Int.ofNat_le, beq_iff_eq, bne_iff_ne, beq_eq_false_iff_ne, bne_eq_false_iff_eq, ge_iff_le, gt_iff_lt, Bool.not_true, Bool.not_false, Decidable.not_not, Int.natCast_inj, Int.natCast_nonneg] at g10f
    try simp only [beq_true, beq_false, Bool.not_eq_true', Bool.not_eq_false', Bool.not_not, Bool.not_true, Bool.not_false] at bg10f
    try exact absurd bg10f (by decide)
    all_goals (
  apply Q_run
  · (simp only [go_sem, Nat.reducePow, Nat.reduceLT, Nat.reduceAdd, Nat.reduceSub, Nat.reduceMul, Nat.reduceLeDiff, reduceIte, Nat.reduceEqDiff, Nat.reduceBEq, Try.ntmps3, M.walked_zero, bg0t, bg1t, bg2t, bh0f, bh1f, bh2f, ha1, hap, rI_get hap, hah, rH_get hah, bh3f, hw0, hgl, rB_get hgl, hgo, bg4t, bg5t, bh6f, bh7f, hT, bg7t, bh8f, hb0, hbk, rP_get hbk, x0, x1, rI_get x1, y0, y1, rI_get y1, x2, x3, rL_get x3, y2, y3, rI_get y3, hkn, bg9t, bg10f]) <;> exact rfl
  apply Q_nil
  apply K_seq
  apply T_ret
  apply fin_ret
  · (simp only [go_sem, Nat.reducePow, Nat.reduceLT, Nat.reduceAdd, Nat.reduceSub, Nat.reduceMul, Nat.reduceLeDiff, reduceIte, Nat.reduceEqDiff, Nat.reduceBEq, Try.ntmps3, M.walked_zero, bg0t, bg1t, bg2t, bh0f, bh1f, bh2f, ha1, hap, rI_get hap, hah, rH_get hah, bh3f, hw0, hgl, rB_get hgl, hgo, bg4t, bg5t, bh6f, bh7f, hT, bg7t, bh8f, hb0, hbk, rP_get hbk, x0, x1, rI_get x1, y0, y1, rI_get y1, x2, x3, rL_get x3, y2, y3, rI_get y3, hkn, bg9t, bg10f, Try.f3]) <;> exact rfl
  -- leaf 12 (ret)
  simp only [go_sem, Nat.reducePow, Nat.reduceLT, Nat.reduceAdd, Nat.reduceSub, Nat.reduceMul, Nat.reduceLeDiff, reduceIte, Nat.reduceEqDiff, Nat.reduceBEq, Try.ntmps3, M.walked_zero, bg0t, bg1t, bg2t, bh0f, bh1f, bh2f, ha1, hap, rI_get hap, hah, rH_get hah, bh3f, hw0, hgl, rB_get hgl, hgo, bg4t, bg5t, bh6f, bh7f, hT, bg7t, bh8f, hb0, hbk, rP_get hbk, x0, x1, rI_get x1, y0, y1, rI_get y1, x2, x3, rL_get x3, y2, y3, rI_get y3, hkn, bg9t, bg10f, V.bool.injEq, V.int.injEq, true_and]
  all_goals grind))
  · intro bg9f
    have g9f := bg9f
    try simp only [beq_true, beq_false, decide_eq_true_eq, decide_eq_false_iff_not, Bool.not_eq_true', Bool.not_eq_false', Bool.not_eq_true, Bool.not_eq_false, ne_eq, Int.ofNat_lt, Int.ofNat_le, beq_iff_eq, bne_iff_ne, beq_eq_false_iff_ne, bne_eq_false_iff_eq, ge_iff_le, gt_iff_lt, Bool.not_true, Bool.not_false, Decidable.not_not, Int.natCast_inj, Int.natCast_nonneg] at g9f
    try simp only [beq_true, beq_false, Bool.not_eq_true', Bool.not_eq_false', Bool.not_not, Bool.not_true, Bool.not_false] at bg9f
    try exact absurd bg9f (by decide)
    all_goals (
  apply Q_pre [2, 3, 4, 5] [6, 7, 8, 9, 10, 11, 12, 13, 14, 15, 16, 17, 18, 19, 20, 21, 22, 23, 24, 25, 26, 27, 28, 29, 30, 31, 32, 33]
  · (simp only [go_sem, Nat.reducePow, Nat.reduceLT, Nat.reduceAdd, Nat.reduceSub, Nat.reduceMul, Nat.reduceLeDiff, reduceIte, Nat.reduceEqDiff, Nat.reduceBEq, Try.ntmps3, M.walked_zero, bg0t, bg1t, bg2t, bh0f, bh1f, bh2f, ha1, hap, rI_get hap, hah, rH_get hah, bh3f, hw0, hgl, rB_get hgl, hgo, bg4t, bg5t, bh6f, bh7f, hT, bg7t, bh8f, hb0, hbk, rP_get hbk, x0, x1, rI_get x1, y0, y1, rI_get y1, x2, x3, rL_get x3, y2, y3, rI_get y3, hkn, bg9f]) <;> exact rfl
  apply Q_pre [6, 7, 8, 9] [10, 11, 12, 13, 14, 15, 16, 17, 18, 19, 20, 21, 22, 23, 24, 25, 26, 27, 28, 29, 30, 31, 32, 33]
  · (simp only [go_sem, Nat.reducePow, Nat.reduceLT, Nat.reduceAdd, Nat.reduceSub, Nat.reduceMul, Nat.reduceLeDiff, reduceIte, Nat.reduceEqDiff, Nat.reduceBEq, Try.ntmps3, M.walked_zero, bg0t, bg1t, bg2t, bh0f, bh1f, bh2f, ha1, hap, rI_get hap, hah, rH_get hah, bh3f, hw0, hgl, rB_get hgl, hgo, bg4t, bg5t, bh6f, bh7f, hT, bg7t, bh8f, hb0, hbk, rP_get hbk, x0, x1, rI_get x1, y0, y1, rI_get y1, x2, x3, rL_get x3, y2, y3, rI_get y3, hkn, bg9f]) <;> exact rfl
  apply Q_pre [10, 11, 12, 13] [14, 15, 16, 17, 18, 19, 20, 21, 22, 23, 24, 25, 26, 27, 28, 29, 30, 31, 32, 33]
  · (simp only [go_sem, Nat.reducePow, Nat.reduceLT, Nat.reduceAdd, Nat.reduceSub, Nat.reduceMul, Nat.reduceLeDiff, reduceIte, Nat.reduceEqDiff, Nat.reduceBEq, Try.ntmps3, M.walked_zero, bg0t, bg1t, bg2t, bh0f, bh1f, bh2f, ha1, hap, rI_get hap, hah, rH_get hah, bh3f, hw0, hgl, rB_get hgl, hgo, bg4t, bg5t, bh6f, bh7f, hT, bg7t, bh8f, hb0, hbk, rP_get hbk, x0, x1, rI_get x1, y0, y1, rI_get y1, x2, x3, rL_get x3, y2, y3, rI_get y3, hkn, bg9f]) <;> exact rfl
  apply Q_pre [14, 15, 16, 17] [18, 19, 20, 21, 22, 23, 24, 25, 26, 27, 28, 29, 30, 31, 32, 33]
  · (simp only [go_sem, Nat.reducePow, Nat.reduceLT, Nat.reduceAdd, Nat.reduceSub, Nat.reduceMul, Nat.reduceLeDiff, reduceIte, Nat.reduceEqDiff, Nat.reduceBEq, Try.ntmps3, M.walked_zero, bg0t, bg1t, bg2t, bh0f, bh1f, bh2f, ha1, hap, rI_get hap, hah, rH_get hah, bh3f, hw0, hgl, rB_get hgl, hgo, bg4t, bg5t, bh6f, bh7f, hT, bg7t, bh8f, hb0, hbk, rP_get hbk, x0, x1, rI_get x1, y0, y1, rI_get y1, x2, x3, rL_get x3, y2, y3, rI_get y3, hkn, bg9f]) <;> exact rfl
  apply Q_pre [18, 19, 20, 21] [22, 23, 24, 25, 26, 27, 28, 29, 30, 31, 32, 33]
  · (simp only [go_sem, Nat.reducePow, Nat.reduceLT, Nat.reduceAdd, Nat.reduceSub, Nat.reduceMul, Nat.reduceLeDiff, reduceIte, Nat.reduceEqDiff, Nat.reduceBEq, Try.ntmps3, M.walked_zero, bg0t, bg1t, bg2t, bh0f, bh1f, bh2f, ha1, hap, rI_get hap, hah, rH_get hah, bh3f, hw0, hgl, rB_get hgl, hgo, bg4t, bg5t, bh6f, bh7f, hT, bg7t, bh8f, hb0, hbk, rP_get hbk, x0, x1, rI_get x1, y0, y1, rI_get y1, x2, x3, rL_get x3, y2, y3, rI_get y3, hkn, bg9f]) <;> exact rfl
  apply Q_pre [22, 23, 24, 25] [26, 27, 28, 29, 30, 31, 32, 33]
  · (simp only [go_sem, Nat.reducePow, Nat.reduceLT, Nat.reduceAdd, Nat.reduceSub, Nat.reduceMul, Nat.reduceLeDiff, reduceIte, Nat.reduceEqDiff, Nat.reduceBEq, Try.ntmps3, M.walked_zero, bg0t, bg1t, bg2t, bh0f, bh1f, bh2f, ha1, hap, rI_get hap, hah, rH_get hah, bh3f, hw0, hgl, rB_get hgl, hgo, bg4t, bg5t, bh6f, bh7f, hT, bg7t, bh8f, hb0, hbk, rP_get hbk, x0, x1, rI_get x1, y0, y1, rI_get y1, x2, x3, rL_get x3, y2, y3, rI_get y3, hkn, bg9f]) <;> exact rfl
  apply Q_pre [26, 27, 28, 29] [30, 31, 32, 33]
  · (simp only [go_sem, Nat.reducePow, Nat.reduceLT, Nat.reduceAdd, Nat.reduceSub, Nat.reduceMul, Nat.reduceLeDiff, reduceIte, Nat.reduceEqDiff, Nat.reduceBEq, Try.ntmps3, M.walked_zero, bg0t, bg1t, bg2t, bh0f, bh1f, bh2f, ha1, hap, rI_get hap, hah, rH_get hah, bh3f, hw0, hgl, rB_get hgl, hgo, bg4t, bg5t, bh6f, bh7f, hT, bg7t, bh8f, hb0, hbk, rP_get hbk, x0, x1, rI_get x1, y0, y1, rI_get y1, x2, x3, rL_get x3, y2, y3, rI_get y3, hkn, bg9f]) <;> exact rfl
  apply Q_run
  · (simp only [go_sem, Nat.reducePow, Nat.reduceLT, Nat.reduceAdd, Nat.reduceSub, Nat.reduceMul, Nat.reduceLeDiff, reduceIte, Nat.reduceEqDiff, Nat.reduceBEq, Try.ntmps3, M.walked_zero, bg0t, bg1t, bg2t, bh0f, bh1f, bh2f, ha1, hap, rI_get hap, hah, rH_get hah, bh3f, hw0, hgl, rB_get hgl, hgo, bg4t, bg5t, bh6f, bh7f, hT, bg7t, bh8f, hb0, hbk, rP_get hbk, x0, x1, rI_get x1, y0, y1, rI_get y1, x2, x3, rL_get x3, y2, y3, rI_get y3, hkn, bg9f]) <;> exact rfl
  apply Q_nil
  apply K_seq
  apply T_ret
  apply fin_ret
  · (simp only [go_sem, Nat.reducePow, Nat.reduceLT, Nat.reduceAdd, Nat.reduceSub, Nat.reduceMul, Nat.reduceLeDiff, reduceIte, Nat.reduceEqDiff, Nat.reduceBEq, Try.ntmps3, M.walked_zero, bg0t, bg1t, bg2t, bh0f, bh1f, bh2f, ha1, hap, rI_get hap, hah, rH_get hah, bh3f, hw0, hgl, rB_get hgl, hgo, bg4t, bg5t, bh6f, bh7f, hT, bg7t, bh8f, hb0, hbk, rP_get hbk, x0, x1, rI_get x1, y0, y1, rI_get y1, x2, x3, rL_get x3, y2, y3, rI_get y3, hkn, bg9f, Try.f3]) <;> exact rfl
  -- leaf 13 (ret)
  simp only [go_sem, Nat.reducePow, Nat.reduceLT, Nat.reduceAdd, Nat.reduceSub, Nat.reduceMul, Nat.reduceLeDiff, reduceIte, Nat.reduceEqDiff, Nat.reduceBEq, Try.ntmps3, M.walked_zero, bg0t, bg1t, bg2t, bh0f, bh1f, bh2f, ha1, hap, rI_get hap, hah, rH_get hah, bh3f, hw0, hgl, rB_get hgl, hgo, bg4t, bg5t, bh6f, bh7f, hT, bg7t, bh8f, hb0, hbk, rP_get hbk, x0, x1, rI_get x1, y0, y1, rI_get y1, x2, x3, rL_get x3, y2, y3, rI_get y3, hkn, bg9f, V.bool.injEq, V.int.injEq, true_and]
  all_goals grind)))
  · intro bg7f
    have g7f := bg7f
    try simp only [beq_true, beq_false, decide_eq_true_eq, decide_eq_false_iff_not, Bool.not_eq_true', Bool.not_eq_false', Bool.not_eq_true, Bool.not_eq_false, ne_eq, Int.ofNat_lt, Int.ofNat_le, beq_iff_eq, bne_iff_ne, beq_eq_false_iff_ne, bne_eq_false_iff_eq, ge_iff_le, gt_iff_lt, Bool.not_true, Bool.not_false, Decidable.not_not, Int.natCast_inj, Int.natCast_nonneg] at g7f
    try simp only [beq_true, beq_false, Bool.not_eq_true', Bool.not_eq_false', Bool.not_not, Bool.not_true, Bool.not_false] at bg7f
    try exact absurd bg7f (by decide)
    all_goals (
  apply W_run
  · (simp only [go_sem, Nat.reducePow, Nat.reduceLT, Nat.reduceAdd, Nat.reduceSub, Nat.reduceMul, Nat.reduceLeDiff, reduceIte, Nat.reduceEqDiff, Nat.reduceBEq, Try.ntmps3, M.walked_zero, bg0t, bg1t, bg2t, bh0f, bh1f, bh2f, ha1, hap, rI_get hap, hah, rH_get hah, bh3f, hw0, hgl, rB_get hgl, hgo, bg4t, bg5t, bh6f, bh7f, hT, bg7f]) <;> exact rfl
  apply W_nil
  apply K_seq
  apply T_if
  · (simp only [go_sem, Nat.reducePow, Nat.reduceLT, Nat.reduceAdd, Nat.reduceSub, Nat.reduceMul, Nat.reduceLeDiff, reduceIte, Nat.reduceEqDiff, Nat.reduceBEq, Try.ntmps3, M.walked_zero, bg0t, bg1t, bg2t, bh0f, bh1f, bh2f, ha1, hap, rI_get hap, hah, rH_get hah, bh3f, hw0, hgl, rB_get hgl, hgo, bg4t, bg5t, bh6f, bh7f, hT, bg7f]) <;> exact rfl
  · intro bh9t
    have h9t := bh9t
    try simp only [beq_true, beq_false, decide_eq_true_eq, decide_eq_false_iff_not, Bool.not_eq_true', Bool.not_eq_false', Bool.not_eq_true, Bool.not_eq_false, ne_eq, Int.ofNat_lt, Int.ofNat_le, beq_iff_eq, bne_iff_ne, beq_eq_false_iff_ne, bne_eq_false_iff_eq, ge_iff_le, gt_iff_lt, Bool.not_true, Bool.not_false, Decidable.not_not, Int.natCast_inj, Int.natCast_nonneg] at h9t
    try simp only [beq_true, beq_false, Bool.not_eq_true', Bool.not_eq_false', Bool.not_not, Bool.not_true, Bool.not_false] at bh9t
    try exact absurd bh9t (by decide)
    all_goals (
  apply T_seq
  apply T_wL F [0, 1, 2, 3, 4] rfl
  apply W_pre [0, 1] [2, 3, 4]
  · (simp only [go_sem, Nat.reducePow, Nat.reduceLT, Nat.reduceAdd, Nat.reduceSub, Nat.reduceMul, Nat.reduceLeDiff, reduceIte, Nat.reduceEqDiff, Nat.reduceBEq, Try.ntmps3, M.walked_zero, bg0t, bg1t, bg2t, bh0f, bh1f, bh2f, ha1, hap, rI_get hap, hah, rH_get hah, bh3f, hw0, hgl, rB_get hgl, hgo, bg4t, bg5t, bh6f, bh7f, hT, bg7f, bh9t]) <;> exact rfl
  apply W_guard
  · (simp only [go_sem, Nat.reducePow, Nat.reduceLT, Nat.reduceAdd, Nat.reduceSub, Nat.reduceMul, Nat.reduceLeDiff, reduceIte, Nat.reduceEqDiff, Nat.reduceBEq, Try.ntmps3, M.walked_zero, bg0t, bg1t, bg2t, bh0f, bh1f, bh2f, ha1, hap, rI_get hap, hah, rH_get hah, bh3f, hw0, hgl, rB_get hgl, hgo, bg4t, bg5t, bh6f, bh7f, hT, bg7f, bh9t]) <;> exact rfl
  · (simp only [go_sem, Nat.reducePow, Nat.reduceLT, Nat.reduceAdd, Nat.reduceSub, Nat.reduceMul, Nat.reduceLeDiff, reduceIte, Nat.reduceEqDiff, Nat.reduceBEq, Try.ntmps3, M.walked_zero, bg0t, bg1t, bg2t, bh0f, bh1f, bh2f, ha1, hap, rI_get hap, hah, rH_get hah, bh3f, hw0, hgl, rB_get hgl, hgo, bg4t, bg5t, bh6f, bh7f, hT, bg7f, bh9t]) <;> exact rfl
  · intro bg11t
    have g11t := bg11t
    try simp only [beq_true, beq_false, decide_eq_true_eq, decide_eq_false_iff_not, Bool.not_eq_true', Bool.not_eq_false', Bool.not_eq_true, Bool.not_eq_false, ne_eq, Int.ofNat_lt, Int.ofNat_le, beq_iff_eq, bne_iff_ne, beq_eq_false_iff_ne, bne_eq_false_iff_eq, ge_iff_le, gt_iff_lt, Bool.not_true, Bool.not_false, Decidable.not_not, Int.natCast_inj, Int.natCast_nonneg] at g11t
    try simp only [beq_true, beq_false, Bool.not_eq_true', Bool.not_eq_false', Bool.not_not, Bool.not_true, Bool.not_false] at bg11t
    try exact absurd bg11t (by decide)
    all_goals (
  apply W_call -- call 10 of function 16
  · (simp only [go_sem, Nat.reducePow, Nat.reduceLT, Nat.reduceAdd, Nat.reduceSub, Nat.reduceMul, Nat.reduceLeDiff, reduceIte, Nat.reduceEqDiff, Nat.reduceBEq, Try.ntmps3, M.walked_zero, bg0t, bg1t, bg2t, bh0f, bh1f, bh2f, ha1, hap, rI_get hap, hah, rH_get hah, bh3f, hw0, hgl, rB_get hgl, hgo, bg4t, bg5t, bh6f, bh7f, hT, bg7f, bh9t, bg11t]) <;> exact rfl
  · (simp only [go_sem, Nat.reducePow, Nat.reduceLT, Nat.reduceAdd, Nat.reduceSub, Nat.reduceMul, Nat.reduceLeDiff, reduceIte, Nat.reduceEqDiff, Nat.reduceBEq, Try.ntmps3, M.walked_zero, bg0t, bg1t, bg2t, bh0f, bh1f, bh2f, ha1, hap, rI_get hap, hah, rH_get hah, bh3f, hw0, hgl, rB_get hgl, hgo, bg4t, bg5t, bh6f, bh7f, hT, bg7f, bh9t, bg11t]) <;> exact rfl
  · exact rfl
  · (simp only [go_sem, Nat.reducePow, Nat.reduceLT, Nat.reduceAdd, Nat.reduceSub, Nat.reduceMul, Nat.reduceLeDiff, reduceIte, Nat.reduceEqDiff, Nat.reduceBEq, Try.ntmps3, M.walked_zero, bg0t, bg1t, bg2t, bh0f, bh1f, bh2f, ha1, hap, rI_get hap, hah, rH_get hah, bh3f, hw0, hgl, rB_get hgl, hgo, bg4t, bg5t, bh6f, bh7f, hT, bg7f, bh9t, bg11t]) <;> exact rfl
  · (simp only [go_sem, Nat.reducePow, Nat.reduceLT, Nat.reduceAdd, Nat.reduceSub, Nat.reduceMul, Nat.reduceLeDiff, reduceIte, Nat.reduceEqDiff, Nat.reduceBEq, Try.ntmps3, M.walked_zero, bg0t, bg1t, bg2t, bh0f, bh1f, bh2f, ha1, hap, rI_get hap, hah, rH_get hah, bh3f, hw0, hgl, rB_get hgl, hgo, bg4t, bg5t, bh6f, bh7f, hT, bg7f, bh9t, bg11t]) <;> exact rfl
  · exact ⟨_, Try.func16, rfl, rfl⟩
  · (simp only [go_sem, Nat.reducePow, Nat.reduceLT, Nat.reduceAdd, Nat.reduceSub, Nat.reduceMul, Nat.reduceLeDiff, reduceIte, Nat.reduceEqDiff, Nat.reduceBEq, Try.ntmps3, M.walked_zero, bg0t, bg1t, bg2t, bh0f, bh1f, bh2f, ha1, hap, rI_get hap, hah, rH_get hah, bh3f, hw0, hgl, rB_get hgl, hgo, bg4t, bg5t, bh6f, bh7f, hT, bg7f, bh9t, bg11t]) <;> exact rfl
  · (simp only [go_sem, Nat.reducePow, Nat.reduceLT, Nat.reduceAdd, Nat.reduceSub, Nat.reduceMul, Nat.reduceLeDiff, reduceIte, Nat.reduceEqDiff, Nat.reduceBEq, Try.ntmps3, M.walked_zero, bg0t, bg1t, bg2t, bh0f, bh1f, bh2f, ha1, hap, rI_get hap, hah, rH_get hah, bh3f, hw0, hgl, rB_get hgl, hgo, bg4t, bg5t, bh6f, bh7f, hT, bg7f, bh9t, bg11t]) <;> exact rfl
  · exact known_ok
  apply W_run
  · (simp only [go_sem, Nat.reducePow, Nat.reduceLT, Nat.reduceAdd, Nat.reduceSub, Nat.reduceMul, Nat.reduceLeDiff, reduceIte, Nat.reduceEqDiff, Nat.reduceBEq, Try.ntmps3, M.walked_zero, bg0t, bg1t, bg2t, bh0f, bh1f, bh2f, ha1, hap, rI_get hap, hah, rH_get hah, bh3f, hw0, hgl, rB_get hgl, hgo, bg4t, bg5t, bh6f, bh7f, hT, bg7f, bh9t, bg11t]) <;> exact rfl
  apply W_nil
  apply K_seq
  apply T_ret
  apply K_seqR
  apply fin_ret
  · (simp only [go_sem, Nat.reducePow, Nat.reduceLT, Nat.reduceAdd, Nat.reduceSub, Nat.reduceMul, Nat.reduceLeDiff, reduceIte, Nat.reduceEqDiff, Nat.reduceBEq, Try.ntmps3, M.walked_zero, bg0t, bg1t, bg2t, bh0f, bh1f, bh2f, ha1, hap, rI_get hap, hah, rH_get hah, bh3f, hw0, hgl, rB_get hgl, hgo, bg4t, bg5t, bh6f, bh7f, hT, bg7f, bh9t, bg11t, Try.f3]) <;> exact rfl
  -- leaf 14 (ret)
  simp only [go_sem, Nat.reducePow, Nat.reduceLT, Nat.reduceAdd, Nat.reduceSub, Nat.reduceMul, Nat.reduceLeDiff, reduceIte, Nat.reduceEqDiff, Nat.reduceBEq, Try.ntmps3, M.walked_zero, bg0t, bg1t, bg2t, bh0f, bh1f, bh2f, ha1, hap, rI_get hap, hah, rH_get hah, bh3f, hw0, hgl, rB_get hgl, hgo, bg4t, bg5t, bh6f, bh7f, hT, bg7f, bh9t, bg11t, V.bool.injEq, V.int.injEq, true_and]
  all_goals grind)
  · intro bg11f
    have g11f := bg11f
    try simp only [beq_true, beq_false, decide_eq_true_eq, decide_eq_false_iff_not, Bool.not_eq_true', Bool.not_eq_false', Bool.not_eq_true, Bool.not_eq_false, ne_eq, Int.ofNat_lt, Int.ofNat_le, beq_iff_eq, bne_iff_ne, beq_eq_false_iff_ne, bne_eq_false_iff_eq, ge_iff_le, gt_iff_lt, Bool.not_true, Bool.not_false, Decidable.not_not, Int.natCast_inj, Int.natCast_nonneg] at g11f
    try simp only [beq_true, beq_false, Bool.not_eq_true', Bool.not_eq_false', Bool.not_not, Bool.not_true, Bool.not_false] at bg11f
    try exact absurd bg11f (by decide)
    all_goals (
  apply W_run
  · (simp only [go_sem, Nat.reducePow, Nat.reduceLT, Nat.reduceAdd, Nat.reduceSub, Nat.reduceMul, Nat.reduceLeDiff, reduceIte, Nat.reduceEqDiff, Nat.reduceBEq, Try.ntmps3, M.walked_zero, bg0t, bg1t, bg2t, bh0f, bh1f, bh2f, ha1, hap, rI_get hap, hah, rH_get hah, bh3f, hw0, hgl, rB_get hgl, hgo, bg4t, bg5t, bh6f, bh7f, hT, bg7f, bh9t, bg11f]) <;> exact rfl
  apply W_nil
  apply K_seq
  apply T_ret
  apply K_seqR
  apply fin_ret
  · (simp only [go_sem, Nat.reducePow, Nat.reduceLT, Nat.reduceAdd, Nat.reduceSub, Nat.reduceMul, Nat.reduceLeDiff, reduceIte, Nat.reduceEqDiff, Nat.reduceBEq, Try.ntmps3, M.walked_zero, bg0t, bg1t, bg2t, bh0f, bh1f, bh2f, ha1, hap, rI_get hap, hah, rH_get hah, bh3f, hw0, hgl, rB_get hgl, hgo, bg4t, bg5t, bh6f, bh7f, hT, bg7f, bh9t, bg11f, Try.f3]) <;> exact rfl
  -- leaf 15 (ret)
  simp only [go_sem, Nat.reducePow, Nat.reduceLT, Nat.reduceAdd, Nat.reduceSub, Nat.reduceMul, Nat.reduceLeDiff, reduceIte, Nat.reduceEqDiff, Nat.reduceBEq, Try.ntmps3, M.walked_zero, bg0t, bg1t, bg2t, bh0f, bh1f, bh2f, ha1, hap, rI_get hap, hah, rH_get hah, bh3f, hw0, hgl, rB_get hgl, hgo, bg4t, bg5t, bh6f, bh7f, hT, bg7f, bh9t, bg11f, V.bool.injEq, V.int.injEq, true_and]
  all_goals grind))
  · intro bh9f
    exact absurd bh9f (by simp)))))
  · intro bg5f
    have g5f := bg5f
    try simp only [beq_true, beq_false, decide_eq_true_eq, decide_eq_false_iff_not, Bool.not_eq_true', Bool.not_eq_false', Bool.not_eq_true, Bool.not_eq_false, ne_eq, Int.ofNat_lt, Int.ofNat_le, beq_iff_eq, bne_iff_ne, beq_eq_false_iff_ne, bne_eq_false_iff_eq, ge_iff_le, gt_iff_lt, Bool.not_true, Bool.not_false, Decidable.not_not, Int.natCast_inj, Int.natCast_nonneg] at g5f
    try simp only [beq_true, beq_false, Bool.not_eq_true', Bool.not_eq_false', Bool.not_not, Bool.not_true, Bool.not_false] at bg5f
    try exact absurd bg5f (by decide)
    all_goals (
  apply W_run
  · (simp only [go_sem, Nat.reducePow, Nat.reduceLT, Nat.reduceAdd, Nat.reduceSub, Nat.reduceMul, Nat.reduceLeDiff, reduceIte, Nat.reduceEqDiff, Nat.reduceBEq, Try.ntmps3, M.walked_zero, bg0t, bg1t, bg2t, bh0f, bh1f, bh2f, ha1, hap, rI_get hap, hah, rH_get hah, bh3f, hw0, hgl, rB_get hgl, hgo, bg4t, bg5f]) <;> exact rfl
  apply W_nil
  apply K_seq
  apply T_if
  · (simp only [go_sem, Nat.reducePow, Nat.reduceLT, Nat.reduceAdd, Nat.reduceSub, Nat.reduceMul, Nat.reduceLeDiff, reduceIte, Nat.reduceEqDiff, Nat.reduceBEq, Try.ntmps3, M.walked_zero, bg0t, bg1t, bg2t, bh0f, bh1f, bh2f, ha1, hap, rI_get hap, hah, rH_get hah, bh3f, hw0, hgl, rB_get hgl, hgo, bg4t, bg5f]) <;> exact rfl
  · intro bh10t
    exact absurd bh10t (by simp)
  · intro bh10f
    have h10f := bh10f
    try simp only [beq_true, beq_false, decide_eq_true_eq, decide_eq_false_iff_not, Bool.not_eq_true', Bool.not_eq_false', Bool.not_eq_true, Bool.not_eq_false, ne_eq, Int.ofNat_lt, Int.ofNat_le, beq_iff_eq, bne_iff_ne, beq_eq_false_iff_ne, bne_eq_false_iff_eq, ge_iff_le, gt_iff_lt, Bool.not_true, Bool.not_false, Decidable.not_not, Int.natCast_inj, Int.natCast_nonneg] at h10f
    try simp only [beq_true, beq_false, Bool.not_eq_true', Bool.not_eq_false', Bool.not_not, Bool.not_true, Bool.not_false] at bh10f
    try exact absurd bh10f (by decide)
    all_goals (
  apply T_skip
  apply K_seq
  apply T_seq
  apply T_r F
  · (simp only [go_sem, Nat.reducePow, Nat.reduceLT, Nat.reduceAdd, Nat.reduceSub, Nat.reduceMul, Nat.reduceLeDiff, reduceIte, Nat.reduceEqDiff, Nat.reduceBEq, Try.ntmps3, M.walked_zero, bg0t, bg1t, bg2t, bh0f, bh1f, bh2f, ha1, hap, rI_get hap, hah, rH_get hah, bh3f, hw0, hgl, rB_get hgl, hgo, bg4t, bg5f, bh10f]) <;> exact rfl
  apply K_seq
  apply T_seq
  apply T_seq
  apply T_r F
  · (simp only [go_sem, Nat.reducePow, Nat.reduceLT, Nat.reduceAdd, Nat.reduceSub, Nat.reduceMul, Nat.reduceLeDiff, reduceIte, Nat.reduceEqDiff, Nat.reduceBEq, Try.ntmps3, M.walked_zero, bg0t, bg1t, bg2t, bh0f, bh1f, bh2f, ha1, hap, rI_get hap, hah, rH_get hah, bh3f, hw0, hgl, rB_get hgl, hgo, bg4t, bg5f, bh10f]) <;> exact rfl
  apply K_seq
  apply T_block
  apply T_lp (α := Nat) [false, true, false, true, true, false, false, false, false, false, false, true, false, false, true, true, false, false, false, false, false, false, false, false, false, false, false, false, false, false, false, false, false, false, false, false, false, false, false, false, false, false, false, false, false, false, false, false, false, false, false, false, false, false, false, false, false, false, false, false, false, false, false, false, false, false, false, false, false, false, false, false, false, false, false, false, false, false, false, false, false, false, false, false, false, false, false, false, false, false, false, false, false, false, false, false, false, false, false, false, false, false, false, false, false, false, false, false, false, false, false, false, false, false, false, false, false, false, false, false, false, false, false, false, false, false, false, false, false, false, false, false, false, false, false, false, false, false, false, false, false, false, false, false, false, false, false, false, false, false, false, false, false, false, false, false, false, false, false, false, false, false, false, false, false, false, false] (fun j => (⟨[.undef, .sl 1 (rI p), .undef, .int .i64 b, .ptr 0 0, .undef, .undef, .undef, .undef, .undef, .undef, .int .i64 p[a.toNat], .undef, .undef, .bool (M.walked t p[a.toNat] t.houses[a.toNat].school j), .int .i64 (j : Int), .undef, .undef, .undef, .undef, .undef, .undef, .undef, .undef, .undef, .undef, .undef, .undef, .undef, .undef, .undef, .undef, .undef, .undef, .undef, .undef, .undef, .undef, .undef, .undef, .undef, .undef, .undef, .undef, .undef, .undef, .undef, .undef, .undef, .undef, .undef, .undef, .undef, .undef, .undef, .undef, .undef, .undef, .undef, .undef, .undef, .undef, .undef, .undef, .undef, .undef, .undef, .undef, .undef, .undef, .undef, .undef, .undef, .undef, .undef, .undef, .undef, .undef, .undef, .undef, .undef, .undef, .undef, .undef, .undef, .undef, .undef, .undef, .undef, .undef, .undef, .undef, .undef, .undef, .undef, .undef, .undef, .undef, .undef, .undef, .undef, .undef, .undef, .undef, .undef, .undef, .undef, .undef, .undef, .undef, .undef, .undef, .undef, .undef, .undef, .undef, .undef, .undef, .undef, .undef, .undef, .undef, .undef, .undef, .undef, .undef, .undef, .undef, .undef, .undef, .undef, .undef, .undef, .undef, .undef, .undef, .undef, .undef, .undef, .undef, .undef, .undef, .undef, .undef, .undef, .undef, .undef, .undef, .undef, .undef, .undef, .undef, .undef, .undef, .undef, .undef, .undef, .undef, .undef, .undef, .undef, .undef, .undef, .undef, .undef, .undef, .undef], [.box 28 (cT t), .box 35 [.int .i64 (M.fault t p).1, .int .i64 (M.fault t p).2], .box 40 [.int .i64 t.houses[a.toNat].lot, .sl 1 (rI t.houses[a.toNat].wishes), .bool t.houses[a.toNat].school]]⟩ : St)) (fun j => j ≤ t.schools.length) (fun j => t.schools.length - j) (0)
  · (simp only [go_sem, Nat.reducePow, Nat.reduceLT, Nat.reduceAdd, Nat.reduceSub, Nat.reduceMul, Nat.reduceLeDiff, reduceIte, Nat.reduceEqDiff, Nat.reduceBEq, Try.ntmps3, M.walked_zero, bg0t, bg1t, bg2t, bh0f, bh1f, bh2f, ha1, hap, rI_get hap, hah, rH_get hah, bh3f, hw0, hgl, rB_get hgl, hgo, bg4t, bg5f, bh10f]) <;> exact rfl
  · exact Nat.zero_le _
  · rintro j hj
    apply T_seq
    apply T_seq
    apply T_r F
    · (simp only [go_sem, Nat.reducePow, Nat.reduceLT, Nat.reduceAdd, Nat.reduceSub, Nat.reduceMul, Nat.reduceLeDiff, reduceIte, Nat.reduceEqDiff, Nat.reduceBEq, Try.ntmps3, M.walked_zero, bg0t, bg1t, bg2t, bh0f, bh1f, bh2f, ha1, hap, rI_get hap, hah, rH_get hah, bh3f, hw0, hgl, rB_get hgl, hgo, bg4t, bg5f, bh10f]) <;> exact rfl
    apply K_seq
    apply T_if
    · (simp only [go_sem, Nat.reducePow, Nat.reduceLT, Nat.reduceAdd, Nat.reduceSub, Nat.reduceMul, Nat.reduceLeDiff, reduceIte, Nat.reduceEqDiff, Nat.reduceBEq, Try.ntmps3, M.walked_zero, bg0t, bg1t, bg2t, bh0f, bh1f, bh2f, ha1, hap, rI_get hap, hah, rH_get hah, bh3f, hw0, hgl, rB_get hgl, hgo, bg4t, bg5f, bh10f]) <;> exact rfl
    · intro bh11t
      have h11t := bh11t
      try simp only [beq_true, beq_false, decide_eq_true_eq, decide_eq_false_iff_not, Bool.not_eq_true', Bool.not_eq_false', Bool.not_eq_true, Bool.not_eq_false, ne_eq, Int.ofNat_lt, Int.ofNat_le, beq_iff_eq, bne_iff_ne, beq_eq_false_iff_ne, bne_eq_false_iff_eq, ge_iff_le, gt_iff_lt, Bool.not_true, Bool.not_false, Decidable.not_not, Int.natCast_inj, Int.natCast_nonneg] at h11t
      try simp only [beq_true, beq_false, Bool.not_eq_true', Bool.not_eq_false', Bool.not_not, Bool.not_true, Bool.not_false] at bh11t
      try exact absurd bh11t (by decide)
      all_goals (
  have hbj : j < 9223372036854775807 := by omega
  have hsl := M.lot_iff.1 (ok.school (List.getElem_mem h11t))
  have s0 : 0 ≤ t.schools[j] := hsl.1
  have s1 : (t.schools[j]).toNat < (t.walk[(p[a.toNat]).toNat]).length := by rw [ok.square hw1]; omega
  have hst := M.walked_step (n := p[a.toNat]) (b := t.houses[a.toNat].school) h11t
  rw [M.near, M.dist_get hw1 s1] at hst
  apply T_skip
  apply K_seq
  apply T_seq
  apply T_block
  apply T_qL F [0, 1, 2, 3, 4, 5, 6, 7, 8, 9, 10, 11, 12, 13, 14, 15, 16, 17, 18] rfl (by kernel_rfl)
  apply Q_pre [0, 1] [2, 3, 4, 5, 6, 7, 8, 9, 10, 11, 12, 13, 14, 15, 16, 17, 18]
  · (simp only [go_sem, Nat.reducePow, Nat.reduceLT, Nat.reduceAdd, Nat.reduceSub, Nat.reduceMul, Nat.reduceLeDiff, reduceIte, Nat.reduceEqDiff, Nat.reduceBEq, Try.ntmps3, M.walked_zero, bg0t, bg1t, bg2t, bh0f, bh1f, bh2f, ha1, hap, rI_get hap, hah, rH_get hah, bh3f, hw0, hgl, rB_get hgl, hgo, bg4t, bg5f, bh10f, bh11t, h11t, rI_get h11t, s0, s1, rL_get hw1, rI_get s1, hw1, hbj]) <;> exact rfl
  apply Q_guard
  · (simp only [go_sem, Nat.reducePow, Nat.reduceLT, Nat.reduceAdd, Nat.reduceSub, Nat.reduceMul, Nat.reduceLeDiff, reduceIte, Nat.reduceEqDiff, Nat.reduceBEq, Try.ntmps3, M.walked_zero, bg0t, bg1t, bg2t, bh0f, bh1f, bh2f, ha1, hap, rI_get hap, hah, rH_get hah, bh3f, hw0, hgl, rB_get hgl, hgo, bg4t, bg5f, bh10f, bh11t, h11t, rI_get h11t, s0, s1, rL_get hw1, rI_get s1, hw1, hbj]) <;> exact rfl
  · (simp only [go_sem, Nat.reducePow, Nat.reduceLT, Nat.reduceAdd, Nat.reduceSub, Nat.reduceMul, Nat.reduceLeDiff, reduceIte, Nat.reduceEqDiff, Nat.reduceBEq, Try.ntmps3, M.walked_zero, bg0t, bg1t, bg2t, bh0f, bh1f, bh2f, ha1, hap, rI_get hap, hah, rH_get hah, bh3f, hw0, hgl, rB_get hgl, hgo, bg4t, bg5f, bh10f, bh11t, h11t, rI_get h11t, s0, s1, rL_get hw1, rI_get s1, hw1, hbj]) <;> exact rfl
  · intro bg12t
    have g12t := bg12t
    try simp only [beq_true, beq_false, decide_eq_true_eq, decide_eq_false_iff_not, Bool.not_eq_true', Bool.not_eq_false', Bool.not_eq_true, Bool.not_eq_false, ne_eq, Int.ofNat_lt, Int.ofNat_le, beq_iff_eq, bne_iff_ne, beq_eq_false_iff_ne, bne_eq_false_iff_eq, ge_iff_le, gt_iff_lt, Bool.not_true, Bool.not_false, Decidable.not_not, Int.natCast_inj, Int.natCast_nonneg] at g12t
    try simp only [beq_true, beq_false, Bool.not_eq_true', Bool.not_eq_false', Bool.not_not, Bool.not_true, Bool.not_false] at bg12t
    try exact absurd bg12t (by decide)
    all_goals (
  rw [bg12t, Bool.false_or] at hst
  apply Q_pre [2, 3, 4, 5] [6, 7, 8, 9, 10, 11, 12, 13, 14, 15, 16, 17, 18]
  · (simp only [go_sem, Nat.reducePow, Nat.reduceLT, Nat.reduceAdd, Nat.reduceSub, Nat.reduceMul, Nat.reduceLeDiff, reduceIte, Nat.reduceEqDiff, Nat.reduceBEq, Try.ntmps3, M.walked_zero, bg0t, bg1t, bg2t, bh0f, bh1f, bh2f, ha1, hap, rI_get hap, hah, rH_get hah, bh3f, hw0, hgl, rB_get hgl, hgo, bg4t, bg5f, bh10f, bh11t, h11t, rI_get h11t, s0, s1, rL_get hw1, rI_get s1, hw1, hbj, bg12t, hst]) <;> exact rfl
  apply Q_pre [6, 7, 8, 9] [10, 11, 12, 13, 14, 15, 16, 17, 18]
  · (simp only [go_sem, Nat.reducePow, Nat.reduceLT, Nat.reduceAdd, Nat.reduceSub, Nat.reduceMul, Nat.reduceLeDiff, reduceIte, Nat.reduceEqDiff, Nat.reduceBEq, Try.ntmps3, M.walked_zero, bg0t, bg1t, bg2t, bh0f, bh1f, bh2f, ha1, hap, rI_get hap, hah, rH_get hah, bh3f, hw0, hgl, rB_get hgl, hgo, bg4t, bg5f, bh10f, bh11t, h11t, rI_get h11t, s0, s1, rL_get hw1, rI_get s1, hw1, hbj, bg12t, hst]) <;> exact rfl
  apply Q_pre [10, 11, 12, 13] [14, 15, 16, 17, 18]
  · (simp only [go_sem, Nat.reducePow, Nat.reduceLT, Nat.reduceAdd, Nat.reduceSub, Nat.reduceMul, Nat.reduceLeDiff, reduceIte, Nat.reduceEqDiff, Nat.reduceBEq, Try.ntmps3, M.walked_zero, bg0t, bg1t, bg2t, bh0f, bh1f, bh2f, ha1, hap, rI_get hap, hah, rH_get hah, bh3f, hw0, hgl, rB_get hgl, hgo, bg4t, bg5f, bh10f, bh11t, h11t, rI_get h11t, s0, s1, rL_get hw1, rI_get s1, hw1, hbj, bg12t, hst]) <;> exact rfl
  apply Q_run
  · (simp only [go_sem, Nat.reducePow, Nat.reduceLT, Nat.reduceAdd, Nat.reduceSub, Nat.reduceMul, Nat.reduceLeDiff, reduceIte, Nat.reduceEqDiff, Nat.reduceBEq, Try.ntmps3, M.walked_zero, bg0t, bg1t, bg2t, bh0f, bh1f, bh2f, ha1, hap, rI_get hap, hah, rH_get hah, bh3f, hw0, hgl, rB_get hgl, hgo, bg4t, bg5f, bh10f, bh11t, h11t, rI_get h11t, s0, s1, rL_get hw1, rI_get s1, hw1, hbj, bg12t, hst]) <;> exact rfl
  apply Q_nil
  apply K_blk
  apply K_seq
  apply T_r F
  · (simp only [go_sem, Nat.reducePow, Nat.reduceLT, Nat.reduceAdd, Nat.reduceSub, Nat.reduceMul, Nat.reduceLeDiff, reduceIte, Nat.reduceEqDiff, Nat.reduceBEq, Try.ntmps3, M.walked_zero, bg0t, bg1t, bg2t, bh0f, bh1f, bh2f, ha1, hap, rI_get hap, hah, rH_get hah, bh3f, hw0, hgl, rB_get hgl, hgo, bg4t, bg5f, bh10f, bh11t, h11t, rI_get h11t, s0, s1, rL_get hw1, rI_get s1, hw1, hbj, bg12t, hst]) <;> exact rfl
  refine K_lp (j + 1) ?_ ?_
  · (simp only [go_sem, Nat.reducePow, Nat.reduceLT, Nat.reduceAdd, Nat.reduceSub, Nat.reduceMul, Nat.reduceLeDiff, reduceIte, Nat.reduceEqDiff, Nat.reduceBEq, Try.ntmps3, M.walked_zero, bg0t, bg1t, bg2t, bh0f, bh1f, bh2f, ha1, hap, rI_get hap, hah, rH_get hah, bh3f, hw0, hgl, rB_get hgl, hgo, bg4t, bg5f, bh10f, bh11t, h11t, rI_get h11t, s0, s1, rL_get hw1, rI_get s1, hw1, hbj, bg12t, hst]) <;> exact rfl
  -- leaf 16 (loop2)
  all_goals grind)
  · intro bg12f
    have g12f := bg12f
    try simp only [beq_true, beq_false, decide_eq_true_eq, decide_eq_false_iff_not, Bool.not_eq_true', Bool.not_eq_false', Bool.not_eq_true, Bool.not_eq_false, ne_eq, Int.ofNat_lt, Int.ofNat_le, beq_iff_eq, bne_iff_ne, beq_eq_false_iff_ne, bne_eq_false_iff_eq, ge_iff_le, gt_iff_lt, Bool.not_true, Bool.not_false, Decidable.not_not, Int.natCast_inj, Int.natCast_nonneg] at g12f
    try simp only [beq_true, beq_false, Bool.not_eq_true', Bool.not_eq_false', Bool.not_not, Bool.not_true, Bool.not_false] at bg12f
    try exact absurd bg12f (by decide)
    all_goals (
  rw [bg12f, Bool.true_or] at hst
  apply Q_pre [2, 3, 4, 5] [6, 7, 8, 9, 10, 11, 12, 13, 14, 15, 16, 17, 18]
  · (simp only [go_sem, Nat.reducePow, Nat.reduceLT, Nat.reduceAdd, Nat.reduceSub, Nat.reduceMul, Nat.reduceLeDiff, reduceIte, Nat.reduceEqDiff, Nat.reduceBEq, Try.ntmps3, M.walked_zero, bg0t, bg1t, bg2t, bh0f, bh1f, bh2f, ha1, hap, rI_get hap, hah, rH_get hah, bh3f, hw0, hgl, rB_get hgl, hgo, bg4t, bg5f, bh10f, bh11t, h11t, rI_get h11t, s0, s1, rL_get hw1, rI_get s1, hw1, hbj, bg12f, hst]) <;> exact rfl
  apply Q_pre [6, 7, 8, 9] [10, 11, 12, 13, 14, 15, 16, 17, 18]
  · (simp only [go_sem, Nat.reducePow, Nat.reduceLT, Nat.reduceAdd, Nat.reduceSub, Nat.reduceMul, Nat.reduceLeDiff, reduceIte, Nat.reduceEqDiff, Nat.reduceBEq, Try.ntmps3, M.walked_zero, bg0t, bg1t, bg2t, bh0f, bh1f, bh2f, ha1, hap, rI_get hap, hah, rH_get hah, bh3f, hw0, hgl, rB_get hgl, hgo, bg4t, bg5f, bh10f, bh11t, h11t, rI_get h11t, s0, s1, rL_get hw1, rI_get s1, hw1, hbj, bg12f, hst]) <;> exact rfl
  apply Q_pre [10, 11, 12, 13] [14, 15, 16, 17, 18]
  · (simp only [go_sem, Nat.reducePow, Nat.reduceLT, Nat.reduceAdd, Nat.reduceSub, Nat.reduceMul, Nat.reduceLeDiff, reduceIte, Nat.reduceEqDiff, Nat.reduceBEq, Try.ntmps3, M.walked_zero, bg0t, bg1t, bg2t, bh0f, bh1f, bh2f, ha1, hap, rI_get hap, hah, rH_get hah, bh3f, hw0, hgl, rB_get hgl, hgo, bg4t, bg5f, bh10f, bh11t, h11t, rI_get h11t, s0, s1, rL_get hw1, rI_get s1, hw1, hbj, bg12f, hst]) <;> exact rfl
  apply Q_run
  · (simp only [go_sem, Nat.reducePow, Nat.reduceLT, Nat.reduceAdd, Nat.reduceSub, Nat.reduceMul, Nat.reduceLeDiff, reduceIte, Nat.reduceEqDiff, Nat.reduceBEq, Try.ntmps3, M.walked_zero, bg0t, bg1t, bg2t, bh0f, bh1f, bh2f, ha1, hap, rI_get hap, hah, rH_get hah, bh3f, hw0, hgl, rB_get hgl, hgo, bg4t, bg5f, bh10f, bh11t, h11t, rI_get h11t, s0, s1, rL_get hw1, rI_get s1, hw1, hbj, bg12f, hst]) <;> exact rfl
  apply Q_nil
  apply K_blk
  apply K_seq
  apply T_r F
  · (simp only [go_sem, Nat.reducePow, Nat.reduceLT, Nat.reduceAdd, Nat.reduceSub, Nat.reduceMul, Nat.reduceLeDiff, reduceIte, Nat.reduceEqDiff, Nat.reduceBEq, Try.ntmps3, M.walked_zero, bg0t, bg1t, bg2t, bh0f, bh1f, bh2f, ha1, hap, rI_get hap, hah, rH_get hah, bh3f, hw0, hgl, rB_get hgl, hgo, bg4t, bg5f, bh10f, bh11t, h11t, rI_get h11t, s0, s1, rL_get hw1, rI_get s1, hw1, hbj, bg12f, hst]) <;> exact rfl
  refine K_lp (j + 1) ?_ ?_
  · (simp only [go_sem, Nat.reducePow, Nat.reduceLT, Nat.reduceAdd, Nat.reduceSub, Nat.reduceMul, Nat.reduceLeDiff, reduceIte, Nat.reduceEqDiff, Nat.reduceBEq, Try.ntmps3, M.walked_zero, bg0t, bg1t, bg2t, bh0f, bh1f, bh2f, ha1, hap, rI_get hap, hah, rH_get hah, bh3f, hw0, hgl, rB_get hgl, hgo, bg4t, bg5f, bh10f, bh11t, h11t, rI_get h11t, s0, s1, rL_get hw1, rI_get s1, hw1, hbj, bg12f, hst]) <;> exact rfl
  -- leaf 17 (loop2)
  all_goals grind))
    · intro bh11f
      have h11f := bh11f
      try simp only [beq_true, beq_false, decide_eq_true_eq, decide_eq_false_iff_not, Bool.not_eq_true', Bool.not_eq_false', Bool.not_eq_true, Bool.not_eq_false, ne_eq, Int.ofNat_lt, Int.ofNat_le, beq_iff_eq, bne_iff_ne, beq_eq_false_iff_ne, bne_eq_false_iff_eq, ge_iff_le, gt_iff_lt, Bool.not_true, Bool.not_false, Decidable.not_not, Int.natCast_inj, Int.natCast_nonneg] at h11f
      try simp only [beq_true, beq_false, Bool.not_eq_true', Bool.not_eq_false', Bool.not_not, Bool.not_true, Bool.not_false] at bh11f
      try exact absurd bh11f (by decide)
      all_goals (
  have hT := M.walked_all ok hla h11f hut
  apply T_exit
  apply K_seqE
  apply K_lpE
  apply K_blkE
  apply K_seq
  apply T_seq
  apply T_seq
  apply T_wL F [0, 1, 2, 3, 4, 5, 6, 7, 8] rfl
  apply W_pre [0, 1, 2] [3, 4, 5, 6, 7, 8]
  · (simp only [go_sem, Nat.reducePow, Nat.reduceLT, Nat.reduceAdd, Nat.reduceSub, Nat.reduceMul, Nat.reduceLeDiff, reduceIte, Nat.reduceEqDiff, Nat.reduceBEq, Try.ntmps3, M.walked_zero, bg0t, bg1t, bg2t, bh0f, bh1f, bh2f, ha1, hap, rI_get hap, hah, rH_get hah, bh3f, hw0, hgl, rB_get hgl, hgo, bg4t, bg5f, bh10f, bh11f, hT]) <;> exact rfl
  apply W_guard
  · (simp only [go_sem, Nat.reducePow, Nat.reduceLT, Nat.reduceAdd, Nat.reduceSub, Nat.reduceMul, Nat.reduceLeDiff, reduceIte, Nat.reduceEqDiff, Nat.reduceBEq, Try.ntmps3, M.walked_zero, bg0t, bg1t, bg2t, bh0f, bh1f, bh2f, ha1, hap, rI_get hap, hah, rH_get hah, bh3f, hw0, hgl, rB_get hgl, hgo, bg4t, bg5f, bh10f, bh11f, hT]) <;> exact rfl
  · (simp only [go_sem, Nat.reducePow, Nat.reduceLT, Nat.reduceAdd, Nat.reduceSub, Nat.reduceMul, Nat.reduceLeDiff, reduceIte, Nat.reduceEqDiff, Nat.reduceBEq, Try.ntmps3, M.walked_zero, bg0t, bg1t, bg2t, bh0f, bh1f, bh2f, ha1, hap, rI_get hap, hah, rH_get hah, bh3f, hw0, hgl, rB_get hgl, hgo, bg4t, bg5f, bh10f, bh11f, hT]) <;> exact rfl
  · intro bg13t
    have g13t := bg13t
    try simp only [beq_true, beq_false, decide_eq_true_eq, decide_eq_false_iff_not, Bool.not_eq_true', Bool.not_eq_false', Bool.not_eq_true, Bool.not_eq_false, ne_eq, Int.ofNat_lt, Int.ofNat_le, beq_iff_eq, bne_iff_ne, beq_eq_false_iff_ne, bne_eq_false_iff_eq, ge_iff_le, gt_iff_lt, Bool.not_true, Bool.not_false, Decidable.not_not, Int.natCast_inj, Int.natCast_nonneg] at g13t
    try simp only [beq_true, beq_false, Bool.not_eq_true', Bool.not_eq_false', Bool.not_not, Bool.not_true, Bool.not_false] at bg13t
    try exact absurd bg13t (by decide)
    all_goals (
  apply W_run
  · (simp only [go_sem, Nat.reducePow, Nat.reduceLT, Nat.reduceAdd, Nat.reduceSub, Nat.reduceMul, Nat.reduceLeDiff, reduceIte, Nat.reduceEqDiff, Nat.reduceBEq, Try.ntmps3, M.walked_zero, bg0t, bg1t, bg2t, bh0f, bh1f, bh2f, ha1, hap, rI_get hap, hah, rH_get hah, bh3f, hw0, hgl, rB_get hgl, hgo, bg4t, bg5f, bh10f, bh11f, hT, bg13t]) <;> exact rfl
  apply W_nil
  apply K_seq
  apply T_if
  · (simp only [go_sem, Nat.reducePow, Nat.reduceLT, Nat.reduceAdd, Nat.reduceSub, Nat.reduceMul, Nat.reduceLeDiff, reduceIte, Nat.reduceEqDiff, Nat.reduceBEq, Try.ntmps3, M.walked_zero, bg0t, bg1t, bg2t, bh0f, bh1f, bh2f, ha1, hap, rI_get hap, hah, rH_get hah, bh3f, hw0, hgl, rB_get hgl, hgo, bg4t, bg5f, bh10f, bh11f, hT, bg13t]) <;> exact rfl
  · intro bh12t
    have h12t := bh12t
    try simp only [beq_true, beq_false, decide_eq_true_eq, decide_eq_false_iff_not, Bool.not_eq_true', Bool.not_eq_false', Bool.not_eq_true, Bool.not_eq_false, ne_eq, Int.ofNat_lt, Int.ofNat_le, beq_iff_eq, bne_iff_ne, beq_eq_false_iff_ne, bne_eq_false_iff_eq, ge_iff_le, gt_iff_lt, Bool.not_true, Bool.not_false, Decidable.not_not, Int.natCast_inj, Int.natCast_nonneg] at h12t
    try simp only [beq_true, beq_false, Bool.not_eq_true', Bool.not_eq_false', Bool.not_not, Bool.not_true, Bool.not_false] at bh12t
    try exact absurd bh12t (by decide)
    all_goals (
  apply T_seq
  apply T_wL F [0, 1, 2, 3, 4] rfl
  apply W_pre [0, 1] [2, 3, 4]
  · (simp only [go_sem, Nat.reducePow, Nat.reduceLT, Nat.reduceAdd, Nat.reduceSub, Nat.reduceMul, Nat.reduceLeDiff, reduceIte, Nat.reduceEqDiff, Nat.reduceBEq, Try.ntmps3, M.walked_zero, bg0t, bg1t, bg2t, bh0f, bh1f, bh2f, ha1, hap, rI_get hap, hah, rH_get hah, bh3f, hw0, hgl, rB_get hgl, hgo, bg4t, bg5f, bh10f, bh11f, hT, bg13t, bh12t]) <;> exact rfl
  apply W_guard
  · (simp only [go_sem, Nat.reducePow, Nat.reduceLT, Nat.reduceAdd, Nat.reduceSub, Nat.reduceMul, Nat.reduceLeDiff, reduceIte, Nat.reduceEqDiff, Nat.reduceBEq, Try.ntmps3, M.walked_zero, bg0t, bg1t, bg2t, bh0f, bh1f, bh2f, ha1, hap, rI_get hap, hah, rH_get hah, bh3f, hw0, hgl, rB_get hgl, hgo, bg4t, bg5f, bh10f, bh11f, hT, bg13t, bh12t]) <;> exact rfl
  · (simp only [go_sem, Nat.reducePow, Nat.reduceLT, Nat.reduceAdd, Nat.reduceSub, Nat.reduceMul, Nat.reduceLeDiff, reduceIte, Nat.reduceEqDiff, Nat.reduceBEq, Try.ntmps3, M.walked_zero, bg0t, bg1t, bg2t, bh0f, bh1f, bh2f, ha1, hap, rI_get hap, hah, rH_get hah, bh3f, hw0, hgl, rB_get hgl, hgo, bg4t, bg5f, bh10f, bh11f, hT, bg13t, bh12t]) <;> exact rfl
  · intro bg14t
    have g14t := bg14t
    try simp only [beq_true, beq_false, decide_eq_true_eq, decide_eq_false_iff_not, Bool.not_eq_true', Bool.not_eq_false', Bool.not_eq_true, Bool.not_eq_false, ne_eq, Int.ofNat_lt, Int.ofNat_le, beq_iff_eq, bne_iff_ne, beq_eq_false_iff_ne, bne_eq_false_iff_eq, ge_iff_le, gt_iff_lt, Bool.not_true, Bool.not_false, Decidable.not_not, Int.natCast_inj, Int.natCast_nonneg] at g14t
    try simp only [beq_true, beq_false, Bool.not_eq_true', Bool.not_eq_false', Bool.not_not, Bool.not_true, Bool.not_false] at bg14t
    try exact absurd bg14t (by decide)
    all_goals (
  apply W_call -- call 11 of function 16
  · (simp only [go_sem, Nat.reducePow, Nat.reduceLT, Nat.reduceAdd, Nat.reduceSub, Nat.reduceMul, Nat.reduceLeDiff, reduceIte, Nat.reduceEqDiff, Nat.reduceBEq, Try.ntmps3, M.walked_zero, bg0t, bg1t, bg2t, bh0f, bh1f, bh2f, ha1, hap, rI_get hap, hah, rH_get hah, bh3f, hw0, hgl, rB_get hgl, hgo, bg4t, bg5f, bh10f, bh11f, hT, bg13t, bh12t, bg14t]) <;> exact rfl
  · (simp only [go_sem, Nat.reducePow, Nat.reduceLT, Nat.reduceAdd, Nat.reduceSub, Nat.reduceMul, Nat.reduceLeDiff, reduceIte, Nat.reduceEqDiff, Nat.reduceBEq, Try.ntmps3, M.walked_zero, bg0t, bg1t, bg2t, bh0f, bh1f, bh2f, ha1, hap, rI_get hap, hah, rH_get hah, bh3f, hw0, hgl, rB_get hgl, hgo, bg4t, bg5f, bh10f, bh11f, hT, bg13t, bh12t, bg14t]) <;> exact rfl
  · exact rfl
  · (simp only [go_sem, Nat.reducePow, Nat.reduceLT, Nat.reduceAdd, Nat.reduceSub, Nat.reduceMul, Nat.reduceLeDiff, reduceIte, Nat.reduceEqDiff, Nat.reduceBEq, Try.ntmps3, M.walked_zero, bg0t, bg1t, bg2t, bh0f, bh1f, bh2f, ha1, hap, rI_get hap, hah, rH_get hah, bh3f, hw0, hgl, rB_get hgl, hgo, bg4t, bg5f, bh10f, bh11f, hT, bg13t, bh12t, bg14t]) <;> exact rfl
  · (simp only [go_sem, Nat.reducePow, Nat.reduceLT, Nat.reduceAdd, Nat.reduceSub, Nat.reduceMul, Nat.reduceLeDiff, reduceIte, Nat.reduceEqDiff, Nat.reduceBEq, Try.ntmps3, M.walked_zero, bg0t, bg1t, bg2t, bh0f, bh1f, bh2f, ha1, hap, rI_get hap, hah, rH_get hah, bh3f, hw0, hgl, rB_get hgl, hgo, bg4t, bg5f, bh10f, bh11f, hT, bg13t, bh12t, bg14t]) <;> exact rfl
  · exact ⟨_, Try.func16, rfl, rfl⟩
  · (simp only [go_sem, Nat.reducePow, Nat.reduceLT, Nat.reduceAdd, Nat.reduceSub, Nat.reduceMul, Nat.reduceLeDiff, reduceIte, Nat.reduceEqDiff, Nat.reduceBEq, Try.ntmps3, M.walked_zero, bg0t, bg1t, bg2t, bh0f, bh1f, bh2f, ha1, hap, rI_get hap, hah, rH_get hah, bh3f, hw0, hgl, rB_get hgl, hgo, bg4t, bg5f, bh10f, bh11f, hT, bg13t, bh12t, bg14t]) <;> exact rfl
  · (simp only [go_sem, Nat.reducePow, Nat.reduceLT, Nat.reduceAdd, Nat.reduceSub, Nat.reduceMul, Nat.reduceLeDiff, reduceIte, Nat.reduceEqDiff, Nat.reduceBEq, Try.ntmps3, M.walked_zero, bg0t, bg1t, bg2t, bh0f, bh1f, bh2f, ha1, hap, rI_get hap, hah, rH_get hah, bh3f, hw0, hgl, rB_get hgl, hgo, bg4t, bg5f, bh10f, bh11f, hT, bg13t, bh12t, bg14t]) <;> exact rfl
  · exact known_ok
  apply W_run
  · (simp only [go_sem, Nat.reducePow, Nat.reduceLT, Nat.reduceAdd, Nat.reduceSub, Nat.reduceMul, Nat.reduceLeDiff, reduceIte, Nat.reduceEqDiff, Nat.reduceBEq, Try.ntmps3, M.walked_zero, bg0t, bg1t, bg2t, bh0f, bh1f, bh2f, ha1, hap, rI_get hap, hah, rH_get hah, bh3f, hw0, hgl, rB_get hgl, hgo, bg4t, bg5f, bh10f, bh11f, hT, bg13t, bh12t, bg14t]) <;> exact rfl
  apply W_nil
  apply K_seq
  apply T_ret
  apply K_seqR
  apply fin_ret
  · (simp only [go_sem, Nat.reducePow, Nat.reduceLT, Nat.reduceAdd, Nat.reduceSub, Nat.reduceMul, Nat.reduceLeDiff, reduceIte, Nat.reduceEqDiff, Nat.reduceBEq, Try.ntmps3, M.walked_zero, bg0t, bg1t, bg2t, bh0f, bh1f, bh2f, ha1, hap, rI_get hap, hah, rH_get hah, bh3f, hw0, hgl, rB_get hgl, hgo, bg4t, bg5f, bh10f, bh11f, hT, bg13t, bh12t, bg14t, Try.f3]) <;> exact rfl
  -- leaf 18 (ret)
  simp only [go_sem, Nat.reducePow, Nat.reduceLT, Nat.reduceAdd, Nat.reduceSub, Nat.reduceMul, Nat.reduceLeDiff, reduceIte, Nat.reduceEqDiff, Nat.reduceBEq, Try.ntmps3, M.walked_zero, bg0t, bg1t, bg2t, bh0f, bh1f, bh2f, ha1, hap, rI_get hap, hah, rH_get hah, bh3f, hw0, hgl, rB_get hgl, hgo, bg4t, bg5f, bh10f, bh11f, hT, bg13t, bh12t, bg14t, V.bool.injEq, V.int.injEq, true_and]
  all_goals grind)
  · intro bg14f
    have g14f := bg14f
    try simp only [beq_true, beq_false, decide_eq_true_eq, decide_eq_false_iff_not, Bool.not_eq_true', Bool.not_eq_false', Bool.not_eq_true, Bool.not_eq_false, ne_eq, Int.ofNat_lt, Int.ofNat_le, beq_iff_eq, bne_iff_ne, beq_eq_false_iff_ne, bne_eq_false_iff_eq, ge_iff_le, gt_iff_lt, Bool.not_true, Bool.not_false, Decidable.not_not, Int.natCast_inj, Int.natCast_nonneg] at g14f
    try simp only [beq_true, beq_false, Bool.not_eq_true', Bool.not_eq_false', Bool.not_not, Bool.not_true, Bool.not_false] at bg14f
    try exact absurd bg14f (by decide)
    all_goals (
  apply W_run
  · (simp only [go_sem, Nat.reducePow, Nat.reduceLT, Nat.reduceAdd, Nat.reduceSub, Nat.reduceMul, Nat.reduceLeDiff, reduceIte, Nat.reduceEqDiff, Nat.reduceBEq, Try.ntmps3, M.walked_zero, bg0t, bg1t, bg2t, bh0f, bh1f, bh2f, ha1, hap, rI_get hap, hah, rH_get hah, bh3f, hw0, hgl, rB_get hgl, hgo, bg4t, bg5f, bh10f, bh11f, hT, bg13t, bh12t, bg14f]) <;> exact rfl
  apply W_nil
  apply K_seq
  apply T_ret
  apply K_seqR
  apply fin_ret
  · (simp only [go_sem, Nat.reducePow, Nat.reduceLT, Nat.reduceAdd, Nat.reduceSub, Nat.reduceMul, Nat.reduceLeDiff, reduceIte, Nat.reduceEqDiff, Nat.reduceBEq, Try.ntmps3, M.walked_zero, bg0t, bg1t, bg2t, bh0f, bh1f, bh2f, ha1, hap, rI_get hap, hah, rH_get hah, bh3f, hw0, hgl, rB_get hgl, hgo, bg4t, bg5f, bh10f, bh11f, hT, bg13t, bh12t, bg14f, Try.f3]) <;> exact rfl
  -- leaf 19 (ret)
  simp only [go_sem, Nat.reducePow, Nat.reduceLT, Nat.reduceAdd, Nat.reduceSub, Nat.reduceMul, Nat.reduceLeDiff, reduceIte, Nat.reduceEqDiff, Nat.reduceBEq, Try.ntmps3, M.walked_zero, bg0t, bg1t, bg2t, bh0f, bh1f, bh2f, ha1, hap, rI_get hap, hah, rH_get hah, bh3f, hw0, hgl, rB_get hgl, hgo, bg4t, bg5f, bh10f, bh11f, hT, bg13t, bh12t, bg14f, V.bool.injEq, V.int.injEq, true_and]
  all_goals grind))
  · intro bh12f
    have h12f := bh12f
    try simp only [beq_true, beq_false, decide_eq_true_eq, decide_eq_false_iff_not, Bool.not_eq_true', Bool.not_eq_false', Bool.not_eq_true, Bool.not_eq_false, ne_eq, Int.ofNat_lt, Int.ofNat_le, beq_iff_eq, bne_iff_ne, beq_eq_false_iff_ne, bne_eq_false_iff_eq, ge_iff_le, gt_iff_lt, Bool.not_true, Bool.not_false, Decidable.not_not, Int.natCast_inj, Int.natCast_nonneg] at h12f
    try simp only [beq_true, beq_false, Bool.not_eq_true', Bool.not_eq_false', Bool.not_not, Bool.not_true, Bool.not_false] at bh12f
    try exact absurd bh12f (by decide)
    all_goals (
  have hb0 : 0 ≤ b := by omega
  have hbk : b.toNat < t.kin.length := by omega
  obtain ⟨k1, k2, _⟩ := ok.kins b.toNat hbk
  rw [M.kn_get hbk] at k1 k2
  have k3 := M.house_iff.1 k1
  have k4 := M.house_iff.1 k2
  have x0 : 0 ≤ t.kin[b.toNat].1 := k3.1
  have x1 : t.kin[b.toNat].1.toNat < p.length := by omega
  have y0 : 0 ≤ t.kin[b.toNat].2 := k4.1
  have y1 : t.kin[b.toNat].2.toNat < p.length := by omega
  have lx := hpl.2 _ x1
  have ly := hpl.2 _ y1
  rw [M.at_get x1] at lx
  rw [M.at_get y1] at ly
  have lx1 := M.lot_iff.1 lx
  have ly1 := M.lot_iff.1 ly
  have x2 := lx1.1
  have x3 : (p[t.kin[b.toNat].1.toNat]).toNat < t.walk.length := by omega
  have y2 := ly1.1
  have y3 : (p[t.kin[b.toNat].2.toNat]).toNat < (t.walk[(p[t.kin[b.toNat].1.toNat]).toNat]).length := by rw [ok.square x3]; omega
  have hkn : t.walk[(p[t.kin[b.toNat].1.toNat]).toNat][(p[t.kin[b.toNat].2.toNat]).toNat] ≤ t.reach := by
    have := hf.2 b.toNat hbk
    rw [M.apart, M.kn_get hbk, M.at_get x1, M.at_get y1, M.near, M.dist_get x3 y3] at this
    simpa using this
  apply T_skip
  apply K_seq
  apply T_seq
  apply T_qL F [0, 1, 2, 3, 4, 5, 6, 7, 8, 9, 10, 11, 12, 13, 14, 15, 16, 17, 18, 19, 20, 21, 22, 23, 24, 25, 26, 27, 28, 29, 30, 31, 32, 33] rfl (by kernel_rfl)
  apply Q_pre [0, 1] [2, 3, 4, 5, 6, 7, 8, 9, 10, 11, 12, 13, 14, 15, 16, 17, 18, 19, 20, 21, 22, 23, 24, 25, 26, 27, 28, 29, 30, 31, 32, 33]
  · (simp only [go_sem, Nat.reducePow, Nat.reduceLT, Nat.reduceAdd, Nat.reduceSub, Nat.reduceMul, Nat.reduceLeDiff, reduceIte, Nat.reduceEqDiff, Nat.reduceBEq, Try.ntmps3, M.walked_zero, bg0t, bg1t, bg2t, bh0f, bh1f, bh2f, ha1, hap, rI_get hap, hah, rH_get hah, bh3f, hw0, hgl, rB_get hgl, hgo, bg4t, bg5f, bh10f, bh11f, hT, bg13t, bh12f, hb0, hbk, rP_get hbk, x0, x1, rI_get x1, y0, y1, rI_get y1, x2, x3, rL_get x3, y2, y3, rI_get y3, hkn]) <;> exact rfl
  apply Q_guard
  · (simp only [go_sem, Nat.reducePow, Nat.reduceLT, Nat.reduceAdd, Nat.reduceSub, Nat.reduceMul, Nat.reduceLeDiff, reduceIte, Nat.reduceEqDiff, Nat.reduceBEq, Try.ntmps3, M.walked_zero, bg0t, bg1t, bg2t, bh0f, bh1f, bh2f, ha1, hap, rI_get hap, hah, rH_get hah, bh3f, hw0, hgl, rB_get hgl, hgo, bg4t, bg5f, bh10f, bh11f, hT, bg13t, bh12f, hb0, hbk, rP_get hbk, x0, x1, rI_get x1, y0, y1, rI_get y1, x2, x3, rL_get x3, y2, y3, rI_get y3, hkn]) <;> exact rfl
  · (simp only [go_sem, Nat.reducePow, Nat.reduceLT, Nat.reduceAdd, Nat.reduceSub, Nat.reduceMul, Nat.reduceLeDiff, reduceIte, Nat.reduceEqDiff, Nat.reduceBEq, Try.ntmps3, M.walked_zero, bg0t, bg1t, bg2t, bh0f, bh1f, bh2f, ha1, hap, rI_get hap, hah, rH_get hah, bh3f, hw0, hgl, rB_get hgl, hgo, bg4t, bg5f, bh10f, bh11f, hT, bg13t, bh12f, hb0, hbk, rP_get hbk, x0, x1, rI_get x1, y0, y1, rI_get y1, x2, x3, rL_get x3, y2, y3, rI_get y3, hkn]) <;> exact rfl
  · intro bg15t
    have g15t := bg15t
    try simp only [beq_true, beq_false, decide_eq_true_eq, decide_eq_false_iff_not, Bool.not_eq_true', Bool.not_eq_false', Bool.not_eq_true, Bool.not_eq_false, ne_eq, Int.ofNat_lt, Int.ofNat_le, beq_iff_eq, bne_iff_ne, beq_eq_false_iff_ne, bne_eq_false_iff_eq, ge_iff_le, gt_iff_lt, Bool.not_true, Bool.not_false, Decidable.not_not, Int.natCast_inj, Int.natCast_nonneg] at g15t
    try simp only [beq_true, beq_false, Bool.not_eq_true', Bool.not_eq_false', Bool.not_not, Bool.not_true, Bool.not_false] at bg15t
    try exact absurd bg15t (by decide)
    all_goals (
  apply Q_pre [2, 3, 4, 5] [6, 7, 8, 9, 10, 11, 12, 13, 14, 15, 16, 17, 18, 19, 20, 21, 22, 23, 24, 25, 26, 27, 28, 29, 30, 31, 32, 33]
  · (simp only [go_sem, Nat.reducePow, Nat.reduceLT, Nat.reduceAdd, Nat.reduceSub, Nat.reduceMul, Nat.reduceLeDiff, reduceIte, Nat.reduceEqDiff, Nat.reduceBEq, Try.ntmps3, M.walked_zero, bg0t, bg1t, bg2t, bh0f, bh1f, bh2f, ha1, hap, rI_get hap, hah, rH_get hah, bh3f, hw0, hgl, rB_get hgl, hgo, bg4t, bg5f, bh10f, bh11f, hT, bg13t, bh12f, hb0, hbk, rP_get hbk, x0, x1, rI_get x1, y0, y1, rI_get y1, x2, x3, rL_get x3, y2, y3, rI_get y3, hkn, bg15t]) <;> exact rfl
  apply Q_pre [6, 7, 8, 9] [10, 11, 12, 13, 14, 15, 16, 17, 18, 19, 20, 21, 22, 23, 24, 25, 26, 27, 28, 29, 30, 31, 32, 33]
  · (simp only [go_sem, Nat.reducePow, Nat.reduceLT, Nat.reduceAdd, Nat.reduceSub, Nat.reduceMul, Nat.reduceLeDiff, reduceIte, Nat.reduceEqDiff, Nat.reduceBEq, Try.ntmps3, M.walked_zero, bg0t, bg1t, bg2t, bh0f, bh1f, bh2f, ha1, hap, rI_get hap, hah, rH_get hah, bh3f, hw0, hgl, rB_get hgl, hgo, bg4t, bg5f, bh10f, bh11f, hT, bg13t, bh12f, hb0, hbk, rP_get hbk, x0, x1, rI_get x1, y0, y1, rI_get y1, x2, x3, rL_get x3, y2, y3, rI_get y3, hkn, bg15t]) <;> exact rfl
  apply Q_pre [10, 11, 12, 13] [14, 15, 16, 17, 18, 19, 20, 21, 22, 23, 24, 25, 26, 27, 28, 29, 30, 31, 32, 33]
  · (simp only [go_sem, Nat.reducePow, Nat.reduceLT, Nat.reduceAdd, Nat.reduceSub, Nat.reduceMul, Nat.reduceLeDiff, reduceIte, Nat.reduceEqDiff, Nat.reduceBEq, Try.ntmps3, M.walked_zero, bg0t, bg1t, bg2t, bh0f, bh1f, bh2f, ha1, hap, rI_get hap, hah, rH_get hah, bh3f, hw0, hgl, rB_get hgl, hgo, bg4t, bg5f, bh10f, bh11f, hT, bg13t, bh12f, hb0, hbk, rP_get hbk, x0, x1, rI_get x1, y0, y1, rI_get y1, x2, x3, rL_get x3, y2, y3, rI_get y3, hkn, bg15t]) <;> exact rfl
  apply Q_pre [14, 15, 16, 17] [18, 19, 20, 21, 22, 23, 24, 25, 26, 27, 28, 29, 30, 31, 32, 33]
  · (simp only [go_sem, Nat.reducePow, Nat.reduceLT, Nat.reduceAdd, Nat.reduceSub, Nat.reduceMul, Nat.reduceLeDiff, reduceIte, Nat.reduceEqDiff, Nat.reduceBEq, Try.ntmps3, M.walked_zero, bg0t, bg1t, bg2t, bh0f, bh1f, bh2f, ha1, hap, rI_get hap, hah, rH_get hah, bh3f, hw0, hgl, rB_get hgl, hgo, bg4t, bg5f, bh10f, bh11f, hT, bg13t, bh12f, hb0, hbk, rP_get hbk, x0, x1, rI_get x1, y0, y1, rI_get y1, x2, x3, rL_get x3, y2, y3, rI_get y3, hkn, bg15t]) <;> exact rfl
  apply Q_pre [18, 19, 20, 21] [22, 23, 24, 25, 26, 27, 28, 29, 30, 31, 32, 33]
  · (simp only [go_sem, Nat.reducePow, Nat.reduceLT, Nat.reduceAdd, Nat.reduceSub, Nat.reduceMul, Nat.reduceLeDiff, reduceIte, Nat.reduceEqDiff, Nat.reduceBEq, Try.ntmps3, M.walked_zero, bg0t, bg1t, bg2t, bh0f, bh1f, bh2f, ha1, hap, rI_get hap, hah, rH_get hah, bh3f, hw0, hgl, rB_get hgl, hgo, bg4t, bg5f, bh10f, bh11f, hT, bg13t, bh12f, hb0, hbk, rP_get hbk, x0, x1, rI_get x1, y0, y1, rI_get y1, x2, x3, rL_get x3, y2, y3, rI_get y3, hkn, bg15t]) <;> exact rfl
  apply Q_pre [22, 23, 24, 25] [26, 27, 28, 29, 30, 31, 32, 33]
  · (simp only [go_sem, Nat.reducePow, Nat.reduceLT, Nat.reduceAdd, Nat.reduceSub, Nat.reduceMul, Nat.reduceLeDiff, reduceIte, Nat.reduceEqDiff, Nat.reduceBEq, Try.ntmps3, M.walked_zero, bg0t, bg1t, bg2t, bh0f, bh1f, bh2f, ha1, hap, rI_get hap, hah, rH_get hah, bh3f, hw0, hgl, rB_get hgl, hgo, bg4t, bg5f, bh10f, bh11f, hT, bg13t, bh12f, hb0, hbk, rP_get hbk, x0, x1, rI_get x1, y0, y1, rI_get y1, x2, x3, rL_get x3, y2, y3, rI_get y3, hkn, bg15t]) <;> exact rfl
  apply Q_pre [26, 27, 28, 29, 30] [31, 32, 33]
  · (simp only [go_sem, Nat.reducePow, Nat.reduceLT, Nat.reduceAdd, Nat.reduceSub, Nat.reduceMul, Nat.reduceLeDiff, reduceIte, Nat.reduceEqDiff, Nat.reduceBEq, Try.ntmps3, M.walked_zero, bg0t, bg1t, bg2t, bh0f, bh1f, bh2f, ha1, hap, rI_get hap, hah, rH_get hah, bh3f, hw0, hgl, rB_get hgl, hgo, bg4t, bg5f, bh10f, bh11f, hT, bg13t, bh12f, hb0, hbk, rP_get hbk, x0, x1, rI_get x1, y0, y1, rI_get y1, x2, x3, rL_get x3, y2, y3, rI_get y3, hkn, bg15t]) <;> exact rfl
  apply Q_guard
  · (simp only [go_sem, Nat.reducePow, Nat.reduceLT, Nat.reduceAdd, Nat.reduceSub, Nat.reduceMul, Nat.reduceLeDiff, reduceIte, Nat.reduceEqDiff, Nat.reduceBEq, Try.ntmps3, M.walked_zero, bg0t, bg1t, bg2t, bh0f, bh1f, bh2f, ha1, hap, rI_get hap, hah, rH_get hah, bh3f, hw0, hgl, rB_get hgl, hgo, bg4t, bg5f, bh10f, bh11f, hT, bg13t, bh12f, hb0, hbk, rP_get hbk, x0, x1, rI_get x1, y0, y1, rI_get y1, x2, x3, rL_get x3, y2, y3, rI_get y3, hkn, bg15t]) <;> exact rfl
  · (simp only [go_sem, Nat.reducePow, Nat.reduceLT, Nat.reduceAdd, Nat.reduceSub, Nat.reduceMul, Nat.reduceLeDiff, reduceIte, Nat.reduceEqDiff, Nat.reduceBEq, Try.ntmps3, M.walked_zero, bg0t, bg1t, bg2t, bh0f, bh1f, bh2f, ha1, hap, rI_get hap, hah, rH_get hah, bh3f, hw0, hgl, rB_get hgl, hgo, bg4t, bg5f, bh10f, bh11f, hT, bg13t, bh12f, hb0, hbk, rP_get hbk, x0, x1, rI_get x1, y0, y1, rI_get y1, x2, x3, rL_get x3, y2, y3, rI_get y3, hkn, bg15t]) <;> exact rfl
  · intro bg16t
    have g16t := bg16t
    try simp only [beq_true, beq_false, decide_eq_true_eq, decide_eq_false_iff_not, Bool.not_eq_true', Bool.not_eq_false', Bool.not_eq_true, Bool.not_eq_false, ne_eq, Int.ofNat_lt, Int.ofNat_le, beq_iff_eq, bne_iff_ne, beq_eq_false_iff_ne, bne_eq_false_iff_eq, ge_iff_le, gt_iff_lt, Bool.not_true, Bool.not_false, Decidable.not_not, Int.natCast_inj, Int.natCast_nonneg] at g16t
    try simp only [beq_true, beq_false, Bool.not_eq_true', Bool.not_eq_false', Bool.not_not, Bool.not_true, Bool.not_false] at bg16t
    try exact absurd bg16t (by decide)
    all_goals (
  apply Q_call -- call 12 of function 16
  · (simp only [go_sem, Nat.reducePow, Nat.reduceLT, Nat.reduceAdd, Nat.reduceSub, Nat.reduceMul, Nat.reduceLeDiff, reduceIte, Nat.reduceEqDiff, Nat.reduceBEq, Try.ntmps3, M.walked_zero, bg0t, bg1t, bg2t, bh0f, bh1f, bh2f, ha1, hap, rI_get hap, hah, rH_get hah, bh3f, hw0, hgl, rB_get hgl, hgo, bg4t, bg5f, bh10f, bh11f, hT, bg13t, bh12f, hb0, hbk, rP_get hbk, x0, x1, rI_get x1, y0, y1, rI_get y1, x2, x3, rL_get x3, y2, y3, rI_get y3, hkn, bg15t, bg16t]) <;> exact rfl
  · (simp only [go_sem, Nat.reducePow, Nat.reduceLT, Nat.reduceAdd, Nat.reduceSub, Nat.reduceMul, Nat.reduceLeDiff, reduceIte, Nat.reduceEqDiff, Nat.reduceBEq, Try.ntmps3, M.walked_zero, bg0t, bg1t, bg2t, bh0f, bh1f, bh2f, ha1, hap, rI_get hap, hah, rH_get hah, bh3f, hw0, hgl, rB_get hgl, hgo, bg4t, bg5f, bh10f, bh11f, hT, bg13t, bh12f, hb0, hbk, rP_get hbk, x0, x1, rI_get x1, y0, y1, rI_get y1, x2, x3, rL_get x3, y2, y3, rI_get y3, hkn, bg15t, bg16t]) <;> exact rfl
  · exact rfl
  · (simp only [go_sem, Nat.reducePow, Nat.reduceLT, Nat.reduceAdd, Nat.reduceSub, Nat.reduceMul, Nat.reduceLeDiff, reduceIte, Nat.reduceEqDiff, Nat.reduceBEq, Try.ntmps3, M.walked_zero, bg0t, bg1t, bg2t, bh0f, bh1f, bh2f, ha1, hap, rI_get hap, hah, rH_get hah, bh3f, hw0, hgl, rB_get hgl, hgo, bg4t, bg5f, bh10f, bh11f, hT, bg13t, bh12f, hb0, hbk, rP_get hbk, x0, x1, rI_get x1, y0, y1, rI_get y1, x2, x3, rL_get x3, y2, y3, rI_get y3, hkn, bg15t, bg16t]) <;> exact rfl
  · (simp only [go_sem, Nat.reducePow, Nat.reduceLT, Nat.reduceAdd, Nat.reduceSub, Nat.reduceMul, Nat.reduceLeDiff, reduceIte, Nat.reduceEqDiff, Nat.reduceBEq, Try.ntmps3, M.walked_zero, bg0t, bg1t, bg2t, bh0f, bh1f, bh2f, ha1, hap, rI_get hap, hah, rH_get hah, bh3f, hw0, hgl, rB_get hgl, hgo, bg4t, bg5f, bh10f, bh11f, hT, bg13t, bh12f, hb0, hbk, rP_get hbk, x0, x1, rI_get x1, y0, y1, rI_get y1, x2, x3, rL_get x3, y2, y3, rI_get y3, hkn, bg15t, bg16t]) <;> exact rfl
  · exact ⟨_, Try.func16, rfl, rfl⟩
  · (simp only [go_sem, Nat.reducePow, Nat.reduceLT, Nat.reduceAdd, Nat.reduceSub, Nat.reduceMul, Nat.reduceLeDiff, reduceIte, Nat.reduceEqDiff, Nat.reduceBEq, Try.ntmps3, M.walked_zero, bg0t, bg1t, bg2t, bh0f, bh1f, bh2f, ha1, hap, rI_get hap, hah, rH_get hah, bh3f, hw0, hgl, rB_get hgl, hgo, bg4t, bg5f, bh10f, bh11f, hT, bg13t, bh12f, hb0, hbk, rP_get hbk, x0, x1, rI_get x1, y0, y1, rI_get y1, x2, x3, rL_get x3, y2, y3, rI_get y3, hkn, bg15t, bg16t]) <;> exact rfl
  · exact known_ok
  apply Q_run
  · (simp only [go_sem, Nat.reducePow, Nat.reduceLT, Nat.reduceAdd, Nat.reduceSub, Nat.reduceMul, Nat.reduceLeDiff, reduceIte, Nat.reduceEqDiff, Nat.reduceBEq, Try.ntmps3, M.walked_zero, bg0t, bg1t, bg2t, bh0f, bh1f, bh2f, ha1, hap, rI_get hap, hah, rH_get hah, bh3f, hw0, hgl, rB_get hgl, hgo, bg4t, bg5f, bh10f, bh11f, hT, bg13t, bh12f, hb0, hbk, rP_get hbk, x0, x1, rI_get x1, y0, y1, rI_get y1, x2, x3, rL_get x3, y2, y3, rI_get y3, hkn, bg15t, bg16t]) <;> exact rfl
  apply Q_nil
  apply K_seq
  apply T_ret
  apply fin_ret
  · (simp only [go_sem, Nat.reducePow, Nat.reduceLT, Nat.reduceAdd, Nat.reduceSub, Nat.reduceMul, Nat.reduceLeDiff, reduceIte, Nat.reduceEqDiff, Nat.reduceBEq, Try.ntmps3, M.walked_zero, bg0t, bg1t, bg2t, bh0f, bh1f, bh2f, ha1, hap, rI_get hap, hah, rH_get hah, bh3f, hw0, hgl, rB_get hgl, hgo, bg4t, bg5f, bh10f, bh11f, hT, bg13t, bh12f, hb0, hbk, rP_get hbk, x0, x1, rI_get x1, y0, y1, rI_get y1, x2, x3, rL_get x3, y2, y3, rI_get y3, hkn, bg15t, bg16t, Try.f3]) <;> exact rfl
  -- leaf 20 (ret)
  simp only [go_sem, Nat.reducePow, Nat.reduceLT, Nat.reduceAdd, Nat.reduceSub, Nat.reduceMul, Nat.reduceLeDiff, reduceIte, Nat.reduceEqDiff, Nat.reduceBEq, Try.ntmps3, M.walked_zero, bg0t, bg1t, bg2t, bh0f, bh1f, bh2f, ha1, hap, rI_get hap, hah, rH_get hah, bh3f, hw0, hgl, rB_get hgl, hgo, bg4t, bg5f, bh10f, bh11f, hT, bg13t, bh12f, hb0, hbk, rP_get hbk, x0, x1, rI_get x1, y0, y1, rI_get y1, x2, x3, rL_get x3, y2, y3, rI_get y3, hkn, bg15t, bg16t, V.bool.injEq, V.int.injEq, true_and]
  all_goals grind)
  · intro bg16f
    have g16f := bg16f
    try simp only [beq_true, beq_false, decide_eq_true_eq, decide_eq_false_iff_not, Bool.not_eq_true', Bool.not_eq_false', Bool.not_eq_true, Bool.not_eq_false, ne_eq, Int.ofNat_lt, Int.ofNat_le, beq_iff_eq, bne_iff_ne, beq_eq_false_iff_ne, bne_eq_false_iff_eq, ge_iff_le, gt_iff_lt, Bool.not_true, Bool.not_false, Decidable.not_not, Int.natCast_inj, Int.natCast_nonneg] at g16f
    try simp only [beq_true, beq_false, Bool.not_eq_true', Bool.not_eq_false', Bool.not_not, Bool.not_true, Bool.not_false] at bg16f
    try exact absurd bg16f (by decide)
    all_goals (
  apply Q_run
  · (simp only [go_sem, Nat.reducePow, Nat.reduceLT, Nat.reduceAdd, Nat.reduceSub, Nat.reduceMul, Nat.reduceLeDiff, reduceIte, Nat.reduceEqDiff, Nat.reduceBEq, Try.ntmps3, M.walked_zero, bg0t, bg1t, bg2t, bh0f, bh1f, bh2f, ha1, hap, rI_get hap, hah, rH_get hah, bh3f, hw0, hgl, rB_get hgl, hgo, bg4t, bg5f, bh10f, bh11f, hT, bg13t, bh12f, hb0, hbk, rP_get hbk, x0, x1, rI_get x1, y0, y1, rI_get y1, x2, x3, rL_get x3, y2, y3, rI_get y3, hkn, bg15t, bg16f]) <;> exact rfl
  apply Q_nil
  apply K_seq
  apply T_ret
  apply fin_ret
  · (simp only [go_sem, Nat.reducePow, Nat.reduceLT, Nat.reduceAdd, Nat.reduceSub, Nat.reduceMul, Nat.reduceLeDiff, reduceIte, Nat.reduceEqDiff, Nat.reduceBEq, Try.ntmps3, M.walked_zero, bg0t, bg1t, bg2t, bh0f, bh1f, bh2f, ha1, hap, rI_get hap, hah, rH_get hah, bh3f, hw0, hgl, rB_get hgl, hgo, bg4t, bg5f, bh10f, bh11f, hT, bg13t, bh12f, hb0, hbk, rP_get hbk, x0, x1, rI_get x1, y0, y1, rI_get y1, x2, x3, rL_get x3, y2, y3, rI_get y3, hkn, bg15t, bg16f, Try.f3]) <;> exact rfl
  -- leaf 21 (ret)
  simp only [go_sem, Nat.reducePow, Nat.reduceLT, Nat.reduceAdd, Nat.reduceSub, Nat.reduceMul, Nat.reduceLeDiff, reduceIte, Nat.reduceEqDiff, Nat.reduceBEq, Try.ntmps3, M.walked_zero, bg0t, bg1t, bg2t, bh0f, bh1f, bh2f, ha1, hap, rI_get hap, hah, rH_get hah, bh3f, hw0, hgl, rB_get hgl, hgo, bg4t, bg5f, bh10f, bh11f, hT, bg13t, bh12f, hb0, hbk, rP_get hbk, x0, x1, rI_get x1, y0, y1, rI_get y1, x2, x3, rL_get x3, y2, y3, rI_get y3, hkn, bg15t, bg16f, V.bool.injEq, V.int.injEq, true_and]
  all_goals grind))
  · intro bg15f
    have g15f := bg15f
    try simp only [beq_true, beq_false, decide_eq_true_eq, decide_eq_false_iff_not, Bool.not_eq_true', Bool.not_eq_false', Bool.not_eq_true, Bool.not_eq_false, ne_eq, Int.ofNat_lt, Int.ofNat_le, beq_iff_eq, bne_iff_ne, beq_eq_false_iff_ne, bne_eq_false_iff_eq, ge_iff_le, gt_iff_lt, Bool.not_true, Bool.not_false, Decidable.not_not, Int.natCast_inj, Int.natCast_nonneg] at g15f
    try simp only [beq_true, beq_false, Bool.not_eq_true', Bool.not_eq_false', Bool.not_not, Bool.not_true, Bool.not_false] at bg15f
    try exact absurd bg15f (by decide)
    all_goals (
  apply Q_pre [2, 3, 4, 5] [6, 7, 8, 9, 10, 11, 12, 13, 14, 15, 16, 17, 18, 19, 20, 21, 22, 23, 24, 25, 26, 27, 28, 29, 30, 31, 32, 33]
  · (simp only [go_sem, Nat.reducePow, Nat.reduceLT, Nat.reduceAdd, Nat.reduceSub, Nat.reduceMul, Nat.reduceLeDiff, reduceIte, Nat.reduceEqDiff, Nat.reduceBEq, Try.ntmps3, M.walked_zero, bg0t, bg1t, bg2t, bh0f, bh1f, bh2f, ha1, hap, rI_get hap, hah, rH_get hah, bh3f, hw0, hgl, rB_get hgl, hgo, bg4t, bg5f, bh10f, bh11f, hT, bg13t, bh12f, hb0, hbk, rP_get hbk, x0, x1, rI_get x1, y0, y1, rI_get y1, x2, x3, rL_get x3, y2, y3, rI_get y3, hkn, bg15f]) <;> exact rfl
  apply Q_pre [6, 7, 8, 9] [10, 11, 12, 13, 14, 15, 16, 17, 18, 19, 20, 21, 22, 23, 24, 25, 26, 27, 28, 29, 30, 31, 32, 33]
  · (simp only [go_sem, Nat.reducePow, Nat.reduceLT, Nat.reduceAdd, Nat.reduceSub, Nat.reduceMul, Nat.reduceLeDiff, reduceIte, Nat.reduceEqDiff, Nat.reduceBEq, Try.ntmps3, M.walked_zero, bg0t, bg1t, bg2t, bh0f, bh1f, bh2f, ha1, hap, rI_get hap, hah, rH_get hah, bh3f, hw0, hgl, rB_get hgl, hgo, bg4t, bg5f, bh10f, bh11f, hT, bg13t, bh12f, hb0, hbk, rP_get hbk, x0, x1, rI_get x1, y0, y1, rI_get y1, x2, x3, rL_get x3, y2, y3, rI_get y3, hkn, bg15f]) <;> exact rfl
  apply Q_pre [10, 11, 12, 13] [14, 15, 16, 17, 18, 19, 20, 21, 22, 23, 24, 25, 26, 27, 28, 29, 30, 31, 32, 33]
  · (simp only [go_sem, Nat.reducePow, Nat.reduceLT, Nat.reduceAdd, Nat.reduceSub, Nat.reduceMul, Nat.reduceLeDiff, reduceIte, Nat.reduceEqDiff, Nat.reduceBEq, Try.ntmps3, M.walked_zero, bg0t, bg1t, bg2t, bh0f, bh1f, bh2f, ha1, hap, rI_get hap, hah, rH_get hah, bh3f, hw0, hgl, rB_get hgl, hgo, bg4t, bg5f, bh10f, bh11f, hT, bg13t, bh12f, hb0, hbk, rP_get hbk, x0, x1, rI_get x1, y0, y1, rI_get y1, x2, x3, rL_get x3, y2, y3, rI_get y3, hkn, bg15f]) <;> exact rfl
  apply Q_pre [14, 15, 16, 17] [18, 19, 20, 21, 22, 23, 24, 25, 26, 27, 28, 29, 30, 31, 32, 33]
  · (simp only [go_sem, Nat.reducePow, Nat.reduceLT, Nat.reduceAdd, Nat.reduceSub, Nat.reduceMul, Nat.reduceLeDiff, reduceIte, Nat.reduceEqDiff, Nat.reduceBEq, Try.ntmps3, M.walked_zero, bg0t, bg1t, bg2t, bh0f, bh1f, bh2f, ha1, hap, rI_get hap, hah, rH_get hah, bh3f, hw0, hgl, rB_get hgl, hgo, bg4t, bg5f, bh10f, bh11f, hT, bg13t, bh12f, hb0, hbk, rP_get hbk, x0, x1, rI_get x1, y0, y1, rI_get y1, x2, x3, rL_get x3, y2, y3, rI_get y3, hkn, bg15f]) <;> exact rfl
  apply Q_pre [18, 19, 20, 21] [22, 23, 24, 25, 26, 27, 28, 29, 30, 31, 32, 33]
  · (simp only [go_sem, Nat.reducePow, Nat.reduceLT, Nat.reduceAdd, Nat.reduceSub, Nat.reduceMul, Nat.reduceLeDiff, reduceIte, Nat.reduceEqDiff, Nat.reduceBEq, Try.ntmps3, M.walked_zero, bg0t, bg1t, bg2t, bh0f, bh1f, bh2f, ha1, hap, rI_get hap, hah, rH_get hah, bh3f, hw0, hgl, rB_get hgl, hgo, bg4t, bg5f, bh10f, bh11f, hT, bg13t, bh12f, hb0, hbk, rP_get hbk, x0, x1, rI_get x1, y0, y1, rI_get y1, x2, x3, rL_get x3, y2, y3, rI_get y3, hkn, bg15f]) <;> exact rfl
  apply Q_pre [22, 23, 24, 25] [26, 27, 28, 29, 30, 31, 32, 33]
  · (simp only [go_sem, Nat.reducePow, Nat.reduceLT, Nat.reduceAdd, Nat.reduceSub, Nat.reduceMul, Nat.reduceLeDiff, reduceIte, Nat.reduceEqDiff, Nat.reduceBEq, Try.ntmps3, M.walked_zero, bg0t, bg1t, bg2t, bh0f, bh1f, bh2f, ha1, hap, rI_get hap, hah, rH_get hah, bh3f, hw0, hgl, rB_get hgl, hgo, bg4t, bg5f, bh10f, bh11f, hT, bg13t, bh12f, hb0, hbk, rP_get hbk, x0, x1, rI_get x1, y0, y1, rI_get y1, x2, x3, rL_get x3, y2, y3, rI_get y3, hkn, bg15f]) <;> exact rfl
  apply Q_pre [26, 27, 28, 29] [30, 31, 32, 33]
  · (simp only [go_sem, Nat.reducePow, Nat.reduceLT, Nat.reduceAdd, Nat.reduceSub, Nat.reduceMul, Nat.reduceLeDiff, reduceIte, Nat.reduceEqDiff, Nat.reduceBEq, Try.ntmps3, M.walked_zero, bg0t, bg1t, bg2t, bh0f, bh1f, bh2f, ha1, hap, rI_get hap, hah, rH_get hah, bh3f, hw0, hgl, rB_get hgl, hgo, bg4t, bg5f, bh10f, bh11f, hT, bg13t, bh12f, hb0, hbk, rP_get hbk, x0, x1, rI_get x1, y0, y1, rI_get y1, x2, x3, rL_get x3, y2, y3, rI_get y3, hkn, bg15f]) <;> exact rfl
  apply Q_run
  · (simp only [go_sem, Nat.reducePow, Nat.reduceLT, Nat.reduceAdd, Nat.reduceSub, Nat.reduceMul, Nat.reduceLeDiff, reduceIte, Nat.reduceEqDiff, Nat.reduceBEq, Try.ntmps3, M.walked_zero, bg0t, bg1t, bg2t, bh0f, bh1f, bh2f, ha1, hap, rI_get hap, hah, rH_get hah, bh3f, hw0, hgl, rB_get hgl, hgo, bg4t, bg5f, bh10f, bh11f, hT, bg13t, bh12f, hb0, hbk, rP_get hbk, x0, x1, rI_get x1, y0, y1, rI_get y1, x2, x3, rL_get x3, y2, y3, rI_get y3, hkn, bg15f]) <;> exact rfl
  apply Q_nil
  apply K_seq
  apply T_ret
  apply fin_ret
  · (simp only [go_sem, Nat.reducePow, Nat.reduceLT, Nat.reduceAdd, Nat.reduceSub, Nat.reduceMul, Nat.reduceLeDiff, reduceIte, Nat.reduceEqDiff, Nat.reduceBEq, Try.ntmps3, M.walked_zero, bg0t, bg1t, bg2t, bh0f, bh1f, bh2f, ha1, hap, rI_get hap, hah, rH_get hah, bh3f, hw0, hgl, rB_get hgl, hgo, bg4t, bg5f, bh10f, bh11f, hT, bg13t, bh12f, hb0, hbk, rP_get hbk, x0, x1, rI_get x1, y0, y1, rI_get y1, x2, x3, rL_get x3, y2, y3, rI_get y3, hkn, bg15f, Try.f3]) <;> exact rfl
  -- leaf 22 (ret)
  simp only [go_sem, Nat.reducePow, Nat.reduceLT, Nat.reduceAdd, Nat.reduceSub, Nat.reduceMul, Nat.reduceLeDiff, reduceIte, Nat.reduceEqDiff, Nat.reduceBEq, Try.ntmps3, M.walked_zero, bg0t, bg1t, bg2t, bh0f, bh1f, bh2f, ha1, hap, rI_get hap, hah, rH_get hah, bh3f, hw0, hgl, rB_get hgl, hgo, bg4t, bg5f, bh10f, bh11f, hT, bg13t, bh12f, hb0, hbk, rP_get hbk, x0, x1, rI_get x1, y0, y1, rI_get y1, x2, x3, rL_get x3, y2, y3, rI_get y3, hkn, bg15f, V.bool.injEq, V.int.injEq, true_and]
  all_goals grind)))
  · intro bg13f
    have g13f := bg13f
    try simp only [beq_true, beq_false, decide_eq_true_eq, decide_eq_false_iff_not, Bool.not_eq_true', Bool.not_eq_false', Bool.not_eq_true, Bool.not_eq_false, ne_eq, Int.ofNat_lt, Int.ofNat_le, beq_iff_eq, bne_iff_ne, beq_eq_false_iff_ne, bne_eq_false_iff_eq, ge_iff_le, gt_iff_lt, Bool.not_true, Bool.not_false, Decidable.not_not, Int.natCast_inj, Int.natCast_nonneg] at g13f
    try simp only [beq_true, beq_false, Bool.not_eq_true', Bool.not_eq_false', Bool.not_not, Bool.not_true, Bool.not_false] at bg13f
    try exact absurd bg13f (by decide)
    all_goals (
  apply W_run
  · (simp only [go_sem, Nat.reducePow, Nat.reduceLT, Nat.reduceAdd, Nat.reduceSub, Nat.reduceMul, Nat.reduceLeDiff, reduceIte, Nat.reduceEqDiff, Nat.reduceBEq, Try.ntmps3, M.walked_zero, bg0t, bg1t, bg2t, bh0f, bh1f, bh2f, ha1, hap, rI_get hap, hah, rH_get hah, bh3f, hw0, hgl, rB_get hgl, hgo, bg4t, bg5f, bh10f, bh11f, hT, bg13f]) <;> exact rfl
  apply W_nil
  apply K_seq
  apply T_if
  · (simp only [go_sem, Nat.reducePow, Nat.reduceLT, Nat.reduceAdd, Nat.reduceSub, Nat.reduceMul, Nat.reduceLeDiff, reduceIte, Nat.reduceEqDiff, Nat.reduceBEq, Try.ntmps3, M.walked_zero, bg0t, bg1t, bg2t, bh0f, bh1f, bh2f, ha1, hap, rI_get hap, hah, rH_get hah, bh3f, hw0, hgl, rB_get hgl, hgo, bg4t, bg5f, bh10f, bh11f, hT, bg13f]) <;> exact rfl
  · intro bh13t
    have h13t := bh13t
    try simp only [beq_true, beq_false, decide_eq_true_eq, decide_eq_false_iff_not, Bool.not_eq_true', Bool.not_eq_false', Bool.not_eq_true, Bool.not_eq_false, ne_eq, Int.ofNat_lt, Int.ofNat_le, beq_iff_eq, bne_iff_ne, beq_eq_false_iff_ne, bne_eq_false_iff_eq, ge_iff_le, gt_iff_lt, Bool.not_true, Bool.not_false, Decidable.not_not, Int.natCast_inj, Int.natCast_nonneg] at h13t
    try simp only [beq_true, beq_false, Bool.not_eq_true', Bool.not_eq_false', Bool.not_not, Bool.not_true, Bool.not_false] at bh13t
    try exact absurd bh13t (by decide)
    all_goals (
  apply T_seq
  apply T_wL F [0, 1, 2, 3, 4] rfl
  apply W_pre [0, 1] [2, 3, 4]
  · (simp only [go_sem, Nat.reducePow, Nat.reduceLT, Nat.reduceAdd, Nat.reduceSub, Nat.reduceMul, Nat.reduceLeDiff, reduceIte, Nat.reduceEqDiff, Nat.reduceBEq, Try.ntmps3, M.walked_zero, bg0t, bg1t, bg2t, bh0f, bh1f, bh2f, ha1, hap, rI_get hap, hah, rH_get hah, bh3f, hw0, hgl, rB_get hgl, hgo, bg4t, bg5f, bh10f, bh11f, hT, bg13f, bh13t]) <;> exact rfl
  apply W_guard
  · (simp only [go_sem, Nat.reducePow, Nat.reduceLT, Nat.reduceAdd, Nat.reduceSub, Nat.reduceMul, Nat.reduceLeDiff, reduceIte, Nat.reduceEqDiff, Nat.reduceBEq, Try.ntmps3, M.walked_zero, bg0t, bg1t, bg2t, bh0f, bh1f, bh2f, ha1, hap, rI_get hap, hah, rH_get hah, bh3f, hw0, hgl, rB_get hgl, hgo, bg4t, bg5f, bh10f, bh11f, hT, bg13f, bh13t]) <;> exact rfl
  · (simp only [go_sem, Nat.reducePow, Nat.reduceLT, Nat.reduceAdd, Nat.reduceSub, Nat.reduceMul, Nat.reduceLeDiff, reduceIte, Nat.reduceEqDiff, Nat.reduceBEq, Try.ntmps3, M.walked_zero, bg0t, bg1t, bg2t, bh0f, bh1f, bh2f, ha1, hap, rI_get hap, hah, rH_get hah, bh3f, hw0, hgl, rB_get hgl, hgo, bg4t, bg5f, bh10f, bh11f, hT, bg13f, bh13t]) <;> exact rfl
  · intro bg17t
    have g17t := bg17t
    try simp only [beq_true, beq_false, decide_eq_true_eq, decide_eq_false_iff_not, Bool.not_eq_true', Bool.not_eq_false', Bool.not_eq_true, Bool.not_eq_false, ne_eq, Int.ofNat_lt, Int.ofNat_le, beq_iff_eq, bne_iff_ne, beq_eq_false_iff_ne, bne_eq_false_iff_eq, ge_iff_le, gt_iff_lt, Bool.not_true, Bool.not_false, Decidable.not_not, Int.natCast_inj, Int.natCast_nonneg] at g17t
    try simp only [beq_true, beq_false, Bool.not_eq_true', Bool.not_eq_false', Bool.not_not, Bool.not_true, Bool.not_false] at bg17t
    try exact absurd bg17t (by decide)
    all_goals (
  apply W_call -- call 13 of function 16
  · (simp only [go_sem, Nat.reducePow, Nat.reduceLT, Nat.reduceAdd, Nat.reduceSub, Nat.reduceMul, Nat.reduceLeDiff, reduceIte, Nat.reduceEqDiff, Nat.reduceBEq, Try.ntmps3, M.walked_zero, bg0t, bg1t, bg2t, bh0f, bh1f, bh2f, ha1, hap, rI_get hap, hah, rH_get hah, bh3f, hw0, hgl, rB_get hgl, hgo, bg4t, bg5f, bh10f, bh11f, hT, bg13f, bh13t, bg17t]) <;> exact rfl
  · (simp only [go_sem, Nat.reducePow, Nat.reduceLT, Nat.reduceAdd, Nat.reduceSub, Nat.reduceMul, Nat.reduceLeDiff, reduceIte, Nat.reduceEqDiff, Nat.reduceBEq, Try.ntmps3, M.walked_zero, bg0t, bg1t, bg2t, bh0f, bh1f, bh2f, ha1, hap, rI_get hap, hah, rH_get hah, bh3f, hw0, hgl, rB_get hgl, hgo, bg4t, bg5f, bh10f, bh11f, hT, bg13f, bh13t, bg17t]) <;> exact rfl
  · exact rfl
  · (simp only [go_sem, Nat.reducePow, Nat.reduceLT, Nat.reduceAdd, Nat.reduceSub, Nat.reduceMul, Nat.reduceLeDiff, reduceIte, Nat.reduceEqDiff, Nat.reduceBEq, Try.ntmps3, M.walked_zero, bg0t, bg1t, bg2t, bh0f, bh1f, bh2f, ha1, hap, rI_get hap, hah, rH_get hah, bh3f, hw0, hgl, rB_get hgl, hgo, bg4t, bg5f, bh10f, bh11f, hT, bg13f, bh13t, bg17t]) <;> exact rfl
  · (simp only [go_sem, Nat.reducePow, Nat.reduceLT, Nat.reduceAdd, Nat.reduceSub, Nat.reduceMul, Nat.reduceLeDiff, reduceIte, Nat.reduceEqDiff, Nat.reduceBEq, Try.ntmps3, M.walked_zero, bg0t, bg1t, bg2t, bh0f, bh1f, bh2f, ha1, hap, rI_get hap, hah, rH_get hah, bh3f, hw0, hgl, rB_get hgl, hgo, bg4t, bg5f, bh10f, bh11f, hT, bg13f, bh13t, bg17t]) <;> exact rfl
  · exact ⟨_, Try.func16, rfl, rfl⟩
  · (simp only [go_sem, Nat.reducePow, Nat.reduceLT, Nat.reduceAdd, Nat.reduceSub, Nat.reduceMul, Nat.reduceLeDiff, reduceIte, Nat.reduceEqDiff, Nat.reduceBEq, Try.ntmps3, M.walked_zero, bg0t, bg1t, bg2t, bh0f, bh1f, bh2f, ha1, hap, rI_get hap, hah, rH_get hah, bh3f, hw0, hgl, rB_get hgl, hgo, bg4t, bg5f, bh10f, bh11f, hT, bg13f, bh13t, bg17t]) <;> exact rfl
  · (simp only [go_sem, Nat.reducePow, Nat.reduceLT, Nat.reduceAdd, Nat.reduceSub, Nat.reduceMul, Nat.reduceLeDiff, reduceIte, Nat.reduceEqDiff, Nat.reduceBEq, Try.ntmps3, M.walked_zero, bg0t, bg1t, bg2t, bh0f, bh1f, bh2f, ha1, hap, rI_get hap, hah, rH_get hah, bh3f, hw0, hgl, rB_get hgl, hgo, bg4t, bg5f, bh10f, bh11f, hT, bg13f, bh13t, bg17t]) <;> exact rfl
  · exact known_ok
  apply W_run
  · (simp only [go_sem, Nat.reducePow, Nat.reduceLT, Nat.reduceAdd, Nat.reduceSub, Nat.reduceMul, Nat.reduceLeDiff, reduceIte, Nat.reduceEqDiff, Nat.reduceBEq, Try.ntmps3, M.walked_zero, bg0t, bg1t, bg2t, bh0f, bh1f, bh2f, ha1, hap, rI_get hap, hah, rH_get hah, bh3f, hw0, hgl, rB_get hgl, hgo, bg4t, bg5f, bh10f, bh11f, hT, bg13f, bh13t, bg17t]) <;> exact rfl
  apply W_nil
  apply K_seq
  apply T_ret
  apply K_seqR
  apply fin_ret
  · (simp only [go_sem, Nat.reducePow, Nat.reduceLT, Nat.reduceAdd, Nat.reduceSub, Nat.reduceMul, Nat.reduceLeDiff, reduceIte, Nat.reduceEqDiff, Nat.reduceBEq, Try.ntmps3, M.walked_zero, bg0t, bg1t, bg2t, bh0f, bh1f, bh2f, ha1, hap, rI_get hap, hah, rH_get hah, bh3f, hw0, hgl, rB_get hgl, hgo, bg4t, bg5f, bh10f, bh11f, hT, bg13f, bh13t, bg17t, Try.f3]) <;> exact rfl
  -- leaf 23 (ret)
  simp only [go_sem, Nat.reducePow, Nat.reduceLT, Nat.reduceAdd, Nat.reduceSub, Nat.reduceMul, Nat.reduceLeDiff, reduceIte, Nat.reduceEqDiff, Nat.reduceBEq, Try.ntmps3, M.walked_zero, bg0t, bg1t, bg2t, bh0f, bh1f, bh2f, ha1, hap, rI_get hap, hah, rH_get hah, bh3f, hw0, hgl, rB_get hgl, hgo, bg4t, bg5f, bh10f, bh11f, hT, bg13f, bh13t, bg17t, V.bool.injEq, V.int.injEq, true_and]
  all_goals grind)
  · intro bg17f
    have g17f := bg17f
    try simp only [beq_true, beq_false, decide_eq_true_eq, decide_eq_false_iff_not, Bool.not_eq_true', Bool.not_eq_false', Bool.not_eq_true, Bool.not_eq_false, ne_eq, Int.ofNat_lt, Int.ofNat_le, beq_iff_eq, bne_iff_ne, beq_eq_false_iff_ne, bne_eq_false_iff_eq, ge_iff_le, gt_iff_lt, Bool.not_true, Bool.not_false, Decidable.not_not, Int.natCast_inj, Int.natCast_nonneg] at g17f
    try simp only [beq_true, beq_false, Bool.not_eq_true', Bool.not_eq_false', Bool.not_not, Bool.not_true, Bool.not_false] at bg17f
    try exact absurd bg17f (by decide)
    all_goals (
  apply W_run
  · (simp only [go_sem, Nat.reducePow, Nat.reduceLT, Nat.reduceAdd, Nat.reduceSub, Nat.reduceMul, Nat.reduceLeDiff, reduceIte, Nat.reduceEqDiff, Nat.reduceBEq, Try.ntmps3, M.walked_zero, bg0t, bg1t, bg2t, bh0f, bh1f, bh2f, ha1, hap, rI_get hap, hah, rH_get hah, bh3f, hw0, hgl, rB_get hgl, hgo, bg4t, bg5f, bh10f, bh11f, hT, bg13f, bh13t, bg17f]) <;> exact rfl
  apply W_nil
  apply K_seq
  apply T_ret
  apply K_seqR
  apply fin_ret
  · (simp only [go_sem, Nat.reducePow, Nat.reduceLT, Nat.reduceAdd, Nat.reduceSub, Nat.reduceMul, Nat.reduceLeDiff, reduceIte, Nat.reduceEqDiff, Nat.reduceBEq, Try.ntmps3, M.walked_zero, bg0t, bg1t, bg2t, bh0f, bh1f, bh2f, ha1, hap, rI_get hap, hah, rH_get hah, bh3f, hw0, hgl, rB_get hgl, hgo, bg4t, bg5f, bh10f, bh11f, hT, bg13f, bh13t, bg17f, Try.f3]) <;> exact rfl
  -- leaf 24 (ret)
  simp only [go_sem, Nat.reducePow, Nat.reduceLT, Nat.reduceAdd, Nat.reduceSub, Nat.reduceMul, Nat.reduceLeDiff, reduceIte, Nat.reduceEqDiff, Nat.reduceBEq, Try.ntmps3, M.walked_zero, bg0t, bg1t, bg2t, bh0f, bh1f, bh2f, ha1, hap, rI_get hap, hah, rH_get hah, bh3f, hw0, hgl, rB_get hgl, hgo, bg4t, bg5f, bh10f, bh11f, hT, bg13f, bh13t, bg17f, V.bool.injEq, V.int.injEq, true_and]
  all_goals grind))
  · intro bh13f
    exact absurd bh13f (by simp))))))
  · intro bg4f
    have g4f := bg4f
    try simp only [beq_true, beq_false, decide_eq_true_eq, decide_eq_false_iff_not, Bool.not_eq_true', Bool.not_eq_false', Bool.not_eq_true, Bool.not_eq_false, ne_eq, Int.ofNat_lt, Int.ofNat_le, beq_iff_eq, bne_iff_ne, beq_eq_false_iff_ne, bne_eq_false_iff_eq, ge_iff_le, gt_iff_lt, Bool.not_true, Bool.not_false, Decidable.not_not, Int.natCast_inj, Int.natCast_nonneg] at g4f
    try simp only [beq_true, beq_false, Bool.not_eq_true', Bool.not_eq_false', Bool.not_not, Bool.not_true, Bool.not_false] at bg4f
    try exact absurd bg4f (by decide)
    all_goals (
  apply W_pre [6, 7, 8, 9] [10, 11, 12, 13, 14, 15, 16, 17]
  · (simp only [go_sem, Nat.reducePow, Nat.reduceLT, Nat.reduceAdd, Nat.reduceSub, Nat.reduceMul, Nat.reduceLeDiff, reduceIte, Nat.reduceEqDiff, Nat.reduceBEq, Try.ntmps3, M.walked_zero, bg0t, bg1t, bg2t, bh0f, bh1f, bh2f, ha1, hap, rI_get hap, hah, rH_get hah, bh3f, hw0, hgl, rB_get hgl, hgo, bg4f]) <;> exact rfl
  apply W_pre [10, 11, 12, 13] [14, 15, 16, 17]
  · (simp only [go_sem, Nat.reducePow, Nat.reduceLT, Nat.reduceAdd, Nat.reduceSub, Nat.reduceMul, Nat.reduceLeDiff, reduceIte, Nat.reduceEqDiff, Nat.reduceBEq, Try.ntmps3, M.walked_zero, bg0t, bg1t, bg2t, bh0f, bh1f, bh2f, ha1, hap, rI_get hap, hah, rH_get hah, bh3f, hw0, hgl, rB_get hgl, hgo, bg4f]) <;> exact rfl
  apply W_run
  · (simp only [go_sem, Nat.reducePow, Nat.reduceLT, Nat.reduceAdd, Nat.reduceSub, Nat.reduceMul, Nat.reduceLeDiff, reduceIte, Nat.reduceEqDiff, Nat.reduceBEq, Try.ntmps3, M.walked_zero, bg0t, bg1t, bg2t, bh0f, bh1f, bh2f, ha1, hap, rI_get hap, hah, rH_get hah, bh3f, hw0, hgl, rB_get hgl, hgo, bg4f]) <;> exact rfl
  apply W_nil
  apply K_seq
  apply T_if
  · (simp only [go_sem, Nat.reducePow, Nat.reduceLT, Nat.reduceAdd, Nat.reduceSub, Nat.reduceMul, Nat.reduceLeDiff, reduceIte, Nat.reduceEqDiff, Nat.reduceBEq, Try.ntmps3, M.walked_zero, bg0t, bg1t, bg2t, bh0f, bh1f, bh2f, ha1, hap, rI_get hap, hah, rH_get hah, bh3f, hw0, hgl, rB_get hgl, hgo, bg4f]) <;> exact rfl
  · intro bh14t
    have h14t := bh14t
    try simp only [beq_true, beq_false, decide_eq_true_eq, decide_eq_false_iff_not, Bool.not_eq_true', Bool.not_eq_false', Bool.not_eq_true, Bool.not_eq_false, ne_eq, Int.ofNat_lt, Int.ofNat_le, beq_iff_eq, bne_iff_ne, beq_eq_false_iff_ne, bne_eq_false_iff_eq, ge_iff_le, gt_iff_lt, Bool.not_true, Bool.not_false, Decidable.not_not, Int.natCast_inj, Int.natCast_nonneg] at h14t
    try simp only [beq_true, beq_false, Bool.not_eq_true', Bool.not_eq_false', Bool.not_not, Bool.not_true, Bool.not_false] at bh14t
    try exact absurd bh14t (by decide)
    all_goals (
  apply T_seq
  apply T_r F
  · (simp only [go_sem, Nat.reducePow, Nat.reduceLT, Nat.reduceAdd, Nat.reduceSub, Nat.reduceMul, Nat.reduceLeDiff, reduceIte, Nat.reduceEqDiff, Nat.reduceBEq, Try.ntmps3, M.walked_zero, bg0t, bg1t, bg2t, bh0f, bh1f, bh2f, ha1, hap, rI_get hap, hah, rH_get hah, bh3f, hw0, hgl, rB_get hgl, hgo, bg4f, bh14t]) <;> exact rfl
  apply K_seq
  apply T_ret
  apply K_seqR
  apply fin_ret
  · (simp only [go_sem, Nat.reducePow, Nat.reduceLT, Nat.reduceAdd, Nat.reduceSub, Nat.reduceMul, Nat.reduceLeDiff, reduceIte, Nat.reduceEqDiff, Nat.reduceBEq, Try.ntmps3, M.walked_zero, bg0t, bg1t, bg2t, bh0f, bh1f, bh2f, ha1, hap, rI_get hap, hah, rH_get hah, bh3f, hw0, hgl, rB_get hgl, hgo, bg4f, bh14t, Try.f3]) <;> exact rfl
  -- leaf 25 (ret)
  simp only [go_sem, Nat.reducePow, Nat.reduceLT, Nat.reduceAdd, Nat.reduceSub, Nat.reduceMul, Nat.reduceLeDiff, reduceIte, Nat.reduceEqDiff, Nat.reduceBEq, Try.ntmps3, M.walked_zero, bg0t, bg1t, bg2t, bh0f, bh1f, bh2f, ha1, hap, rI_get hap, hah, rH_get hah, bh3f, hw0, hgl, rB_get hgl, hgo, bg4f, bh14t, V.bool.injEq, V.int.injEq, true_and]
  all_goals grind)
  · intro bh14f
    exact absurd bh14f (by simp)))))))
  · intro bg2f
    have g2f := bg2f
    try simp only [beq_true, beq_false, decide_eq_true_eq, decide_eq_false_iff_not, Bool.not_eq_true', Bool.not_eq_false', Bool.not_eq_true, Bool.not_eq_false, ne_eq, Int.ofNat_lt, Int.ofNat_le, beq_iff_eq, bne_iff_ne, beq_eq_false_iff_ne, bne_eq_false_iff_eq, ge_iff_le, gt_iff_lt, Bool.not_true, Bool.not_false, Decidable.not_not, Int.natCast_inj, Int.natCast_nonneg] at g2f
    try simp only [beq_true, beq_false, Bool.not_eq_true', Bool.not_eq_false', Bool.not_not, Bool.not_true, Bool.not_false] at bg2f
    try exact absurd bg2f (by decide)
    all_goals (
  apply W_run
  · (simp only [go_sem, Nat.reducePow, Nat.reduceLT, Nat.reduceAdd, Nat.reduceSub, Nat.reduceMul, Nat.reduceLeDiff, reduceIte, Nat.reduceEqDiff, Nat.reduceBEq, Try.ntmps3, M.walked_zero, bg0t, bg1t, bg2f]) <;> exact rfl
  apply W_nil
  apply K_seq
  apply T_if
  · (simp only [go_sem, Nat.reducePow, Nat.reduceLT, Nat.reduceAdd, Nat.reduceSub, Nat.reduceMul, Nat.reduceLeDiff, reduceIte, Nat.reduceEqDiff, Nat.reduceBEq, Try.ntmps3, M.walked_zero, bg0t, bg1t, bg2f]) <;> exact rfl
  · intro bh15t
    have h15t := bh15t
    try simp only [beq_true, beq_false, decide_eq_true_eq, decide_eq_false_iff_not, Bool.not_eq_true', Bool.not_eq_false', Bool.not_eq_true, Bool.not_eq_false, ne_eq, Int.ofNat_lt, Int.ofNat_le, beq_iff_eq, bne_iff_ne, beq_eq_false_iff_ne, bne_eq_false_iff_eq, ge_iff_le, gt_iff_lt, Bool.not_true, Bool.not_false, Decidable.not_not, Int.natCast_inj, Int.natCast_nonneg] at h15t
    try simp only [beq_true, beq_false, Bool.not_eq_true', Bool.not_eq_false', Bool.not_not, Bool.not_true, Bool.not_false] at bh15t
    try exact absurd bh15t (by decide)
    all_goals (
  apply T_seq
  apply T_wL F [0, 1] rfl
  apply W_call -- call 14 of function 16
  · (simp only [go_sem, Nat.reducePow, Nat.reduceLT, Nat.reduceAdd, Nat.reduceSub, Nat.reduceMul, Nat.reduceLeDiff, reduceIte, Nat.reduceEqDiff, Nat.reduceBEq, Try.ntmps3, M.walked_zero, bg0t, bg1t, bg2f, bh15t]) <;> exact rfl
  · (simp only [go_sem, Nat.reducePow, Nat.reduceLT, Nat.reduceAdd, Nat.reduceSub, Nat.reduceMul, Nat.reduceLeDiff, reduceIte, Nat.reduceEqDiff, Nat.reduceBEq, Try.ntmps3, M.walked_zero, bg0t, bg1t, bg2f, bh15t]) <;> exact rfl
  · exact rfl
  · (simp only [go_sem, Nat.reducePow, Nat.reduceLT, Nat.reduceAdd, Nat.reduceSub, Nat.reduceMul, Nat.reduceLeDiff, reduceIte, Nat.reduceEqDiff, Nat.reduceBEq, Try.ntmps3, M.walked_zero, bg0t, bg1t, bg2f, bh15t]) <;> exact rfl
  · (simp only [go_sem, Nat.reducePow, Nat.reduceLT, Nat.reduceAdd, Nat.reduceSub, Nat.reduceMul, Nat.reduceLeDiff, reduceIte, Nat.reduceEqDiff, Nat.reduceBEq, Try.ntmps3, M.walked_zero, bg0t, bg1t, bg2f, bh15t]) <;> exact rfl
  · exact ⟨_, Try.func16, rfl, rfl⟩
  · (simp only [go_sem, Nat.reducePow, Nat.reduceLT, Nat.reduceAdd, Nat.reduceSub, Nat.reduceMul, Nat.reduceLeDiff, reduceIte, Nat.reduceEqDiff, Nat.reduceBEq, Try.ntmps3, M.walked_zero, bg0t, bg1t, bg2f, bh15t]) <;> exact rfl
  · (simp only [go_sem, Nat.reducePow, Nat.reduceLT, Nat.reduceAdd, Nat.reduceSub, Nat.reduceMul, Nat.reduceLeDiff, reduceIte, Nat.reduceEqDiff, Nat.reduceBEq, Try.ntmps3, M.walked_zero, bg0t, bg1t, bg2f, bh15t]) <;> exact rfl
  · exact known_ok
  apply W_run
  · (simp only [go_sem, Nat.reducePow, Nat.reduceLT, Nat.reduceAdd, Nat.reduceSub, Nat.reduceMul, Nat.reduceLeDiff, reduceIte, Nat.reduceEqDiff, Nat.reduceBEq, Try.ntmps3, M.walked_zero, bg0t, bg1t, bg2f, bh15t]) <;> exact rfl
  apply W_nil
  apply K_seq
  apply T_ret
  apply K_seqR
  apply fin_ret
  · (simp only [go_sem, Nat.reducePow, Nat.reduceLT, Nat.reduceAdd, Nat.reduceSub, Nat.reduceMul, Nat.reduceLeDiff, reduceIte, Nat.reduceEqDiff, Nat.reduceBEq, Try.ntmps3, M.walked_zero, bg0t, bg1t, bg2f, bh15t, Try.f3]) <;> exact rfl
  -- leaf 26 (ret)
  simp only [go_sem, Nat.reducePow, Nat.reduceLT, Nat.reduceAdd, Nat.reduceSub, Nat.reduceMul, Nat.reduceLeDiff, reduceIte, Nat.reduceEqDiff, Nat.reduceBEq, Try.ntmps3, M.walked_zero, bg0t, bg1t, bg2f, bh15t, V.bool.injEq, V.int.injEq, true_and]
  all_goals grind)
  · intro bh15f
    exact absurd bh15f (by simp)))
  · intro bg1f
    have g1f := bg1f
    try simp only [beq_true, beq_false, decide_eq_true_eq, decide_eq_false_iff_not, Bool.not_eq_true', Bool.not_eq_false', Bool.not_eq_true, Bool.not_eq_false, ne_eq, Int.ofNat_lt, Int.ofNat_le, beq_iff_eq, bne_iff_ne, beq_eq_false_iff_ne, bne_eq_false_iff_eq, ge_iff_le, gt_iff_lt, Bool.not_true, Bool.not_false, Decidable.not_not, Int.natCast_inj, Int.natCast_nonneg] at g1f
    try simp only [beq_true, beq_false, Bool.not_eq_true', Bool.not_eq_false', Bool.not_not, Bool.not_true, Bool.not_false] at bg1f
    try exact absurd bg1f (by decide)
    all_goals (
  apply W_pre [9, 10, 11, 12] [13, 14, 15, 16, 17, 18, 19]
  · (simp only [go_sem, Nat.reducePow, Nat.reduceLT, Nat.reduceAdd, Nat.reduceSub, Nat.reduceMul, Nat.reduceLeDiff, reduceIte, Nat.reduceEqDiff, Nat.reduceBEq, Try.ntmps3, M.walked_zero, bg0t, bg1f]) <;> exact rfl
  apply W_pre [13, 14, 15, 16] [17, 18, 19]
  · (simp only [go_sem, Nat.reducePow, Nat.reduceLT, Nat.reduceAdd, Nat.reduceSub, Nat.reduceMul, Nat.reduceLeDiff, reduceIte, Nat.reduceEqDiff, Nat.reduceBEq, Try.ntmps3, M.walked_zero, bg0t, bg1f]) <;> exact rfl
  apply W_run
  · (simp only [go_sem, Nat.reducePow, Nat.reduceLT, Nat.reduceAdd, Nat.reduceSub, Nat.reduceMul, Nat.reduceLeDiff, reduceIte, Nat.reduceEqDiff, Nat.reduceBEq, Try.ntmps3, M.walked_zero, bg0t, bg1f]) <;> exact rfl
  apply W_nil
  apply K_seq
  apply T_if
  · (simp only [go_sem, Nat.reducePow, Nat.reduceLT, Nat.reduceAdd, Nat.reduceSub, Nat.reduceMul, Nat.reduceLeDiff, reduceIte, Nat.reduceEqDiff, Nat.reduceBEq, Try.ntmps3, M.walked_zero, bg0t, bg1f]) <;> exact rfl
  · intro bh16t
    have h16t := bh16t
    try simp only [beq_true, beq_false, decide_eq_true_eq, decide_eq_false_iff_not, Bool.not_eq_true', Bool.not_eq_false', Bool.not_eq_true, Bool.not_eq_false, ne_eq, Int.ofNat_lt, Int.ofNat_le, beq_iff_eq, bne_iff_ne, beq_eq_false_iff_ne, bne_eq_false_iff_eq, ge_iff_le, gt_iff_lt, Bool.not_true, Bool.not_false, Decidable.not_not, Int.natCast_inj, Int.natCast_nonneg] at h16t
    try simp only [beq_true, beq_false, Bool.not_eq_true', Bool.not_eq_false', Bool.not_not, Bool.not_true, Bool.not_false] at bh16t
    try exact absurd bh16t (by decide)
    all_goals (
  apply T_seq
  apply T_wL F [0, 1] rfl
  apply W_call -- call 15 of function 16
  · (simp only [go_sem, Nat.reducePow, Nat.reduceLT, Nat.reduceAdd, Nat.reduceSub, Nat.reduceMul, Nat.reduceLeDiff, reduceIte, Nat.reduceEqDiff, Nat.reduceBEq, Try.ntmps3, M.walked_zero, bg0t, bg1f, bh16t]) <;> exact rfl
  · (simp only [go_sem, Nat.reducePow, Nat.reduceLT, Nat.reduceAdd, Nat.reduceSub, Nat.reduceMul, Nat.reduceLeDiff, reduceIte, Nat.reduceEqDiff, Nat.reduceBEq, Try.ntmps3, M.walked_zero, bg0t, bg1f, bh16t]) <;> exact rfl
  · exact rfl
  · (simp only [go_sem, Nat.reducePow, Nat.reduceLT, Nat.reduceAdd, Nat.reduceSub, Nat.reduceMul, Nat.reduceLeDiff, reduceIte, Nat.reduceEqDiff, Nat.reduceBEq, Try.ntmps3, M.walked_zero, bg0t, bg1f, bh16t]) <;> exact rfl
  · (simp only [go_sem, Nat.reducePow, Nat.reduceLT, Nat.reduceAdd, Nat.reduceSub, Nat.reduceMul, Nat.reduceLeDiff, reduceIte, Nat.reduceEqDiff, Nat.reduceBEq, Try.ntmps3, M.walked_zero, bg0t, bg1f, bh16t]) <;> exact rfl
  · exact ⟨_, Try.func16, rfl, rfl⟩
  · (simp only [go_sem, Nat.reducePow, Nat.reduceLT, Nat.reduceAdd, Nat.reduceSub, Nat.reduceMul, Nat.reduceLeDiff, reduceIte, Nat.reduceEqDiff, Nat.reduceBEq, Try.ntmps3, M.walked_zero, bg0t, bg1f, bh16t]) <;> exact rfl
  · (simp only [go_sem, Nat.reducePow, Nat.reduceLT, Nat.reduceAdd, Nat.reduceSub, Nat.reduceMul, Nat.reduceLeDiff, reduceIte, Nat.reduceEqDiff, Nat.reduceBEq, Try.ntmps3, M.walked_zero, bg0t, bg1f, bh16t]) <;> exact rfl
  · exact known_ok
  apply W_run
  · (simp only [go_sem, Nat.reducePow, Nat.reduceLT, Nat.reduceAdd, Nat.reduceSub, Nat.reduceMul, Nat.reduceLeDiff, reduceIte, Nat.reduceEqDiff, Nat.reduceBEq, Try.ntmps3, M.walked_zero, bg0t, bg1f, bh16t]) <;> exact rfl
  apply W_nil
  apply K_seq
  apply T_ret
  apply K_seqR
  apply fin_ret
  · (simp only [go_sem, Nat.reducePow, Nat.reduceLT, Nat.reduceAdd, Nat.reduceSub, Nat.reduceMul, Nat.reduceLeDiff, reduceIte, Nat.reduceEqDiff, Nat.reduceBEq, Try.ntmps3, M.walked_zero, bg0t, bg1f, bh16t, Try.f3]) <;> exact rfl
  -- leaf 27 (ret)
  simp only [go_sem, Nat.reducePow, Nat.reduceLT, Nat.reduceAdd, Nat.reduceSub, Nat.reduceMul, Nat.reduceLeDiff, reduceIte, Nat.reduceEqDiff, Nat.reduceBEq, Try.ntmps3, M.walked_zero, bg0t, bg1f, bh16t, V.bool.injEq, V.int.injEq, true_and]
  all_goals grind)
  · intro bh16f
    exact absurd bh16f (by simp)))
  · intro bg0f
    have g0f := bg0f
    try simp only [beq_true, beq_false, decide_eq_true_eq, decide_eq_false_iff_not, Bool.not_eq_true', Bool.not_eq_false', Bool.not_eq_true, Bool.not_eq_false, ne_eq, Int.ofNat_lt, Int.ofNat_le, beq_iff_eq, bne_iff_ne, beq_eq_false_iff_ne, bne_eq_false_iff_eq, ge_iff_le, gt_iff_lt, Bool.not_true, Bool.not_false, Decidable.not_not, Int.natCast_inj, Int.natCast_nonneg] at g0f
    try simp only [beq_true, beq_false, Bool.not_eq_true', Bool.not_eq_false', Bool.not_not, Bool.not_true, Bool.not_false] at bg0f
    try exact absurd bg0f (by decide)
    all_goals (
  apply W_pre [4, 5, 6, 7] [8, 9, 10, 11, 12, 13, 14, 15, 16, 17, 18, 19]
  · (simp only [go_sem, Nat.reducePow, Nat.reduceLT, Nat.reduceAdd, Nat.reduceSub, Nat.reduceMul, Nat.reduceLeDiff, reduceIte, Nat.reduceEqDiff, Nat.reduceBEq, Try.ntmps3, M.walked_zero, bg0f]) <;> exact rfl
  apply W_pre [8, 9, 10, 11] [12, 13, 14, 15, 16, 17, 18, 19]
  · (simp only [go_sem, Nat.reducePow, Nat.reduceLT, Nat.reduceAdd, Nat.reduceSub, Nat.reduceMul, Nat.reduceLeDiff, reduceIte, Nat.reduceEqDiff, Nat.reduceBEq, Try.ntmps3, M.walked_zero, bg0f]) <;> exact rfl
  apply W_pre [12, 13, 14, 15] [16, 17, 18, 19]
  · (simp only [go_sem, Nat.reducePow, Nat.reduceLT, Nat.reduceAdd, Nat.reduceSub, Nat.reduceMul, Nat.reduceLeDiff, reduceIte, Nat.reduceEqDiff, Nat.reduceBEq, Try.ntmps3, M.walked_zero, bg0f]) <;> exact rfl
  apply W_run
  · (simp only [go_sem, Nat.reducePow, Nat.reduceLT, Nat.reduceAdd, Nat.reduceSub, Nat.reduceMul, Nat.reduceLeDiff, reduceIte, Nat.reduceEqDiff, Nat.reduceBEq, Try.ntmps3, M.walked_zero, bg0f]) <;> exact rfl
  apply W_nil
  apply K_seq
  apply T_if
  · (simp only [go_sem, Nat.reducePow, Nat.reduceLT, Nat.reduceAdd, Nat.reduceSub, Nat.reduceMul, Nat.reduceLeDiff, reduceIte, Nat.reduceEqDiff, Nat.reduceBEq, Try.ntmps3, M.walked_zero, bg0f]) <;> exact rfl
  · intro bh17t
    have h17t := bh17t
    try simp only [beq_true, beq_false, decide_eq_true_eq, decide_eq_false_iff_not, Bool.not_eq_true', Bool.not_eq_false', Bool.not_eq_true, Bool.not_eq_false, ne_eq, Int.ofNat_lt, Int.ofNat_le, beq_iff_eq, bne_iff_ne, beq_eq_false_iff_ne, bne_eq_false_iff_eq, ge_iff_le, gt_iff_lt, Bool.not_true, Bool.not_false, Decidable.not_not, Int.natCast_inj, Int.natCast_nonneg] at h17t
    try simp only [beq_true, beq_false, Bool.not_eq_true', Bool.not_eq_false', Bool.not_not, Bool.not_true, Bool.not_false] at bh17t
    try exact absurd bh17t (by decide)
    all_goals (
  apply T_seq
  apply T_wL F [0, 1] rfl
  apply W_call -- call 16 of function 16
  · (simp only [go_sem, Nat.reducePow, Nat.reduceLT, Nat.reduceAdd, Nat.reduceSub, Nat.reduceMul, Nat.reduceLeDiff, reduceIte, Nat.reduceEqDiff, Nat.reduceBEq, Try.ntmps3, M.walked_zero, bg0f, bh17t]) <;> exact rfl
  · (simp only [go_sem, Nat.reducePow, Nat.reduceLT, Nat.reduceAdd, Nat.reduceSub, Nat.reduceMul, Nat.reduceLeDiff, reduceIte, Nat.reduceEqDiff, Nat.reduceBEq, Try.ntmps3, M.walked_zero, bg0f, bh17t]) <;> exact rfl
  · exact rfl
  · (simp only [go_sem, Nat.reducePow, Nat.reduceLT, Nat.reduceAdd, Nat.reduceSub, Nat.reduceMul, Nat.reduceLeDiff, reduceIte, Nat.reduceEqDiff, Nat.reduceBEq, Try.ntmps3, M.walked_zero, bg0f, bh17t]) <;> exact rfl
  · (simp only [go_sem, Nat.reducePow, Nat.reduceLT, Nat.reduceAdd, Nat.reduceSub, Nat.reduceMul, Nat.reduceLeDiff, reduceIte, Nat.reduceEqDiff, Nat.reduceBEq, Try.ntmps3, M.walked_zero, bg0f, bh17t]) <;> exact rfl
  · exact ⟨_, Try.func16, rfl, rfl⟩
  · (simp only [go_sem, Nat.reducePow, Nat.reduceLT, Nat.reduceAdd, Nat.reduceSub, Nat.reduceMul, Nat.reduceLeDiff, reduceIte, Nat.reduceEqDiff, Nat.reduceBEq, Try.ntmps3, M.walked_zero, bg0f, bh17t]) <;> exact rfl
  · (simp only [go_sem, Nat.reducePow, Nat.reduceLT, Nat.reduceAdd, Nat.reduceSub, Nat.reduceMul, Nat.reduceLeDiff, reduceIte, Nat.reduceEqDiff, Nat.reduceBEq, Try.ntmps3, M.walked_zero, bg0f, bh17t]) <;> exact rfl
  · exact known_ok
  apply W_run
  · (simp only [go_sem, Nat.reducePow, Nat.reduceLT, Nat.reduceAdd, Nat.reduceSub, Nat.reduceMul, Nat.reduceLeDiff, reduceIte, Nat.reduceEqDiff, Nat.reduceBEq, Try.ntmps3, M.walked_zero, bg0f, bh17t]) <;> exact rfl
  apply W_nil
  apply K_seq
  apply T_ret
  apply K_seqR
  apply fin_ret
  · (simp only [go_sem, Nat.reducePow, Nat.reduceLT, Nat.reduceAdd, Nat.reduceSub, Nat.reduceMul, Nat.reduceLeDiff, reduceIte, Nat.reduceEqDiff, Nat.reduceBEq, Try.ntmps3, M.walked_zero, bg0f, bh17t, Try.f3]) <;> exact rfl
  -- leaf 28 (ret)
  simp only [go_sem, Nat.reducePow, Nat.reduceLT, Nat.reduceAdd, Nat.reduceSub, Nat.reduceMul, Nat.reduceLeDiff, reduceIte, Nat.reduceEqDiff, Nat.reduceBEq, Try.ntmps3, M.walked_zero, bg0f, bh17t, V.bool.injEq, V.int.injEq, true_and]
  all_goals grind)
  · intro bh17f
    exact absurd bh17f (by simp))

end Go.Ab
